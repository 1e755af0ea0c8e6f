/- The plain law of trees, part 8: what the laws say of pairs. No program in sight. No conditions. -/
import Derived.Test.YtdglignjoojimaaT7
set_option linter.unusedVariables false
set_option linter.unusedSimpArgs false
namespace Go.Proofs.Ytdglignjoojimaa

theorem ins_look (l : List Pr) (k : Int) (v : Int × Int) : lookP (insP l k v) k = some v := by
  unfold lookP insP
  rw [find_none_left (fun p hp => by have := (List.mem_filter.1 hp).2; simp at this; omega), List.find?_cons_of_pos (by simp)]; rfl
theorem del_look (l : List Pr) (k : Int) : lookP (delP l k) k = none := by
  unfold lookP delP
  rw [List.find?_eq_none.2 (fun p hp => by have := (List.mem_filter.1 hp).2; simpa using this)]; rfl
theorem ins_ge {l : List Pr} {k lo hi : Int} {v : Int × Int} (h : Up lo hi (keysP l)) : l.length ≤ (insP l k v).length := by
  rw [insP_len h]; split <;> omega
theorem filt2 (l : List Pr) (f g : Pr → Bool) : (l.filter f).filter g = l.filter (fun p => g p && f p) := by rw [List.filter_filter]
theorem filt_congr {l : List Pr} {f g : Pr → Bool} (h : ∀ p, f p = g p) : l.filter f = l.filter g := List.filter_congr fun p _ => h p
theorem ins_lt (l : List Pr) {a b : Int} (v u : Int × Int) (h : a < b) : insP (insP l a v) b u = insP (insP l b u) a v := by
  have e1 : insP (insP l a v) b u = l.filter (fun p => decide (p.1 < a)) ++ (a, v) :: l.filter (fun p => decide (a < p.1) && decide (p.1 < b)) ++ (b, u) :: l.filter (fun p => decide (b < p.1)) := by
    unfold insP
    rw [List.filter_append, List.filter_append, List.filter_cons_of_pos (by simpa using h), List.filter_cons_of_neg (by simp; omega), filt2, filt2, filt2, filt2]
    rw [filt_congr (g := fun p => decide (p.1 < a)) (fun p => by by_cases h1 : p.1 < a <;> by_cases h2 : p.1 < b <;> simp [h1, h2] <;> omega)]
    rw [filt_congr (f := fun p => decide (p.1 < b) && decide (a < p.1)) (g := fun p => decide (a < p.1) && decide (p.1 < b)) (fun p => Bool.and_comm _ _)]
    rw [filter_no (l := l) (p := fun p => decide (b < p.1) && decide (p.1 < a)) (fun p _ => by by_cases h1 : p.1 < a <;> by_cases h2 : b < p.1 <;> simp [h1, h2] <;> omega)]
    rw [filt_congr (f := fun p => decide (b < p.1) && decide (a < p.1)) (g := fun p => decide (b < p.1)) (fun p => by by_cases h1 : a < p.1 <;> by_cases h2 : b < p.1 <;> simp [h1, h2] <;> omega)]
    simp
  have e2 : insP (insP l b u) a v = l.filter (fun p => decide (p.1 < a)) ++ (a, v) :: l.filter (fun p => decide (a < p.1) && decide (p.1 < b)) ++ (b, u) :: l.filter (fun p => decide (b < p.1)) := by
    unfold insP
    rw [List.filter_append, List.filter_append, List.filter_cons_of_neg (by simp; omega), List.filter_cons_of_pos (by simpa using h), filt2, filt2, filt2, filt2]
    rw [filt_congr (f := fun p => decide (p.1 < a) && decide (p.1 < b)) (g := fun p => decide (p.1 < a)) (fun p => by by_cases h1 : p.1 < a <;> by_cases h2 : p.1 < b <;> simp [h1, h2] <;> omega)]
    rw [filter_no (l := l) (p := fun p => decide (p.1 < a) && decide (b < p.1)) (fun p _ => by by_cases h1 : p.1 < a <;> by_cases h2 : b < p.1 <;> simp [h1, h2] <;> omega)]
    rw [filt_congr (f := fun p => decide (a < p.1) && decide (b < p.1)) (g := fun p => decide (b < p.1)) (fun p => by by_cases h1 : a < p.1 <;> by_cases h2 : b < p.1 <;> simp [h1, h2] <;> omega)]
    simp
  rw [e1, e2]
theorem ins_comm (l : List Pr) {a b : Int} (v u : Int × Int) (h : a ≠ b) : insP (insP l a v) b u = insP (insP l b u) a v := by
  rcases Int.lt_or_gt_of_ne h with h | h
  · exact ins_lt l v u h
  · exact (ins_lt l u v h).symm
theorem del_split : ∀ {l : List Pr} {k lo hi : Int}, Up lo hi (keysP l) → delP l k = l.filter (fun p => decide (p.1 < k)) ++ l.filter (fun p => decide (k < p.1))
  | [], _, _, _, _ => rfl
  | p :: l, k, lo, hi, h => by
    obtain ⟨h1, h2, h3⟩ : lo ≤ p.1 ∧ p.1 < hi ∧ Up (p.1 + 1) hi (keysP l) := h
    have ih := del_split (k := k) h3
    unfold delP at ih ⊢
    rcases Int.lt_trichotomy p.1 k with hk | hk | hk
    · rw [List.filter_cons_of_pos (by simp; omega), List.filter_cons_of_pos (by simpa using hk), List.filter_cons_of_neg (by simp; omega), ih]; rfl
    · rw [List.filter_cons_of_neg (by simpa using hk), List.filter_cons_of_neg (by simp; omega), List.filter_cons_of_neg (by simp; omega), ih]
    · have hno : l.filter (fun q => decide (q.1 < k)) = [] := filter_no fun q hq => by
        have := h3.mem (x := q.1) (List.mem_map.2 ⟨q, hq, rfl⟩); simp; omega
      rw [List.filter_cons_of_pos (by simp; omega), List.filter_cons_of_neg (by simp; omega), List.filter_cons_of_pos (by simpa using hk), ih, hno]; rfl
theorem del_ins {l : List Pr} {k lo hi : Int} (v : Int × Int) (h : Up lo hi (keysP l)) : delP (insP l k v) k = delP l k := by
  rw [del_split h]
  unfold delP insP
  rw [List.filter_append, List.filter_cons_of_neg (by simp), filter_all (l := l.filter (fun p => decide (p.1 < k))) (fun p hp => by have := (List.mem_filter.1 hp).2; simp at this ⊢; omega), filter_all (l := l.filter (fun p => decide (k < p.1))) (fun p hp => by have := (List.mem_filter.1 hp).2; simp at this ⊢; omega)]
theorem Up.adj {l : List Pr} {lo hi : Int} (h : Up lo hi (keysP l)) {i : Nat} (hi' : i + 1 < l.length) : l[i].1 < l[i + 1].1 := by
  have := h.get_lt (i := i) (j := i + 1) (by omega) (by simpa [keysP] using hi')
  simpa [keysP] using this
end Go.Proofs.Ytdglignjoojimaa
