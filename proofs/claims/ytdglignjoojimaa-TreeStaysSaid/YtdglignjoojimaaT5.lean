/- The plain law of trees, part 5: what is visited. No program in sight. No conditions. -/
import Derived.Test.YtdglignjoojimaaT4
set_option linter.unusedVariables false
set_option linter.unusedSimpArgs false
namespace Go.Proofs.Ytdglignjoojimaa

def fromP (k : Int) (l : List Pr) : List Pr := l.filter (fun p => decide (k ≤ p.1))
def vis (to : Int) (l : List Pr) : List Pr := l.takeWhile (fun p => decide (p.1 ≤ to))
def visB (to : Int) (l : List Pr) : Bool := l.all (fun p => decide (p.1 ≤ to))
def rangeP (k to : Int) (l : List Pr) : List Pr := l.filter (fun p => decide (k ≤ p.1) && decide (p.1 ≤ to))
theorem vis_all {to : Int} {l : List Pr} (h : visB to l = true) : vis to l = l := by
  unfold vis
  unfold visB at h
  induction l with
  | nil => rfl
  | cons p l ih =>
    rw [List.all_cons, Bool.and_eq_true] at h
    rw [List.takeWhile_cons, if_pos h.1, ih h.2]
theorem vis_app {to : Int} {a b : List Pr} (h : visB to a = true) : vis to (a ++ b) = a ++ vis to b := by
  induction a with
  | nil => rfl
  | cons p a ih =>
    unfold visB at h
    rw [List.all_cons, Bool.and_eq_true] at h
    have := ih h.2
    unfold vis at this ⊢
    rw [List.cons_append, List.takeWhile_cons, if_pos h.1, this]; rfl
theorem vis_stop {to : Int} {a b : List Pr} (h : visB to a = false) : vis to (a ++ b) = vis to a := by
  induction a with
  | nil => cases h
  | cons p a ih =>
    unfold vis at ih ⊢
    rw [List.cons_append, List.takeWhile_cons, List.takeWhile_cons]
    by_cases hp : decide (p.1 ≤ to) = true
    · rw [if_pos hp, if_pos hp, ih]
      unfold visB at h ⊢
      rw [List.all_cons, hp] at h; simpa using h
    · rw [if_neg hp, if_neg hp]
theorem visB_app (to : Int) (a b : List Pr) : visB to (a ++ b) = (visB to a && visB to b) := List.all_append
theorem fromP_app (k : Int) (a b : List Pr) : fromP k (a ++ b) = fromP k a ++ fromP k b := List.filter_append ..
theorem fromP_snoc (k : Int) (l : List Pr) (i : Nat) (hi : i < l.length) : fromP k (l.take (i + 1)) = fromP k (l.take i) ++ (if k ≤ l[i].1 then [l[i]] else []) := by
  rw [List.take_succ_eq_append_getElem hi, fromP_app]
  congr 1
  unfold fromP
  rw [List.filter_cons]
  by_cases h : k ≤ l[i].1 <;> simp [h]
theorem vis_range : ∀ {l : List Pr} {lo hi k to : Int}, Up lo hi (keysP l) → vis to (fromP k l) = rangeP k to l
  | [], _, _, _, _, _ => rfl
  | p :: l, lo, hi, k, to, h => by
    obtain ⟨h1, h2, h3⟩ : lo ≤ p.1 ∧ p.1 < hi ∧ Up (p.1 + 1) hi (keysP l) := h
    have ih := vis_range (k := k) (to := to) h3
    unfold fromP rangeP at ih ⊢
    by_cases hk : k ≤ p.1
    · rw [List.filter_cons_of_pos (by simpa using hk)]
      by_cases ht : p.1 ≤ to
      · rw [List.filter_cons_of_pos (by simp [hk, ht]), ← ih]
        unfold vis
        rw [List.takeWhile_cons, if_pos (by simpa using ht)]
      · rw [List.filter_cons_of_neg (by simp [ht])]
        unfold vis
        rw [List.takeWhile_cons, if_neg (by simpa using ht)]
        symm
        refine filter_no fun q hq => ?_
        have := h3.mem (x := q.1) (List.mem_map.2 ⟨q, hq, rfl⟩)
        simp; omega
    · rw [List.filter_cons_of_neg (by simpa using hk), List.filter_cons_of_neg (by simp [hk])]
      exact ih
/-- The kids ahead of a key's way have lesser keys only. -/
theorem Ch.ahead {d : Nat} : ∀ {ks : List Int} {ts : List Tr} {lo hi : Int} (k : Int), Ch (In d) lo hi ks ts → ∀ p ∈ (ts.take (ub ks k)).flatMap (flat d), p.1 < k
  | [], ts, lo, hi, k, h, p, hp => by simp [ub] at hp
  | s :: ks, ts, lo, hi, k, ⟨t, ts', e, h1, h2, h3, h⟩, p, hp => by
    subst e
    unfold ub at hp
    split at hp
    · rename_i hs
      simp only [List.take_succ_cons, List.flatMap_cons, List.mem_append] at hp
      rcases hp with hp | hp
      · have := h3.up.mem (x := p.1) (List.mem_map.2 ⟨p, hp, rfl⟩); omega
      · exact h.ahead k p hp
    · simp at hp
theorem from_way {d : Nat} {ks : List Int} {ts : List Tr} {lo hi : Int} (k : Int) (h : Ch (In d) lo hi ks ts) : fromP k (ts.flatMap (flat d)) = fromP k ((ts.drop (ub ks k)).flatMap (flat d)) := by
  conv => lhs; rw [← List.take_append_drop (ub ks k) ts, List.flatMap_append, fromP_app]
  have : fromP k ((ts.take (ub ks k)).flatMap (flat d)) = [] := filter_no fun p hp => by have := h.ahead k p hp; simp; omega
  rw [this]; rfl
theorem flat_snoc {d : Nat} (ts : List Tr) (j : Nat) (hj : j < ts.length) : (ts.take (j + 1)).flatMap (flat d) = (ts.take j).flatMap (flat d) ++ flat d ts[j] := by
  rw [List.take_succ_eq_append_getElem hj, List.flatMap_append]; simp
theorem flat_part {d : Nat} (ts : List Tr) (j : Nat) (hj : j < ts.length) : ts.flatMap (flat d) = (ts.take j).flatMap (flat d) ++ (flat d ts[j] ++ (ts.drop (j + 1)).flatMap (flat d)) := by
  conv => lhs; rw [← List.take_append_drop j ts, List.drop_eq_getElem_cons hj, List.flatMap_append, List.flatMap_cons]
theorem len_take {d : Nat} (ts : List Tr) (j : Nat) : ((ts.take j).flatMap (flat d)).length ≤ (ts.flatMap (flat d)).length := by
  conv => rhs; rw [← List.take_append_drop j ts, List.flatMap_append, List.length_append]
  omega
theorem fromP_len (k : Int) (l : List Pr) : (fromP k l).length ≤ l.length := List.length_filter_le _ _
theorem vis_len (to : Int) (l : List Pr) : (vis to l).length ≤ l.length := (List.takeWhile_sublist _).length_le
end Go.Proofs.Ytdglignjoojimaa
