/- The plain law of cover, part 3: the marks of an array, and their sum. No program in sight. No conditions. -/
import Derived.Test.YtgnjocnbohbfaaaRQ4
set_option linter.unusedVariables false
set_option linter.unusedSimpArgs false
namespace Go.Proofs.YtgnjocnbohbfaaaR

/-- The array's marks: how often each sector lies in the list. -/
def arrN (M : Nat) (L : List Ex) : List Value := (List.range M).map fun (s : Nat) => .int .u8 ((cnt L (s : Int) : Nat) : Int)
theorem arrN_len (M : Nat) (L : List Ex) : (arrN M L).length = M := by simp [arrN]
theorem arrN_get {M : Nat} (L : List Ex) {i : Nat} (hi : i < M) : (arrN M L)[i]? = some (.int .u8 ((cnt L (i : Int) : Nat) : Int)) := by simp [arrN, hi]
theorem arrN_nil (M : Nat) : arrN M [] = List.replicate M (.int .u8 0) := by
  apply List.ext_getElem
  · simp [arrN]
  · intro i h1 h2; simp [arrN, cnt_nil]
theorem arrN_zero {M : Nat} (L : List Ex) (a : Int) : arrN M (L ++ [(a, 0)]) = arrN M L := by
  apply List.ext_getElem
  · simp [arrN]
  · intro i h1 h2
    simp only [arrN, List.getElem_map, List.getElem_range, cnt_app, cnt_cons, cnt_nil, inX_iff]
    rw [if_neg (by omega)]
    rfl
theorem arrN_set {M : Nat} (L : List Ex) (a : Int) (i : Nat) (ha : a ≤ i) (hi : i < M) (hc : cnt L (i : Int) = 0) :
    (arrN M (L ++ [(a, (i : Int) - a)])).set i (.int .u8 1) = arrN M (L ++ [(a, (i : Int) + 1 - a)]) := by
  apply List.ext_getElem
  · simp [arrN]
  · intro j h1 h2
    rw [List.getElem_set]
    simp only [arrN, List.getElem_map, List.getElem_range, cnt_app, cnt_cons, cnt_nil, inX_iff]
    split
    · rename_i h; subst h
      rw [hc, if_pos (by omega)]; rfl
    · rename_i h
      congr 2
      split <;> split <;> omega
abbrev arr (L : List Ex) : List Value := arrN 1024 L
def hit (t : Nat) (x : Ex) : Nat := (List.range t).countP fun (s : Nat) => inX (s : Int) x
theorem hit_eq (x : Ex) (h0 : 0 ≤ x.1) (h1 : 0 ≤ x.2) : ∀ t : Nat, (hit t x : Int) = (if (t : Int) ≤ x.1 then 0 else if (t : Int) ≤ x.1 + x.2 then t - x.1 else x.2)
  | 0 => by simp [hit]; omega
  | t + 1 => by
    have ih := hit_eq x h0 h1 t
    unfold hit at ih ⊢
    rw [List.range_succ, List.countP_append, List.countP_cons, List.countP_nil]
    simp only [inX_iff, Nat.zero_add]
    push_cast
    rw [ih]
    repeat' split
    all_goals omega
def ones1 (t : Nat) (L : List Ex) : Nat := ((List.range t).map fun (s : Nat) => cnt L (s : Int)).sum
theorem ones1_cons (t : Nat) (x : Ex) (L : List Ex) : ones1 t (x :: L) = ones1 t L + hit t x := by
  unfold ones1 hit
  induction t with
  | zero => simp
  | succ t ih =>
    rw [List.range_succ, List.map_append, List.map_append, List.sum_append, List.sum_append, List.countP_append, ih]
    simp [cnt_cons]
    omega
theorem ones1_sum {t : Nat} : ∀ {L : List Ex}, (∀ x ∈ L, OkT t x) → (ones1 t L : Int) = sumL L
  | [], _ => by
    have : ones1 t [] = 0 := by
      unfold ones1
      induction t with
      | zero => rfl
      | succ t ih => rw [List.range_succ, List.map_append, List.sum_append, ih (by simp)]; rfl
    simp [this, sumL]
  | x :: L, h => by
    have hx := h x (by simp)
    unfold OkT at hx
    have ih := ones1_sum (t := t) (L := L) (fun y hy => h y (List.mem_cons_of_mem _ hy))
    have hh := hit_eq x (by omega) (by omega) t
    rw [ones1_cons, sumL_cons]
    push_cast
    rw [ih, hh]
    repeat' split
    all_goals omega
theorem ones1_all {t : Nat} {L : List Ex} (h : ∀ s : Int, 0 ≤ s → s < t → cnt L s = 1) : ones1 t L = t := by
  have : ∀ m, m ≤ t → ((List.range m).map fun (s : Nat) => cnt L (s : Int)).sum = m := by
    intro m
    induction m with
    | zero => intro _; rfl
    | succ m ih =>
      intro hm
      rw [List.range_succ, List.map_append, List.sum_append, ih (by omega)]
      simp [h m (by omega) (by omega)]
  exact this t (Nat.le_refl _)
theorem Cov.sum {t : Int} {o f l : List Ex} (h : Cov t o f l) (h0 : 0 ≤ t) : sumL (o ++ f ++ l) = t ∧ (∀ s, 0 ≤ s → s < t → cnt (o ++ f ++ l) s = 1) ∧ ∀ x ∈ o ++ f ++ l, OkT t x := by
  obtain ⟨m, rfl⟩ : ∃ m : Nat, t = m := ⟨t.toNat, by omega⟩
  have h1 : ∀ s : Int, 0 ≤ s → s < m → cnt (o ++ f ++ l) s = 1 := fun s k0 k1 => by rw [cnt_app, cnt_app]; exact h.one s k0 k1
  have h2 : ∀ x ∈ o ++ f ++ l, OkT m x := fun x hx => by
    simp only [List.mem_append] at hx
    rcases hx with (hx | hx) | hx
    · exact h.oo x hx
    · exact h.of x hx
    · exact h.ol x hx
  exact ⟨by rw [← ones1_sum h2, ones1_all h1], h1, h2⟩
end Go.Proofs.YtgnjocnbohbfaaaR
