/- The plain law of extent lists, part 2: putting one in. No program in sight. No conditions. -/
import Derived.Test.YtgnjocnbohbfaaaRQ1
set_option linter.unusedVariables false
set_option linter.unusedSimpArgs false
namespace Go.Proofs.YtgnjocnbohbfaaaR

def ins (e : Ex) : List Ex → List Ex
  | [] => [e]
  | x :: l => if x.1 < e.1 then x :: ins e l else e :: x :: l
theorem ins_eq (e : Ex) : ∀ l : List Ex, l.take (insI e l) ++ [e] ++ l.drop (insI e l) = ins e l
  | [] => rfl
  | x :: l => by
    have ih := ins_eq e l
    unfold insI at ih ⊢
    rw [List.takeWhile_cons]
    by_cases h : x.1 < e.1
    · simp only [h, decide_true, if_true, List.length_cons, List.take_succ_cons, List.drop_succ_cons, List.cons_append, ins]
      rw [← ih]
    · simp [h, ins]
theorem ins_mem {e x : Ex} : ∀ {l : List Ex}, x ∈ ins e l ↔ x = e ∨ x ∈ l
  | [] => by simp [ins]
  | y :: l => by
    unfold ins
    split
    · rw [List.mem_cons, ins_mem (l := l), List.mem_cons]
      constructor <;> rintro (h | h | h) <;> simp_all
    · simp
def Far (e x : Ex) : Prop := x.1 + x.2 ≤ e.1 ∨ e.1 + e.2 ≤ x.1
theorem Good.tail {x : Ex} {l : List Ex} (h : Good (x :: l)) : Good l := ⟨fun y hy => h.ok y (List.mem_cons_of_mem _ hy), (List.pairwise_cons.1 h.up).2⟩
theorem Good.ins {e : Ex} (he : OkE e) : ∀ {l : List Ex}, Good l → (∀ x ∈ l, Far e x) → Good (ins e l)
  | [], _, _ => ⟨fun x hx => by simp [Go.Proofs.YtgnjocnbohbfaaaR.ins] at hx; subst hx; exact he, by simp [Go.Proofs.YtgnjocnbohbfaaaR.ins]⟩
  | x :: l, hG, hF => by
    have hx := hG.ok x (by simp)
    have hfx := hF x (by simp)
    have hup := List.pairwise_cons.1 hG.up
    unfold OkE at hx
    unfold Far at hfx
    have he' := he
    unfold OkE at he'
    unfold Go.Proofs.YtgnjocnbohbfaaaR.ins
    split
    · have ih := Good.ins he hG.tail (fun y hy => hF y (List.mem_cons_of_mem _ hy))
      refine ⟨fun y hy => ?_, List.pairwise_cons.2 ⟨fun y hy => ?_, ih.up⟩⟩
      · rcases List.mem_cons.1 hy with rfl | hy
        · exact hx
        · exact ih.ok y hy
      · rcases ins_mem.1 hy with rfl | hy
        · omega
        · exact hup.1 y hy
    · refine ⟨fun y hy => ?_, List.pairwise_cons.2 ⟨fun y hy => ?_, hG.up⟩⟩
      · rcases List.mem_cons.1 hy with rfl | hy
        · exact he
        · exact hG.ok y hy
      · rcases List.mem_cons.1 hy with rfl | hy
        · omega
        · have := hup.1 y hy
          omega
theorem mR_cases (L : List Ex) (i : Nat) : mR L i = L ∨ ∃ A x y B, L = A ++ x :: y :: B ∧ A.length = i ∧ x.1 + x.2 = y.1 ∧ mR L i = A ++ (x.1, x.2 + y.2) :: B := by
  unfold mR
  split
  · rename_i h
    split
    · rename_i hm
      refine .inr ⟨L.take i, L[i], L[i + 1], L.drop (i + 2), ?_, by simp; omega, hm, ?_⟩
      · rw [← List.drop_eq_getElem_cons (by omega), ← List.drop_eq_getElem_cons (by omega), List.take_append_drop]
      · rw [List.eraseIdx_eq_take_drop_succ, List.take_succ_eq_append_getElem (by simp; omega), List.take_set_of_le (by omega), List.drop_set_of_lt (by omega)]
        simp
    · exact .inl rfl
  · exact .inl rfl
theorem mL_eq (L : List Ex) (i : Nat) (hi : 0 < i) : mL L i = mR L (i - 1) := by
  obtain ⟨j, rfl⟩ : ∃ j, i = j + 1 := ⟨i - 1, by omega⟩
  unfold mL mR
  simp only [Nat.add_sub_cancel]
  by_cases h : j + 1 < L.length
  · rw [dif_pos ⟨by omega, h⟩, dif_pos h]
  · rw [dif_neg (by omega), dif_neg h]
theorem Good.mR {L : List Ex} (h : Good L) (i : Nat) : Good (mR L i) := by
  rcases mR_cases L i with e | ⟨A, x, y, B, rfl, _, hxy, e⟩
  · rw [e]; exact h
  · rw [e]
    have hx := h.ok x (by simp)
    have hy := h.ok y (by simp)
    unfold OkE at hx hy
    have hup := h.up
    rw [List.pairwise_append] at hup
    obtain ⟨u1, u2, u3⟩ := hup
    rw [List.pairwise_cons, List.pairwise_cons] at u2
    refine ⟨fun z hz => ?_, List.pairwise_append.2 ⟨u1, List.pairwise_cons.2 ⟨fun z hz => ?_, u2.2.2⟩, fun a ha b hb => ?_⟩⟩
    · simp only [List.mem_append, List.mem_cons] at hz
      rcases hz with hz | rfl | hz
      · exact h.ok z (by simp [hz])
      · unfold OkE; simp only; omega
      · exact h.ok z (by simp [hz])
    · have := u2.2.1 z hz
      simp only
      omega
    · rcases List.mem_cons.1 hb with rfl | hb
      · exact u3 a ha x (by simp)
      · exact u3 a ha b (by simp [hb])
theorem Good.put {e : Ex} {l : List Ex} (he : OkE e) (hG : Good l) (hF : ∀ x ∈ l, Far e x) : Good (putL e l) := by
  unfold putL
  rw [ins_eq]
  have h1 := (hG.ins he hF).mR (insI e l)
  rcases Nat.eq_zero_or_pos (insI e l) with h | h
  · have : mL (Go.Proofs.YtgnjocnbohbfaaaR.mR (Go.Proofs.YtgnjocnbohbfaaaR.ins e l) (insI e l)) (insI e l) = Go.Proofs.YtgnjocnbohbfaaaR.mR (Go.Proofs.YtgnjocnbohbfaaaR.ins e l) (insI e l) := by
      rw [h]; unfold mL; rw [dif_neg (by omega)]
    rw [this]; exact h1
  · rw [mL_eq _ _ h]; exact h1.mR _
theorem takenB_far {t s n : Int} {f l : List Ex} (h : takenB t s n f l = true) (ht : t ≤ 1024) (hG : ∀ x ∈ f, OkE x) : ∀ x ∈ f, Far (s, n) x := by
  obtain ⟨ho, _⟩ := thereB_ok (takenB_there h) ht
  simp only [takenB, Bool.and_eq_true, Bool.not_eq_true'] at h
  intro x hx
  have hm := h.1.2
  unfold meetsB at hm
  rw [List.any_eq_false] at hm
  have := hm x hx
  simp only at this
  have hxo := hG x hx
  unfold OkE at ho hxo
  simp only at ho
  rw [wrap_id (by omega) (by omega), wrap_id (by omega) (by omega)] at this
  simp only [Bool.and_eq_true, decide_eq_true_eq, not_and] at this
  unfold Far
  simp only
  omega
theorem AllS.neg {n n' : Int} {f out f' : List Ex} (h : AllS n f n' out f') (hn : n ≤ 0) : n' = n ∧ out = [] ∧ f' = f := by
  induction h with
  | nil => exact ⟨rfl, rfl, rfl⟩
  | snoc _ h1 _ ih => omega
end Go.Proofs.YtgnjocnbohbfaaaR
