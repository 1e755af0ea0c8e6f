/- The plain law of extent lists: sorted, apart, their sum. No program in sight. No conditions. -/
import Derived.Test.YtgnjocnbohbfaaaRA7
set_option linter.unusedVariables false
set_option linter.unusedSimpArgs false
namespace Go.Proofs.YtgnjocnbohbfaaaR

/-- A list of extents, rising and apart, each within a map. -/
structure Good (f : List Ex) : Prop where
  ok : ∀ x ∈ f, OkE x
  up : f.Pairwise (fun x y => x.1 + x.2 ≤ y.1)
/-- x lies behind the sector b -/
theorem Good.sum_le : ∀ {f : List Ex} {b : Int}, Good f → 0 ≤ b → b ≤ 1024 → (∀ x ∈ f, b ≤ x.1) → (f.length : Int) ≤ sumL f ∧ sumL f ≤ 1024 - b
  | [], b, _, hb, hb', _ => by simp [sumL]; omega
  | x :: f, b, hG, hb, hb', h => by
    have hx := hG.ok x (by simp)
    have hbx := h x (by simp)
    unfold OkE at hx
    have ih := Good.sum_le (f := f) (b := x.1 + x.2) ⟨fun y hy => hG.ok y (List.mem_cons_of_mem _ hy), (List.pairwise_cons.1 hG.up).2⟩ (by omega) (by omega) (fun y hy => (List.pairwise_cons.1 hG.up).1 y hy)
    simp only [sumL, List.map_cons, List.sum_cons, List.length_cons] at ih ⊢
    omega
theorem Good.sum {f : List Ex} (h : Good f) : (f.length : Int) ≤ sumL f ∧ sumL f ≤ 1024 := by
  have := h.sum_le (b := 0) (by omega) (by omega) (fun x hx => (h.ok x hx).1)
  omega
theorem Good.len {f : List Ex} (h : Good f) : f.length ≤ 1024 := by have := h.sum; omega
theorem cut1_in {e x y : Ex} (he : OkE e) (hx : OkE x) (hy : y ∈ cut1 e x) : OkE y ∧ x.1 ≤ y.1 ∧ y.1 + y.2 ≤ x.1 + x.2 := by
  unfold OkE at *
  unfold cut1 at hy
  split at hy
  · simp only [List.mem_singleton] at hy; subst hy; omega
  · rcases List.mem_append.1 hy with h | h
    · split at h
      · simp only [List.mem_singleton] at h; subst h; simp only; omega
      · simp at h
    · split at h
      · simp only [List.mem_singleton] at h; subst h; simp only; omega
      · simp at h
theorem cut1_up {e x : Ex} (he : OkE e) : (cut1 e x).Pairwise (fun x y => x.1 + x.2 ≤ y.1) := by
  unfold OkE at he
  unfold cut1
  split
  · simp
  · split <;> split <;> simp <;> omega
theorem Good.cut {f : List Ex} {e : Ex} (h : Good f) (he : OkE e) : Good (cutL e f) := by
  refine ⟨fun y hy => ?_, ?_⟩
  · obtain ⟨x, hx, hy⟩ := List.mem_flatMap.1 hy
    exact (cut1_in he (h.ok x hx) hy).1
  · unfold cutL
    rw [List.pairwise_flatMap]
    refine ⟨fun x hx => cut1_up he, ?_⟩
    refine h.up.imp_of_mem fun {x y} hx hy hxy a ha b hb => ?_
    have h1 := cut1_in he (h.ok x hx) ha
    have h2 := cut1_in he (h.ok y hy) hb
    omega
theorem cut1_sum {e x : Ex} (he : OkE e) (h1 : x.1 ≤ e.1) (h2 : e.1 + e.2 ≤ x.1 + x.2) : sumL (cut1 e x) = x.2 - e.2 := by
  unfold cut1
  rw [if_neg (by omega)]
  split <;> split <;> simp [sumL] <;> omega
theorem sumL_cons (x : Ex) (l : List Ex) : sumL (x :: l) = x.2 + sumL l := by simp [sumL]
theorem sumL_app (a b : List Ex) : sumL (a ++ b) = sumL a + sumL b := by unfold sumL; rw [List.map_append, List.sum_append_int]
theorem cut1_far {e x : Ex} (he : OkE e) (h : x.1 + x.2 ≤ e.1 ∨ e.1 + e.2 ≤ x.1) : cut1 e x = [x] := by
  unfold OkE at he
  unfold cut1
  rw [if_pos (by omega)]
theorem cutL_far {e : Ex} (he : OkE e) : ∀ {f : List Ex}, (∀ x ∈ f, x.1 + x.2 ≤ e.1 ∨ e.1 + e.2 ≤ x.1) → cutL e f = f
  | [], _ => rfl
  | x :: f, h => by
    have ih := cutL_far he (f := f) (fun y hy => h y (List.mem_cons_of_mem _ hy))
    show cut1 e x ++ cutL e f = _
    rw [cut1_far he (h x (by simp)), ih]; rfl
theorem cutL_sum {e x : Ex} (he : OkE e) (h1 : x.1 ≤ e.1) (h2 : e.1 + e.2 ≤ x.1 + x.2) : ∀ {f : List Ex}, Good f → x ∈ f → sumL (cutL e f) = sumL f - e.2
  | [], _, h => by simp at h
  | y :: f, hG, hx => by
    have hup := List.pairwise_cons.1 hG.up
    have hG' : Good f := ⟨fun z hz => hG.ok z (List.mem_cons_of_mem _ hz), hup.2⟩
    show sumL (cut1 e y ++ cutL e f) = _
    rw [sumL_app, sumL_cons]
    rcases List.mem_cons.1 hx with rfl | hx
    · rw [cut1_sum he h1 h2, cutL_far he (fun z hz => .inr (by have := hup.1 z hz; omega))]; omega
    · rw [cut1_far he (.inl (by have := hup.1 x hx; omega)), cutL_sum he h1 h2 hG' hx]
      simp [sumL]; omega
theorem AllocP.good {n : Int} {f f' : List Ex} {e : Ex} {er : Int} (h : AllocP n f e er f') (hG : Good f) : Good f' := by
  rcases h with ⟨_, _, _, rfl⟩ | ⟨_, _, _, _, rfl⟩ | ⟨h1, _, x, hx, _, rfl, rfl⟩
  · exact hG
  · exact hG
  · have := hG.ok x hx
    unfold OkE at this
    refine hG.cut ?_
    unfold OkE
    simp only
    split <;> omega
theorem AllocP.some {n : Int} {f f' : List Ex} {e : Ex} {er : Int} (h : AllocP n f e er f') (hG : Good f) (hn : 1 ≤ n) (hs : n ≤ sumL f) :
    er = 0 ∧ OkE e ∧ e.2 ≤ n ∧ sumL f' = sumL f - e.2 := by
  rcases h with ⟨_, _, _, rfl⟩ | ⟨_, rfl, _, _, rfl⟩ | ⟨h1, he, x, hx, _, rfl, rfl⟩
  · omega
  · simp [sumL] at hs; omega
  · have h0 := hG.ok x hx
    unfold OkE at h0
    have hO : OkE (x.1, if n < x.2 then n else x.2) := by unfold OkE; simp only; split <;> omega
    have hle : (if n < x.2 then n else x.2) ≤ x.2 ∧ (if n < x.2 then n else x.2) ≤ n := by split <;> omega
    refine ⟨he, hO, hle.2, cutL_sum hO (by simp) (by simp only; omega) hG hx⟩

/-- All's rounds, from the left. -/
inductive AllS (n : Int) (f : List Ex) : Int → List Ex → List Ex → Prop
  | nil : AllS n f n [] f
  | snoc {n' : Int} {out f' f'' : List Ex} {e : Ex} : AllS n f n' out f' → 1 ≤ n' → AllocP n' f' e 0 f'' → AllS n f (n' - e.2) (out ++ [e]) f''
theorem AllS.facts {n n' : Int} {f out f' : List Ex} (h : AllS n f n' out f') (hG : Good f) (hn : n ≤ sumL f) :
    Good f' ∧ n' ≤ sumL f' ∧ sumL out = n - n' ∧ sumL f' = sumL f - sumL out ∧ (out.length : Int) ≤ sumL out ∧ (0 ≤ n → 0 ≤ n') := by
  induction h with
  | nil => exact ⟨hG, hn, by simp [sumL], by simp [sumL], by simp [sumL], id⟩
  | snoc _ h1 ha ih =>
    obtain ⟨i1, i2, i3, i4, i5, i6⟩ := ih
    obtain ⟨_, a1, a2, a3⟩ := ha.some i1 h1 i2
    unfold OkE at a1
    rw [sumL_app, List.length_append]
    simp only [sumL, List.map_cons, List.map_nil, List.sum_cons, List.sum_nil, List.length_singleton] at *
    exact ⟨ha.good i1, by omega, by omega, by omega, by omega, fun _ => by omega⟩
end Go.Proofs.YtgnjocnbohbfaaaR
