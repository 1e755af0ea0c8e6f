/- The plain law of cover: how often a sector lies in a list of extents. No program in sight. No conditions. -/
import Derived.Test.YtgnjocnbohbfaaaRQ2
set_option linter.unusedVariables false
set_option linter.unusedSimpArgs false
namespace Go.Proofs.YtgnjocnbohbfaaaR

def inX (s : Int) (x : Ex) : Bool := decide (x.1 ≤ s) && decide (s < x.1 + x.2)
def cnt (L : List Ex) (s : Int) : Nat := L.countP (inX s)
theorem cnt_app (a b : List Ex) (s : Int) : cnt (a ++ b) s = cnt a s + cnt b s := List.countP_append
theorem cnt_cons (x : Ex) (l : List Ex) (s : Int) : cnt (x :: l) s = cnt l s + (if inX s x then 1 else 0) := List.countP_cons ..
theorem cnt_nil (s : Int) : cnt [] s = 0 := rfl
theorem inX_iff {s : Int} {x : Ex} : inX s x = true ↔ x.1 ≤ s ∧ s < x.1 + x.2 := by simp [inX]
theorem cnt_pos {l : List Ex} {x : Ex} {s : Int} (hx : x ∈ l) (h : inX s x = true) : 0 < cnt l s := List.countP_pos_iff.2 ⟨x, hx, h⟩

theorem cnt_ins (e : Ex) (s : Int) : ∀ l : List Ex, cnt (ins e l) s = cnt l s + (if inX s e then 1 else 0)
  | [] => by simp [ins, cnt_cons, cnt_nil]
  | x :: l => by
    unfold ins
    split
    · rw [cnt_cons, cnt_ins e s l, cnt_cons]; omega
    · rw [cnt_cons]
theorem cnt_mR (L : List Ex) (i : Nat) (s : Int) (h : ∀ x ∈ L, 1 ≤ x.2) : cnt (mR L i) s = cnt L s := by
  rcases mR_cases L i with e | ⟨A, x, y, B, rfl, _, hxy, e⟩
  · rw [e]
  · rw [e, cnt_app, cnt_app, cnt_cons, cnt_cons, cnt_cons]
    have hx := h x (by simp)
    have hy := h y (by simp)
    by_cases h1 : inX s x = true <;> by_cases h2 : inX s y = true <;> by_cases h3 : inX s (x.1, x.2 + y.2) = true <;> simp only [h1, h2, h3, if_true, if_false, Bool.false_eq_true] <;> rw [inX_iff] at h1 h2 h3 <;> simp only at h3 <;> omega
theorem cnt_put {e : Ex} {l : List Ex} (he : OkE e) (hG : Good l) (hF : ∀ x ∈ l, Far e x) (s : Int) : cnt (putL e l) s = cnt l s + (if inX s e then 1 else 0) := by
  unfold putL
  rw [ins_eq]
  have g0 := hG.ins he hF
  have g1 := g0.mR (insI e l)
  have c1 := cnt_mR (ins e l) (insI e l) s (fun x hx => (g0.ok x hx).2.1)
  rcases Nat.eq_zero_or_pos (insI e l) with h | h
  · have : mL (mR (ins e l) (insI e l)) (insI e l) = mR (ins e l) (insI e l) := by
      rw [h]; unfold mL; rw [dif_neg (by omega)]
    rw [this, c1, cnt_ins]
  · rw [mL_eq _ _ h, cnt_mR _ _ _ (fun x hx => (g1.ok x hx).2.1), c1, cnt_ins]
theorem cnt_cut1 {e x : Ex} (he : OkE e) (h1 : x.1 ≤ e.1) (h2 : e.1 + e.2 ≤ x.1 + x.2) (s : Int) : cnt (cut1 e x) s + (if inX s e then 1 else 0) = (if inX s x then 1 else 0) := by
  unfold OkE at he
  unfold cut1
  rw [if_neg (by omega), cnt_app]
  split <;> split <;> simp only [cnt_cons, cnt_nil, inX_iff] <;> (repeat' split) <;> omega
theorem cnt_cut {e x : Ex} (he : OkE e) (h1 : x.1 ≤ e.1) (h2 : e.1 + e.2 ≤ x.1 + x.2) (s : Int) : ∀ {f : List Ex}, Good f → x ∈ f → cnt (cutL e f) s + (if inX s e then 1 else 0) = cnt f s
  | [], _, h => by simp at h
  | y :: f, hG, hx => by
    have hup := List.pairwise_cons.1 hG.up
    show cnt (cut1 e y ++ cutL e f) s + _ = _
    rw [cnt_app, cnt_cons]
    rcases List.mem_cons.1 hx with rfl | hx
    · rw [cutL_far he (fun z hz => .inr (by have := hup.1 z hz; omega))]
      have := cnt_cut1 he h1 h2 s
      omega
    · rw [cut1_far he (.inl (by have := hup.1 x hx; omega)), cnt_cons, cnt_nil]
      have := cnt_cut he h1 h2 s hG.tail hx
      omega
end Go.Proofs.YtgnjocnbohbfaaaR
