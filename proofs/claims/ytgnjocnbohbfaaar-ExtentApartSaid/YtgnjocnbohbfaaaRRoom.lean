/- The row ExtentRoom, proved. No conditions. -/
import Derived.Test.YtgnjocnbohbfaaaRRows
import Derived.Test.YtgnjocnbohbfaaaRA10
import Derived.Test.YtgnjocnbohbfaaaRSx14
import Derived.ReadAgain
import Derived.ProofKit
set_option linter.unusedVariables false
namespace Go.Proofs.YtgnjocnbohbfaaaR
open Go.ChangeShapes Go.WideShapes Go.ChangeAt Go.RowKit

theorem Try.own : ownKnob Try.prog.godebug = none := by kernel_rfl
theorem Try.kids : Go.Kids Try.prog (· < Try.prog.types.size) := kids_rows (by kernel_rfl) (by kernel_rfl)
theorem Try.full : ∀ t e, t < Try.prog.types.size → Try.prog.underlying t = some (.slice e) → 0 < Try.prog.cellsOf e := slices_full_of Try.prog (by kernel_rfl)
theorem Try.cells29 : Try.prog.cellsOf 29 = 4 := by kernel_rfl
theorem Try.cells27 : Try.prog.cellsOf 27 = 2 := by kernel_rfl
theorem Try.cells3 : Try.prog.cellsOf 3 = 1 := by kernel_rfl
section
variable {H : Type} {enc : TypeId × Value → H} {W : World} {sp : Nat → Bool} {held : Bool}
theorem int_at {n : Nat} {cs : List Value} {x : DataW H × List MemPlace} (h : DataW.trod enc Try.prog W 0 sp held n 3 cs = some x) : ∃ a, cs = [.int .i64 a] :=
  let ⟨a, e, _⟩ := DataW.trod_int Try.underlying3 h
  ⟨a, e⟩
theorem some_of {α : Type} {xs : List α} {i : Nat} {o : Option α} (h : o = xs[i]?) (hi : i < xs.length) : ∃ y, o = some y := ⟨xs[i], by rw [h, List.getElem?_eq_getElem hi]⟩
theorem act_at {n : Nat} {cs : List Value} {x : DataW H × List MemPlace} (h : DataW.trod enc Try.prog W 0 sp held n 29 cs = some x) : ∃ a : Ac, cs = ac a := by
  obtain ⟨xs, m, _, _, hl, hx, hf⟩ := DataW.trod_struct Try.underlying29 h
  rw [Try.cells29] at hl
  match cs, hl with
  | [c0, c1, c2, c3], _ =>
  have g0 : DataW.trod enc Try.prog W 0 sp held m 3 (List.take (Try.prog.cellsOf 3) (List.drop 0 [c0, c1, c2, c3])) = xs[0]? := hf 0 _ rfl
  have g1 : DataW.trod enc Try.prog W 0 sp held m 3 (List.take (Try.prog.cellsOf 3) (List.drop 1 [c0, c1, c2, c3])) = xs[1]? := hf 1 _ rfl
  have g2 : DataW.trod enc Try.prog W 0 sp held m 27 (List.take (Try.prog.cellsOf 27) (List.drop 2 [c0, c1, c2, c3])) = xs[2]? := hf 2 _ rfl
  obtain ⟨y0, h0⟩ := some_of g0 (by rw [hx]; decide)
  obtain ⟨y1, h1⟩ := some_of g1 (by rw [hx]; decide)
  obtain ⟨y2, h2⟩ := some_of g2 (by rw [hx]; decide)
  simp only [Try.cells3, Try.cells27, List.drop_zero, List.drop_succ_cons, List.take_succ_cons, List.take_zero] at h0 h1 h2
  obtain ⟨a0, e0⟩ := int_at h0
  obtain ⟨a1, e1⟩ := int_at h1
  obtain ⟨ys, m', _, _, hl', hx', hf'⟩ := DataW.trod_struct Try.underlying27 h2
  have q0 : DataW.trod enc Try.prog W 0 sp held m' 3 (List.take (Try.prog.cellsOf 3) (List.drop 0 [c2, c3])) = ys[0]? := hf' 0 _ rfl
  have q1 : DataW.trod enc Try.prog W 0 sp held m' 3 (List.take (Try.prog.cellsOf 3) (List.drop 1 [c2, c3])) = ys[1]? := hf' 1 _ rfl
  obtain ⟨z0, k0⟩ := some_of q0 (by rw [hx']; decide)
  obtain ⟨z1, k1⟩ := some_of q1 (by rw [hx']; decide)
  simp only [Try.cells3, List.drop_zero, List.drop_succ_cons, List.take_succ_cons, List.take_zero] at k0 k1
  obtain ⟨a2, e2⟩ := int_at k0
  obtain ⟨a3, e3⟩ := int_at k1
  simp only [List.cons.injEq, and_true] at e0 e1 e2 e3
  subst e0 e1 e2 e3
  exact ⟨⟨a0, a1, a2, a3⟩, rfl⟩
end

set_option maxRecDepth 100000 in
theorem room_lifted (os : Os) (started : os.Started) (H : Type) (enc : TypeId × Value → H) :
    ReturnsInHanded {} Try.checked os 3 .any (Rows.extentRoomSpec.pre6 enc Try.prog Try.f3 Rows.extentRoomRow.domain false) (Rows.extentRoomSpec.post enc Try.prog Try.f3 false true false false) := by
  refine returnsInHanded_of_change (C := Try.checked) Try.own started (by kernel_rfl) Try.func3
    (ChangeSpec.witness6 (enc := enc) (C := Try.checked) false ⟨#[], #[.int .i64 0, .slice none 0 0, .int .i64 0], []⟩ 8 (by kernel_rfl) (by kernel_rfl) (by kernel_rfl) (by kernel_rfl)) ?_
  intro W base args ds gs before hval0 hW hcnd _
  have hval : ∀ (j : Nat) t v, Try.f3.params[j]? = some t → args[j]? = some v → Value.okWide Try.prog W .any base t v := hval0
  have hW' := hW
  obtain ⟨p, q, hA0, hV, rfl, hfz, hnd⟩ := hW
  have hA : DataW.TrodAll enc Try.prog W 0 (fun _ => true) true Try.f3.params.toList args.toList ds p := hA0
  have hAk := hA
  rw [Try.params3] at hA hval
  obtain ⟨v0, v1, v2, d0, d1, d2, p0, p1, p2, rfl, rfl, rfl, h0, h1, h2⟩ := trodAll_three hA
  obtain ⟨rfl, rfl⟩ := trodVars_none hV
  obtain ⟨a, rfl, rfl, rfl, wa⟩ := open_int Try.underlying3 (hval 0 3 v0 rfl rfl) h0
  obtain ⟨b, rfl, rfl, rfl, wb⟩ := open_int Try.underlying3 (hval 2 3 v2 rfl rfl) h2
  obtain ⟨acts, hs⟩ := open_enc acE (by decide) Try.underlying22 Try.cells29 (hval 1 22 v1 rfl rfl) (fun n cs x h => act_at h) h1
  clear hA0 hval0
  simp only [List.append_nil, List.nil_append] at hW' hAk
  refine (Con.at_world (room_con a b v1 acts (hpW W) hs)).mono fun e W' ⟨v, h', nb, he, hS, hv, _, _⟩ => ?_
  subst hv
  refine ⟨_, he, post_read (p := p1) hW' hAk Try.kids Try.full (by rw [Try.params3]; decide) hS ?_ rfl (fun _ => rfl)⟩
  exact trodAll_mk1 (shut_bool Try.underlying4 true)

theorem room_holds : Rows.ExtentRoomSaid :=
  OpenClaim.holds_of_wide 3 Try.f3 rfl rfl rfl rfl rfl rfl rfl ⟨rfl, rfl, rfl, rfl, rfl⟩ rfl rfl rfl rfl rfl (by kernel_rfl) Try.func3 (by kernel_rfl)
    (of_decide_eq_true (by kernel_rfl)) (by unfold Func.isWrapper; first | (rw [if_pos (by decide +kernel)]; kernel_rfl) | (rw [if_neg (by decide +kernel)]; exact ⟨rfl, rfl⟩))
    (fun os started H enc _ => room_lifted os started H enc)

end Go.Proofs.YtgnjocnbohbfaaaR
