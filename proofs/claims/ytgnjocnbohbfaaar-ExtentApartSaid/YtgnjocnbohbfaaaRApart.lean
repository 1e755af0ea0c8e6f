/- The row ExtentApart, proved. No conditions. -/
import Derived.Test.YtgnjocnbohbfaaaRRoom
import Derived.Test.YtgnjocnbohbfaaaRA11
set_option linter.unusedVariables false
namespace Go.Proofs.YtgnjocnbohbfaaaR
open Go.ChangeShapes Go.WideShapes Go.ChangeAt Go.RowKit

set_option maxRecDepth 100000 in
theorem apart_lifted (os : Os) (started : os.Started) (H : Type) (enc : TypeId × Value → H) :
    ReturnsInHanded {} Try.checked os 4 .any (Rows.extentApartSpec.pre6 enc Try.prog Try.f4 Rows.extentApartRow.domain false) (Rows.extentApartSpec.post enc Try.prog Try.f4 false true false false) := by
  refine returnsInHanded_of_change (C := Try.checked) Try.own started (by kernel_rfl) Try.func4
    (ChangeSpec.witness6 (enc := enc) (C := Try.checked) false ⟨#[], #[.int .i64 0, .slice none 0 0], []⟩ 8 (by kernel_rfl) (by kernel_rfl) (by kernel_rfl) (by kernel_rfl)) ?_
  intro W base args ds gs before hval0 hW hcnd _
  have hval : ∀ (j : Nat) t v, Try.f4.params[j]? = some t → args[j]? = some v → Value.okWide Try.prog W .any base t v := hval0
  have hW' := hW
  obtain ⟨p, q, hA0, hV, rfl, hfz, hnd⟩ := hW
  have hA : DataW.TrodAll enc Try.prog W 0 (fun _ => true) true Try.f4.params.toList args.toList ds p := hA0
  have hAk := hA
  rw [Try.params4] at hA hval
  obtain ⟨v0, v1, d0, d1, p0, p1, rfl, rfl, rfl, h0, h1⟩ := trodAll_two hA
  obtain ⟨rfl, rfl⟩ := trodVars_none hV
  obtain ⟨a, rfl, rfl, rfl, wa⟩ := open_int Try.underlying3 (hval 0 3 v0 rfl rfl) h0
  obtain ⟨acts, hs⟩ := open_enc acE (by decide) Try.underlying22 Try.cells29 (hval 1 22 v1 rfl rfl) (fun n cs x h => act_at h) h1
  clear hA0 hval0
  simp only [List.append_nil, List.nil_append] at hW' hAk
  refine (Con.at_world (apart_con a v1 acts (hpW W) hs)).mono fun e W' ⟨v, h', nb, he, hS, hv, _, _⟩ => ?_
  subst hv
  refine ⟨_, he, post_read (p := p1) hW' hAk Try.kids Try.full (by rw [Try.params4]; decide) hS ?_ rfl (fun _ => rfl)⟩
  exact trodAll_mk1 (shut_bool Try.underlying4 true)

theorem apart_holds : Rows.ExtentApartSaid :=
  OpenClaim.holds_of_wide 4 Try.f4 rfl rfl rfl rfl rfl rfl rfl ⟨rfl, rfl, rfl, rfl, rfl⟩ rfl rfl rfl rfl rfl (by kernel_rfl) Try.func4 (by kernel_rfl)
    (of_decide_eq_true (by kernel_rfl)) (by unfold Func.isWrapper; first | (rw [if_pos (by decide +kernel)]; kernel_rfl) | (rw [if_neg (by decide +kernel)]; exact ⟨rfl, rfl⟩))
    (fun os started H enc _ => apart_lifted os started H enc)

end Go.Proofs.YtgnjocnbohbfaaaR
