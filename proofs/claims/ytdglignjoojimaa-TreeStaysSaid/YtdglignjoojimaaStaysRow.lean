/- The row TreeStays, proved. No conditions. -/
import Derived.Test.YtdglignjoojimaaOp
import Derived.Test.YtdglignjoojimaaB16
set_option linter.unusedVariables false
set_option linter.unusedSimpArgs false
namespace Go.Proofs.Ytdglignjoojimaa

open Go.ChangeShapes Go.WideShapes Go.ChangeAt Go.RowKit

set_option maxRecDepth 100000 in
theorem stays_lifted (os : Os) (started : os.Started) (H : Type) (enc : TypeId × Value → H) :
    ReturnsInHanded {} Try.checked os 4 .any (Rows.treeStaysSpec.pre6 enc Try.prog Try.f4 Rows.treeStaysRow.domain false) (Rows.treeStaysSpec.post enc Try.prog Try.f4 false true false false) := by
  refine returnsInHanded_of_change (C := Try.checked) Try.own started (by kernel_rfl) Try.func4
    (ChangeSpec.witness6 (enc := enc) (C := Try.checked) false ⟨#[], #[.slice none 0 0, .slice none 0 0], []⟩ 8 (by kernel_rfl) (by kernel_rfl) (by kernel_rfl) (by kernel_rfl)) ?_
  intro W base args ds gs before hval0 hW hcnd _
  have hval : ∀ (j : Nat) t v, Try.f4.params[j]? = some t → args[j]? = some v → Value.okWide Try.prog W .any base t v := hval0
  have hW' := hW
  obtain ⟨p, q, hA0, hV, rfl, hfz, hnd⟩ := hW
  have hA : DataW.TrodAll enc Try.prog W 0 (fun _ => true) true Try.f4.params.toList args.toList ds p := hA0
  have hAk := hA
  rw [Try.params4] at hA hval
  obtain ⟨v0, v1, d0, d1, p0, p1, rfl, rfl, rfl, h0, h1⟩ := trodAll_two hA
  obtain ⟨rfl, rfl⟩ := trodVars_none hV
  obtain ⟨lacts, hsacts⟩ := open_enc acoE (by decide) Try.underlying22 Try.cellsAct (hval 0 _ v0 rfl rfl) (fun n cs x h => act_at h) h0
  obtain ⟨acts, hsacts, hokacts⟩ := acts_of hsacts
  obtain ⟨lmore, hsmore⟩ := open_enc acoE (by decide) Try.underlying22 Try.cellsAct (hval 1 _ v1 rfl rfl) (fun n cs x h => act_at h) h1
  obtain ⟨more, hsmore, hokmore⟩ := acts_of hsmore
  clear hA0 hval0
  simp only [List.append_nil, List.nil_append] at hW' hAk
  refine (Con.at_world (stays_con v0 v1 acts more (hpW W) hsacts hsmore hokacts hokmore)).mono fun e W' ⟨v, h', nb, he, hS, hv, _⟩ => ?_
  subst hv
  refine ⟨_, he, post_read (p := p0 ++ p1) hW' hAk Try.kids Try.full (by rw [Try.params4]; decide) hS ?_ rfl (fun _ => rfl)⟩
  exact trodAll_mk1 (shut_bool Try.underlying4 true)
theorem stays_holds : Rows.TreeStaysSaid :=
  OpenClaim.holds_of_wide 4 Try.f4 rfl rfl rfl rfl rfl rfl rfl ⟨rfl, rfl, rfl, rfl, rfl⟩ rfl rfl rfl rfl rfl (by kernel_rfl) Try.func4 (by kernel_rfl)
    (of_decide_eq_true (by kernel_rfl)) (by unfold Func.isWrapper; first | (rw [if_pos (by decide +kernel)]; kernel_rfl) | (rw [if_neg (by decide +kernel)]; exact ⟨rfl, rfl⟩))
    (fun os started H enc _ => stays_lifted os started H enc)

end Go.Proofs.Ytdglignjoojimaa
