/- The row TreeTurns, proved. No conditions. -/
import Derived.Test.YtdglignjoojimaaOp
import Derived.Test.YtdglignjoojimaaB17
set_option linter.unusedVariables false
set_option linter.unusedSimpArgs false
namespace Go.Proofs.Ytdglignjoojimaa

open Go.ChangeShapes Go.WideShapes Go.ChangeAt Go.RowKit

set_option maxRecDepth 100000 in
theorem turns_lifted (os : Os) (started : os.Started) (H : Type) (enc : TypeId × Value → H) :
    ReturnsInHanded {} Try.checked os 5 .any (Rows.treeTurnsSpec.pre6 enc Try.prog Try.f5 Rows.treeTurnsRow.domain false) (Rows.treeTurnsSpec.post enc Try.prog Try.f5 false true false false) := by
  refine returnsInHanded_of_change (C := Try.checked) Try.own started (by kernel_rfl) Try.func5
    (ChangeSpec.witness6 (enc := enc) (C := Try.checked) false ⟨#[], #[.slice none 0 0, .agg #[.int .i64 0, .int .u64 0, .int .i64 0, .int .i64 0], .agg #[.int .i64 0, .int .u64 0, .int .i64 0, .int .i64 0]], []⟩ 8 (by kernel_rfl) (by kernel_rfl) (by kernel_rfl) (by kernel_rfl)) ?_
  intro W base args ds gs before hval0 hW hcnd _
  have hval : ∀ (j : Nat) t v, Try.f5.params[j]? = some t → args[j]? = some v → Value.okWide Try.prog W .any base t v := hval0
  have hW' := hW
  obtain ⟨p, q, hA0, hV, rfl, hfz, hnd⟩ := hW
  have hA : DataW.TrodAll enc Try.prog W 0 (fun _ => true) true Try.f5.params.toList args.toList ds p := hA0
  have hAk := hA
  rw [Try.params5] at hA hval
  obtain ⟨v0, v1, v2, d0, d1, d2, p0, p1, p2, rfl, rfl, rfl, h0, h1, h2⟩ := trodAll_three hA
  obtain ⟨rfl, rfl⟩ := trodVars_none hV
  obtain ⟨lacts, hsacts⟩ := open_enc acoE (by decide) Try.underlying22 Try.cellsAct (hval 0 _ v0 rfl rfl) (fun n cs x h => act_at h) h0
  obtain ⟨acts, hsacts, hokacts⟩ := acts_of hsacts
  obtain ⟨c1, rfl, n1, hf1⟩ := open_agg Try.underlying36 (hval 1 _ v1 rfl rfl) h1
  obtain ⟨⟨a, hka⟩, rfl⟩ := act_at hf1
  obtain ⟨c2, rfl, n2, hf2⟩ := open_agg Try.underlying36 (hval 2 _ v2 rfl rfl) h2
  obtain ⟨⟨b, hkb⟩, rfl⟩ := act_at hf2
  clear hA0 hval0
  simp only [List.append_nil, List.nil_append] at hW' hAk
  refine (Con.at_world (turns_con v0 acts a b (hpW W) hsacts hokacts hka hkb)).mono fun e W' ⟨v, h', nb, he, hS, hv, _⟩ => ?_
  subst hv
  refine ⟨_, he, post_read (p := p0 ++ p1 ++ p2) hW' hAk Try.kids Try.full (by rw [Try.params5]; decide) hS ?_ rfl (fun _ => rfl)⟩
  exact trodAll_mk1 (shut_bool Try.underlying4 true)
theorem turns_holds : Rows.TreeTurnsSaid :=
  OpenClaim.holds_of_wide 5 Try.f5 rfl rfl rfl rfl rfl rfl rfl ⟨rfl, rfl, rfl, rfl, rfl⟩ rfl rfl rfl rfl rfl (by kernel_rfl) Try.func5 (by kernel_rfl)
    (of_decide_eq_true (by kernel_rfl)) (by unfold Func.isWrapper; first | (rw [if_pos (by decide +kernel)]; kernel_rfl) | (rw [if_neg (by decide +kernel)]; exact ⟨rfl, rfl⟩))
    (fun os started H enc _ => turns_lifted os started H enc)

end Go.Proofs.Ytdglignjoojimaa
