/- Contracts whose results are known for good. No conditions. -/
import Derived.Test.YtdglignjoojimaaSx20
set_option linter.unusedVariables false
set_option linter.unusedSimpArgs false
namespace Go.Proofs.Ytdglignjoojimaa
theorem Con.keepAll {P : Program} {f : FuncId} {args : List Value} {h : Hp} {blA : Bl} {post post' : Value → Hp → Bl → Prop} (c : Con P f args h blA post)
    (hp : ∀ v h' nb h'', post v h' nb → Sub h' h'' → KnowB h'' nb → post' v h'' []) : Con P f args h blA post' := by
  intro w hw
  refine (c w hw).mono fun x w' ⟨v, h', nb, he, hr, hq⟩ => ?_
  have hr' : Rel ⟨w, fun b => b ∈ blA.flatten.map Prod.fst, h⟩ h' (nb ++ []) w' := by rw [List.append_nil]; exact hr
  obtain ⟨h'', s, k, r⟩ := hr'.keepF
  exact ⟨v, h'', [], he, r, hp v h' nb h'' hq s k⟩
/-- Before a call: what it gets may be known for good. -/
theorem Con.keepArg {P : Program} {f : FuncId} {args : List Value} {h : Hp} {blA : Bl} {post : Value → Hp → Bl → Prop} (c : ∀ h', Sub h h' → KnowB h' blA → Con P f args h' [] post) :
    ∀ w, Rel ⟨w, fun b => b ∈ blA.flatten.map Prod.fst, h⟩ h blA w → ∃ h', Sub h h' ∧ KnowB h' blA := fun w hw => by
  have hr' : Rel ⟨w, fun b => b ∈ blA.flatten.map Prod.fst, h⟩ h (blA ++ []) w := by rw [List.append_nil]; exact hw
  obtain ⟨h'', s, k, r⟩ := hr'.keepF
  exact ⟨h'', s, k⟩
end Go.Proofs.Ytdglignjoojimaa
