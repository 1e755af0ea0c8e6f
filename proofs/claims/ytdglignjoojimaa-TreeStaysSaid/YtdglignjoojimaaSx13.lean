/- Equality of structs. No conditions. -/
import Derived.Test.YtdglignjoojimaaSx12
set_option linter.unusedVariables false
namespace Go.Proofs.Ytdglignjoojimaa
section
variable {P : Program} {N : Nat} {σ : List (Nat × Value)} {h : Hp} {bl : Bl} {dst : Option Tmp} {ty : TypeId} {pos : String} {aft : Array Edge} {g : Option (Nat × Bool)}
/-- The guard's shape; kept apart from the types, whose depth the kernel must not unfold. -/
theorem eqG_shape {G : Sem Bool} {u : Unsupported} (e : Program → Program → Bool) (hg : e P P = false) (w : World) :
    (do if !(e (← program) (← program)) then return
        if ← G then unsupported u : Sem Unit).run P w = .ok () w := by
  have hp : (program).run P w = .ok P w := rfl
  simp only [Sem.run_bind, hp, Result.andThen_ok, hg, Bool.not_false, if_true, Sem.run_pure]
theorem run_eqG {t : TypeId} {x y : Operand} {xs ys : Array Value} (hg : P.eqGuardType P.depth t = false) (w : World) : (eqGuard .eql t x y (.agg xs) (.agg ys)).run P w = .ok () w :=
  eqG_shape (G := Op.eqGuardIn Op.maxDepth t (.agg xs) (.agg ys)) (u := .noEntry "binop/eql: two nil values of an interface type with methods, in a part of a struct or an array") (fun p q => p.eqGuardType q.depth t) hg w
theorem run_neG {t : TypeId} {x y : Operand} {xs ys : Array Value} (hg : P.eqGuardType P.depth t = false) (w : World) : (eqGuard .neq t x y (.agg xs) (.agg ys)).run P w = .ok () w :=
  eqG_shape (G := Op.eqGuardIn Op.maxDepth t (.agg xs) (.agg ys)) (u := .noEntry "binop/eql: two nil values of an interface type with methods, in a part of a struct or an array") (fun p q => p.eqGuardType q.depth t) hg w
theorem run_eqv {t : TypeId} {xs ys : Array Value} {b : Bool} {w : World} (he : (Op.equal t (.agg xs) (.agg ys)).run P w = .ok b w) : (binOp .eql t (.agg xs) (.agg ys)).run P w = .ok (.bool b) w := by
  simp only [binOp, Sem.run_bind, he, Result.andThen_ok, Sem.run_pure]
theorem run_nev {t : TypeId} {xs ys : Array Value} {b : Bool} {w : World} (he : (Op.equal t (.agg xs) (.agg ys)).run P w = .ok b w) : (binOp .neq t (.agg xs) (.agg ys)).run P w = .ok (.bool (!b)) w := by
  simp only [binOp, Sem.run_bind, he, Result.andThen_ok, Sem.run_pure]
theorem S_eqa {t u : TypeId} {x y : Operand} {xs ys : Array Value} {b : Bool} (hg : P.eqGuardType P.depth t = false) (he : ∀ w, (Op.equal t (.agg xs) (.agg ys)).run P w = .ok b w)
    (hx : ev σ x = some (.agg xs)) (hy : ev σ y = some (.agg ys)) : Still P N σ h bl ⟨dst, .binOp .eql t x y u, ty, pos, aft, g⟩ (.bool b) := by
  intro a w ha _
  have h1 := run_eqG (P := P) (x := x) (y := y) (xs := xs) (ys := ys) hg w
  have h2 := run_eqv (he w)
  simp only [execOp, ha.eval hx, ha.eval hy, Sem.run_bind, h1, h2, Result.andThen_ok, Sem.run_pure]
theorem S_nea {t u : TypeId} {x y : Operand} {xs ys : Array Value} {b : Bool} (hg : P.eqGuardType P.depth t = false) (he : ∀ w, (Op.equal t (.agg xs) (.agg ys)).run P w = .ok b w)
    (hx : ev σ x = some (.agg xs)) (hy : ev σ y = some (.agg ys)) : Still P N σ h bl ⟨dst, .binOp .neq t x y u, ty, pos, aft, g⟩ (.bool (!b)) := by
  intro a w ha _
  have h1 := run_neG (P := P) (x := x) (y := y) (xs := xs) (ys := ys) hg w
  have h2 := run_nev (he w)
  simp only [execOp, ha.eval hx, ha.eval hy, Sem.run_bind, h1, h2, Result.andThen_ok, Sem.run_pure]
end
end Go.Proofs.Ytdglignjoojimaa
