/- Arrays: a zero array built, laid and stored whole; the address of a place. No conditions. -/
import Derived.Test.YtdglignjoojimaaSx14
set_option linter.unusedVariables false
set_option linter.unusedSimpArgs false
namespace Go.Proofs.Ytdglignjoojimaa
section
variable {X : Cx} {P : Program} {N : Nat} {σ : List (Nat × Value)} {h : Hp} {bl : Bl} {dst : Option Tmp} {ty : TypeId} {pos : String} {aft : Array Edge} {g : Option (Nat × Bool)}
/-- The address of a place in an array of at least two. -/
theorem S_arr {t e : TypeId} {sz bs : Nat} {z : Value} {x y : Operand} {b off len : Nat} {k : IntKind} (n : Nat) (hu : P.underlying t = some (.array len e)) (ht : TyI P e sz bs z)
    (hx : ev σ x = some (.pointer (some ⟨b, off, none⟩))) (hy : ev σ y = some (.int k (n : Int))) (h1 : n < len) :
    Still P N σ h bl ⟨dst, .indexAddr t x y, ty, pos, aft, g⟩ (.pointer (some ⟨b, off + n * sz, none⟩)) := by
  obtain ⟨i, hi, rfl, rfl, hz⟩ := ht.ex
  intro a w ha _
  simp only [execOp, ha.eval hx, ha.eval hy, Instr.indexAt, asIntOf, Instr.sureAddr, Sem.run_bind, Sem.run_pure, run_under w hu, Result.andThen_ok, run_size w hi]
  have h2 : (0 : Int) ≤ (n : Int) ∧ (n : Int) < (len : Int) := ⟨by omega, by omega⟩
  rw [if_pos h2]
  simp [run_size w hi, add_none]
/-- An array, all zero. -/
theorem S_zarr {t e : TypeId} {len : Nat} {zs : List Value} {i : TypeInfo} (hu : P.underlying t = some (.array len e)) (hi : P.info? e = some i)
    (hz : ((P.info? t).bind (·.zero)).map (·.cells) = some zs.toArray) :
    Still P N σ h bl ⟨dst, .build t (List.toArray []), ty, pos, aft, g⟩ (.agg zs.toArray) := by
  refine S_build (vs := []) rfl fun w => ?_
  obtain ⟨j, hj, hz⟩ := Option.map_eq_some_iff.1 hz
  obtain ⟨j', hj', hz'⟩ := Option.bind_eq_some_iff.1 hj
  simp only [Instr.build, zeroValue, Sem.run_bind, run_tinfo w hj', Result.andThen_ok, hz', Sem.run_pure, run_under w hu, run_size w hi, hz]
  rfl
theorem PutR.whole : ∀ {pre l vs : List Value}, l.length = vs.length → PutR (pre ++ l) pre.length vs (pre ++ vs)
  | pre, [], [], _ => by simpa using PutR.nil
  | pre, x :: l, v :: vs, h => by
    refine PutR.cons (l1 := pre ++ v :: l) ?_ ?_
    · have := SetL.of (v := v) (l := pre ++ x :: l) (n := pre.length) (by simp)
      simpa using this
    · have := PutR.whole (pre := pre ++ [v]) (l := l) (vs := vs) (by simpa using h)
      simpa using this
theorem PutR.all {l vs : List Value} (h : l.length = vs.length) : PutR l 0 vs vs := by simpa using PutR.whole (pre := []) h
end
end Go.Proofs.Ytdglignjoojimaa
