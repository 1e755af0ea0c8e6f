/- What the laws' arguments read. No conditions. -/
import Derived.Test.YtdglignjoojimaaRows
import Derived.Test.YtdglignjoojimaaB14
import Derived.ReadAgain
import Derived.ProofKit
set_option linter.unusedVariables false
set_option linter.unusedSimpArgs false
namespace Go.Proofs.Ytdglignjoojimaa

open Go.ChangeShapes Go.WideShapes Go.ChangeAt Go.RowKit
theorem Try.own : ownKnob Try.prog.godebug = none := by kernel_rfl
theorem Try.kids : Go.Kids Try.prog (· < Try.prog.types.size) := kids_rows (by kernel_rfl) (by kernel_rfl)
theorem Try.full : ∀ t e, t < Try.prog.types.size → Try.prog.underlying t = some (.slice e) → 0 < Try.prog.cellsOf e := slices_full_of Try.prog (by kernel_rfl)
theorem Try.cellsAct : Try.prog.cellsOf 36 = 4 := by kernel_rfl
theorem Try.cellsExt : Try.prog.cellsOf 34 = 2 := by kernel_rfl
theorem Try.cellsInt : Try.prog.cellsOf 3 = 1 := by kernel_rfl
theorem Try.cellsU : Try.prog.cellsOf 23 = 1 := by kernel_rfl
theorem u64_wf {n : Int} (h : (Lit.int .u64 n).wf = true) : 0 ≤ n ∧ n < top := by
  simp [Lit.wf, IntKind.min, IntKind.max, IntKind.signed, IntKind.bits] at h
  unfold top
  omega
section
variable {H : Type} {enc : TypeId × Value → H} {W : World} {sp : Nat → Bool} {held : Bool}
theorem int_at {n : Nat} {cs : List Value} {x : DataW H × List MemPlace} (h : DataW.trod enc Try.prog W 0 sp held n 3 cs = some x) : ∃ a, cs = [.int .i64 a] :=
  let ⟨a, e, _⟩ := DataW.trod_int Try.underlying3 h
  ⟨a, e⟩
theorem u64_at {n : Nat} {cs : List Value} {x : DataW H × List MemPlace} (h : DataW.trod enc Try.prog W 0 sp held n 23 cs = some x) : ∃ a, cs = [.int .u64 a] ∧ 0 ≤ a ∧ a < top :=
  let ⟨a, e, _, w⟩ := DataW.trod_int Try.underlying23 h
  ⟨a, e, u64_wf w⟩
theorem some_of {α : Type} {xs : List α} {i : Nat} {o : Option α} (h : o = xs[i]?) (hi : i < xs.length) : ∃ y, o = some y := ⟨xs[i], by rw [h, List.getElem?_eq_getElem hi]⟩
set_option maxRecDepth 100000 in
theorem ext_at {n : Nat} {c2 c3 : Value} {x : DataW H × List MemPlace} (h2 : DataW.trod enc Try.prog W 0 sp held n 34 [c2, c3] = some x) : ∃ a b, c2 = .int .i64 a ∧ c3 = .int .i64 b := by
  obtain ⟨ys, m', _, _, hl', hx', hf'⟩ := DataW.trod_struct Try.underlying34 h2
  have q0 : DataW.trod enc Try.prog W 0 sp held m' 3 (List.take (Try.prog.cellsOf 3) (List.drop 0 [c2, c3])) = ys[0]? := hf' 0 _ rfl
  have q1 : DataW.trod enc Try.prog W 0 sp held m' 3 (List.take (Try.prog.cellsOf 3) (List.drop 1 [c2, c3])) = ys[1]? := hf' 1 _ rfl
  obtain ⟨z0, k0⟩ := some_of q0 (by rw [hx']; decide)
  obtain ⟨z1, k1⟩ := some_of q1 (by rw [hx']; decide)
  simp only [Try.cellsInt, List.drop_zero, List.drop_succ_cons, List.take_succ_cons, List.take_zero] at k0 k1
  obtain ⟨a2, e2⟩ := int_at k0
  obtain ⟨a3, e3⟩ := int_at k1
  simp only [List.cons.injEq, and_true] at e2 e3
  exact ⟨a2, a3, e2, e3⟩
abbrev AcO := {a : Ac // OkA a}
def aco (a : AcO) : List Value := ac a.1
theorem acoE : Enc aco 4 := ⟨fun _ => rfl, fun _ => rfl⟩
set_option maxRecDepth 100000 in
theorem act_at {n : Nat} {cs : List Value} {x : DataW H × List MemPlace} (h : DataW.trod enc Try.prog W 0 sp held n 36 cs = some x) : ∃ a : AcO, cs = aco a := by
  obtain ⟨xs, m, _, _, hl, hx, hf⟩ := DataW.trod_struct Try.underlying36 h
  rw [Try.cellsAct] at hl
  match cs, hl with
  | [c0, c1, c2, c3], _ =>
  have g0 : DataW.trod enc Try.prog W 0 sp held m 3 (List.take (Try.prog.cellsOf 3) (List.drop 0 [c0, c1, c2, c3])) = xs[0]? := hf 0 _ rfl
  have g1 : DataW.trod enc Try.prog W 0 sp held m 23 (List.take (Try.prog.cellsOf 23) (List.drop 1 [c0, c1, c2, c3])) = xs[1]? := hf 1 _ rfl
  have g2 : DataW.trod enc Try.prog W 0 sp held m 34 (List.take (Try.prog.cellsOf 34) (List.drop 2 [c0, c1, c2, c3])) = xs[2]? := hf 2 _ rfl
  obtain ⟨y0, h0⟩ := some_of g0 (by rw [hx]; decide)
  obtain ⟨y1, h1⟩ := some_of g1 (by rw [hx]; decide)
  obtain ⟨y2, h2⟩ := some_of g2 (by rw [hx]; decide)
  simp only [Try.cellsInt, Try.cellsU, Try.cellsExt, List.drop_zero, List.drop_succ_cons, List.take_succ_cons, List.take_zero] at h0 h1 h2
  obtain ⟨a0, e0⟩ := int_at h0
  obtain ⟨a1, e1, w1⟩ := u64_at h1
  obtain ⟨a2, a3, e2, e3⟩ := ext_at h2
  simp only [List.cons.injEq, and_true] at e0 e1
  subst e0 e1 e2 e3
  exact ⟨⟨⟨a0, a1, a2, a3⟩, w1⟩, rfl⟩
set_option maxRecDepth 100000 in
theorem open_agg {r : Reach} {b0 : Nat} {t : TypeId} {fs : Array Field} {v : Value} {d : DataW H} {ps : List MemPlace} (ht : Try.prog.underlying t = some (.struct fs)) (hval : Value.okWide Try.prog W r b0 t v) (hd : DataW.Trod enc Try.prog W 0 sp held t v d ps) :
    ∃ cs : List Value, v = .agg cs.toArray ∧ ∃ n, DataW.trod enc Try.prog W 0 sp held n t cs = some (d, ps) := by
  unfold Value.okWide at hval
  rw [ht] at hval
  obtain ⟨cs, rfl, _⟩ := hval
  obtain ⟨fuel, hf⟩ := hd
  exact ⟨cs.toList, by simp, fuel, hf⟩
/-- What was done, read. -/
theorem acts_of {h : Hp} {v : Value} {l : List AcO} (s : SlR h [] v l.length (l.flatMap aco) 4) : ∃ acts : List Ac, AL h v acts ∧ ∀ a ∈ acts, OkA a := by
  refine ⟨l.map (fun a => a.1), ?_, fun a ha => ?_⟩
  · show SlR h [] v (l.map (fun a => a.1)).length ((l.map (fun a => a.1)).flatMap ac) 4
    rw [List.length_map, List.flatMap_map]
    exact s
  · obtain ⟨x, _, rfl⟩ := List.mem_map.1 ha
    exact x.2
end

end Go.Proofs.Ytdglignjoojimaa
