/- One lemma an operation, for those that leave the world alone. No conditions. -/
import Derived.Test.YtdglignjoojimaaSx2
set_option linter.unusedVariables false
set_option linter.unusedSimpArgs false
namespace Go.Proofs.Ytdglignjoojimaa

def wantd (ops : Array Oper) (σ : List (Nat × Value)) (o : Oper) : Option Bool :=
  match o.guard with
  | none => some true
  | some (j, want) =>
    match (ops[j]?).bind (·.dst) with
    | none => some false
    | some t =>
      match look σ t with
      | some (.bool b) => some (b == want)
      | some (.tuple _) => some false
      | _ => none

theorem wanted_of {N : Nat} {ops : Array Oper} {σ : List (Nat × Value)} {o : Oper} {a : Act} {t : Bool} (ha : Fr N σ a) (h : wantd ops σ o = some t) :
    Region.wanted o (yielded ops a.tmps) = t := by
  unfold wantd at h
  unfold Region.wanted
  cases hg : o.guard with
  | none => simp only [hg] at h ⊢; exact Option.some.inj h
  | some p =>
    obtain ⟨j, want⟩ := p
    simp only [hg] at h ⊢
    unfold yielded
    cases hd : (ops[j]?).bind (·.dst) with
    | none =>
      simp only [hd, Option.bind_none] at h ⊢
      have := Option.some.inj h
      subst this
      simp
    | some s =>
      simp only [hd, Option.bind_some] at h ⊢
      cases hl : look σ s with
      | none => simp [hl] at h
      | some u =>
        have hu := ha.at_ s u hl
        rw [hu]
        cases u <;> simp only [hl] at h <;> first | (have h := Option.some.inj h; subst h; simp; done) | cases h

/-- The operation yields v and leaves the world alone, in whatever world these things are known. -/
def Still (P : Program) (N : Nat) (σ : List (Nat × Value)) (h : Hp) (bl : Bl) (o : Oper) (v : Value) : Prop :=
  ∀ a w, Fr N σ a → Knows h bl w → (execOp a.eval o).run P w = .ok (.value v) w

section
variable {X : Cx} {P : Program} {N : Nat} {ops : Array Oper} {Q : Exit → Act → World → Prop} {σ : List (Nat × Value)} {h : Hp} {bl : Bl} {rest : List Oper}

theorem wpList_run {o : Oper} {a : Act} {w : World} (hw : Region.wanted o (yielded ops a.tmps) = true) (k : o.wp P a w (wpList P ops Q rest) Q) : wpList P ops Q (o :: rest) a w := by
  unfold wpList
  rw [if_pos hw]
  exact .inl k

theorem VL_still {o : Oper} {d : Nat} {v : Value} (hw : wantd ops σ o = some true) (hd : o.dst = some d) (hlt : Nat.blt d N = true) (hs : Still P N σ h bl o v)
    (k : VL X P N ops Q rest ((d, v) :: σ) h bl) : VL X P N ops Q (o :: rest) σ h bl := by
  intro a w ha hr
  refine wpList_run (wanted_of ha hw) ?_
  rw [Oper.wp, hs a w ha hr.knows, Oper.upon_value, hd]
  exact k _ _ (ha.put (Nat.le_of_ble_eq_true hlt) v) hr

/-- The same for an operation whose value goes nowhere. -/
theorem VL_still0 {o : Oper} {v : Value} (hw : wantd ops σ o = some true) (hd : o.dst = none) (hs : Still P N σ h bl o v)
    (k : VL X P N ops Q rest σ h bl) : VL X P N ops Q (o :: rest) σ h bl := by
  intro a w ha hr
  refine wpList_run (wanted_of ha hw) ?_
  rw [Oper.wp, hs a w ha hr.knows, Oper.upon_value, hd]
  exact k _ _ (ha.put_none v) hr

theorem VL_skip {o : Oper} {d : Nat} (hw : wantd ops σ o = some false) (hd : o.dst = some d) (hlt : Nat.blt d N = true)
    (k : VL X P N ops Q rest ((d, undef) :: σ) h bl) : VL X P N ops Q (o :: rest) σ h bl := by
  intro a w ha hr
  unfold wpList
  rw [if_neg (by rw [wanted_of ha hw]; simp), hd]
  exact k _ _ (ha.put (Nat.le_of_ble_eq_true hlt) _) hr

theorem VL_skip0 {o : Oper} (hw : wantd ops σ o = some false) (hd : o.dst = none)
    (k : VL X P N ops Q rest σ h bl) : VL X P N ops Q (o :: rest) σ h bl := by
  intro a w ha hr
  unfold wpList
  rw [if_neg (by rw [wanted_of ha hw]; simp), hd]
  exact k _ _ ha hr

/-- A bool in a slot is decided. -/
theorem VL_bool {l : List Oper} (t : Nat) {b : Bool} (ht : look σ t = some (.bool b)) (k1 : b = true → VL X P N ops Q l ((t, .bool true) :: σ) h bl)
    (k2 : b = false → VL X P N ops Q l ((t, .bool false) :: σ) h bl) : VL X P N ops Q l σ h bl := by
  intro a w ha hr
  have key : ∀ c, b = c → Fr N ((t, .bool c) :: σ) a := by
    rintro c rfl
    refine ⟨ha.defers, ha.size, fun s u hs => ?_⟩
    rw [look_cons] at hs
    split at hs
    · rename_i e; subst e; cases hs; exact ha.at_ _ _ ht
    · exact ha.at_ _ _ hs
  cases hb : b with
  | true => exact k1 hb a w (key _ hb) hr
  | false => exact k2 hb a w (key _ hb) hr

variable {dst : Option Tmp} {ty : TypeId} {pos : String} {aft : Array Edge} {g : Option (Nat × Bool)}

theorem S_move {x : Operand} {v : Value} (hx : ev σ x = some v) : Still P N σ h bl ⟨dst, .move x, ty, pos, aft, g⟩ v := by
  intro a w ha _
  simp only [execOp, ha.eval hx]; rfl
theorem S_assign {x : Operand} {v : Value} (hx : ev σ x = some v) : Still P N σ h bl ⟨dst, .assign x, ty, pos, aft, g⟩ v := by
  intro a w ha _
  simp only [execOp, ha.eval hx]; rfl
theorem S_pick {c x y : Operand} {b : Bool} {u v : Value} (hc : ev σ c = some (.bool b)) (hx : b = true → ev σ x = some u) (hy : b = false → ev σ y = some v) :
    Still P N σ h bl ⟨dst, .pick c x y, ty, pos, aft, g⟩ (bif b then u else v) := by
  intro a w ha _
  cases b with
  | true => simp only [execOp, ha.eval hc, ha.eval (hx rfl)]; rfl
  | false => simp only [execOp, ha.eval hc, ha.eval (hy rfl)]; rfl

section ints
variable {x y : Operand} {t u : TypeId} {k : IntKind} {m n : Int}
theorem S_add (hx : ev σ x = some (.int k m)) (hy : ev σ y = some (.int k n)) : Still P N σ h bl ⟨dst, .binOp .add t x y u, ty, pos, aft, g⟩ (.int k (k.wrap (m + n))) := by
  intro a w ha _
  simp only [execOp, ha.eval hx, ha.eval hy, binOp, Op.intArith, ne_eq, not_true_eq_false, if_false]; rfl
theorem S_sub (hx : ev σ x = some (.int k m)) (hy : ev σ y = some (.int k n)) : Still P N σ h bl ⟨dst, .binOp .sub t x y u, ty, pos, aft, g⟩ (.int k (k.wrap (m - n))) := by
  intro a w ha _
  simp only [execOp, ha.eval hx, ha.eval hy, binOp, Op.intArith, ne_eq, not_true_eq_false, if_false]; rfl
theorem S_mul (hx : ev σ x = some (.int k m)) (hy : ev σ y = some (.int k n)) : Still P N σ h bl ⟨dst, .binOp .mul t x y u, ty, pos, aft, g⟩ (.int k (k.wrap (m * n))) := by
  intro a w ha _
  simp only [execOp, ha.eval hx, ha.eval hy, binOp, Op.intArith, ne_eq, not_true_eq_false, if_false]; rfl
theorem S_quo (hx : ev σ x = some (.int k m)) (hy : ev σ y = some (.int k n)) (hn : n ≠ 0) : Still P N σ h bl ⟨dst, .binOp .quo t x y u, ty, pos, aft, g⟩ (.int k (k.wrap (m.tdiv n))) := by
  intro a w ha _
  simp only [execOp, ha.eval hx, ha.eval hy, binOp, Op.intDiv, ne_eq, not_true_eq_false, if_false, hn]; rfl
theorem S_rem (hx : ev σ x = some (.int k m)) (hy : ev σ y = some (.int k n)) (hn : n ≠ 0) : Still P N σ h bl ⟨dst, .binOp .rem t x y u, ty, pos, aft, g⟩ (.int k (m.tmod n)) := by
  intro a w ha _
  simp only [execOp, ha.eval hx, ha.eval hy, binOp, Op.intDiv, ne_eq, not_true_eq_false, if_false, hn]; rfl
theorem S_shr {k' : IntKind} (hx : ev σ x = some (.int k m)) (hy : ev σ y = some (.int k' n)) (hn : 0 ≤ n) : Still P N σ h bl ⟨dst, .binOp .shr t x y u, ty, pos, aft, g⟩ (.int k (m.fdiv (2 ^ (min n.toNat k.bits)))) := by
  intro a w ha _
  simp only [execOp, ha.eval hx, ha.eval hy, binOp, Op.shift, if_neg (show ¬ n < 0 by omega)]; rfl
theorem S_shl {k' : IntKind} (hx : ev σ x = some (.int k m)) (hy : ev σ y = some (.int k' n)) (hn : 0 ≤ n) : Still P N σ h bl ⟨dst, .binOp .shl t x y u, ty, pos, aft, g⟩ (.int k (k.wrap (m * (2 ^ (min n.toNat k.bits))))) := by
  intro a w ha _
  simp only [execOp, ha.eval hx, ha.eval hy, binOp, Op.shift, if_neg (show ¬ n < 0 by omega)]; rfl
theorem S_eql (hx : ev σ x = some (.int k m)) (hy : ev σ y = some (.int k n)) : Still P N σ h bl ⟨dst, .binOp .eql t x y u, ty, pos, aft, g⟩ (.bool (decide (m = n))) := by
  intro a w ha _
  simp only [execOp, ha.eval hx, ha.eval hy, binOp, Op.intCmp, ne_eq, not_true_eq_false, if_false]; rfl
theorem S_neq (hx : ev σ x = some (.int k m)) (hy : ev σ y = some (.int k n)) : Still P N σ h bl ⟨dst, .binOp .neq t x y u, ty, pos, aft, g⟩ (.bool (!decide (m = n))) := by
  intro a w ha _
  simp only [execOp, ha.eval hx, ha.eval hy, binOp, Op.intCmp, ne_eq, not_true_eq_false, if_false]; rfl
theorem S_lss (hx : ev σ x = some (.int k m)) (hy : ev σ y = some (.int k n)) : Still P N σ h bl ⟨dst, .binOp .lss t x y u, ty, pos, aft, g⟩ (.bool (decide (m < n))) := by
  intro a w ha _
  simp only [execOp, ha.eval hx, ha.eval hy, binOp, Op.intCmp, ne_eq, not_true_eq_false, if_false]; rfl
theorem S_leq (hx : ev σ x = some (.int k m)) (hy : ev σ y = some (.int k n)) : Still P N σ h bl ⟨dst, .binOp .leq t x y u, ty, pos, aft, g⟩ (.bool (decide (m ≤ n))) := by
  intro a w ha _
  simp only [execOp, ha.eval hx, ha.eval hy, binOp, Op.intCmp, ne_eq, not_true_eq_false, if_false]; rfl
theorem S_gtr (hx : ev σ x = some (.int k m)) (hy : ev σ y = some (.int k n)) : Still P N σ h bl ⟨dst, .binOp .gtr t x y u, ty, pos, aft, g⟩ (.bool (decide (n < m))) := by
  intro a w ha _
  simp only [execOp, ha.eval hx, ha.eval hy, binOp, Op.intCmp, ne_eq, not_true_eq_false, if_false]; rfl
theorem S_geq (hx : ev σ x = some (.int k m)) (hy : ev σ y = some (.int k n)) : Still P N σ h bl ⟨dst, .binOp .geq t x y u, ty, pos, aft, g⟩ (.bool (decide (n ≤ m))) := by
  intro a w ha _
  simp only [execOp, ha.eval hx, ha.eval hy, binOp, Op.intCmp, ne_eq, not_true_eq_false, if_false]; rfl
theorem S_neg (hx : ev σ x = some (.int k m)) : Still P N σ h bl ⟨dst, .unOp .neg t x, ty, pos, aft, g⟩ (.int k (k.wrap (0 - m))) := by
  intro a w ha _
  simp only [execOp, ha.eval hx, Op.unary, Op.intArith]; rfl
theorem S_not {b : Bool} (hx : ev σ x = some (.bool b)) : Still P N σ h bl ⟨dst, .unOp .not t x, ty, pos, aft, g⟩ (.bool (!b)) := by
  intro a w ha _
  simp only [execOp, ha.eval hx, Op.unary]; rfl
theorem S_min (hx : ev σ x = some (.int k m)) (hy : ev σ y = some (.int k n)) {tys : Array TypeId} : Still P N σ h bl ⟨dst, .call { callee := .builtin .min, args := #[x, y], argTypes := tys }, ty, pos, aft, g⟩ (.int k (if n < m then n else m)) := by
  intro a w ha _
  simp only [execOp, resolve, invoke, builtin, Builtin.min_, List.map_toArray, List.map_cons, List.map_nil, ha.eval hx, ha.eval hy]; rfl
theorem S_max (hx : ev σ x = some (.int k m)) (hy : ev σ y = some (.int k n)) {tys : Array TypeId} : Still P N σ h bl ⟨dst, .call { callee := .builtin .max, args := #[x, y], argTypes := tys }, ty, pos, aft, g⟩ (.int k (if m < n then n else m)) := by
  intro a w ha _
  simp only [execOp, resolve, invoke, builtin, Builtin.max_, List.map_toArray, List.map_cons, List.map_nil, ha.eval hx, ha.eval hy]; rfl
end ints

theorem S_nil {x : Operand} {p : Addr} (hx : ev σ x = some (.pointer (some p))) : Still P N σ h bl ⟨dst, .nilCheck x, ty, pos, aft, g⟩ (.pointer (some p)) := by
  intro a w ha _
  simp only [execOp, ha.eval hx]; rfl

theorem run_under {d : TypeDesc} {t : TypeId} (w : World) (hu : P.underlying t = some d) : (underlying t).run P w = .ok d w := by
  simp [underlying, program, hu, Sem.run, pure, bind, Sem.bind]
theorem run_tinfo {i : TypeInfo} {t : TypeId} (w : World) (hi : P.info? t = some i) : (typeInfo t).run P w = .ok i w := by
  simp [typeInfo, program, hi, Sem.run, pure, bind, Sem.bind]
theorem run_size {i : TypeInfo} {t : TypeId} (w : World) (hi : P.info? t = some i) : (sizeOf t).run P w = .ok i.size w := by
  simp [sizeOf, typeInfo, program, hi, Sem.run, pure, bind, Sem.bind]

theorem S_field {s : TypeId} {x : Operand} {f k : Nat} {fs : Array Field} {fd : Field} {i : TypeInfo} {b off : Nat} (hu : P.underlying s = some (.struct fs)) (hf : fs[f]? = some fd) (ho : fd.offset = k)
    (hi : P.info? fd.type = some i) (hz : (Nat.beq i.size 0) = false) (hx : ev σ x = some (.pointer (some ⟨b, off, none⟩))) :
    Still P N σ h bl ⟨dst, .fieldAddr s x f, ty, pos, aft, g⟩ (.pointer (some ⟨b, off + k, none⟩)) := by
  intro a w ha _
  subst ho
  have hz' : ¬ i.size = 0 := fun e => by rw [e] at hz; cases hz
  have hp : (fieldPlace ⟨b, off, none⟩ fd).run P w = .ok ⟨b, off + fd.offset, none⟩ w := by
    simp only [fieldPlace, Sem.run_bind, run_size w hi, Result.andThen_ok, if_neg hz', Addr.add]
    split
    · rename_i e; rw [e]; rfl
    · rfl
  simp only [execOp, ha.eval hx, Instr.fieldAt, Sem.run_bind, run_under w hu, Result.andThen_ok, hf, Instr.sureAddr, Sem.run_pure, hp]

/-! ### Loads -/
def Cell (h : Hp) (bl : Bl) (b off : Nat) (v : Value) : Prop := ∃ cs T fz, (h b = some (.cells cs T fz) ∨ (b, .cells cs T fz) ∈ bl.flatten) ∧ cs[off]? = some v
theorem Cell.trk {b off : Nat} {v : Value} {l : List Value} {T : TypeId} {fz : Nat × Nat} (hb : Has bl b (.cells l.toArray T fz)) (hv : l[off]? = some v) : Cell h bl b off v :=
  ⟨_, T, fz, .inr hb.mem, by simpa using hv⟩
theorem Cell.at_ {b off : Nat} {v : Value} {w : World} (c : Cell h bl b off v) (k : Knows h bl w) : w.cell? ⟨b, off, none⟩ = some v := by
  obtain ⟨cs, T, fz, hb, hv⟩ := c
  have : w.heap[b]? = some (.cells cs T fz) := by
    rcases hb with hb | hb
    · exact k.1 _ _ hb
    · exact k.2 _ hb
  simp [World.cell?, this, hv]
def Cells (h : Hp) (bl : Bl) (b : Nat) : Nat → List Value → Prop
  | _, [] => True
  | off, v :: vs => Cell h bl b off v ∧ Cells h bl b (off + 1) vs

def aggd : TypeDesc → Bool
  | .struct _ | .array _ _ => true
  | _ => false
theorem run_isAgg {d : TypeDesc} {t : TypeId} (w : World) (hu : P.underlying t = some d) : (isAgg t).run P w = .ok (aggd d) w := by
  simp only [isAgg, Sem.run_bind, run_under w hu, Result.andThen_ok]
  cases d <;> rfl
theorem run_load {b off : Nat} {v : Value} {w : World} (hc : w.cell? ⟨b, off, none⟩ = some v) : (load ⟨b, off, none⟩).run P w = .ok v w := by
  simp [load, Sem.run, hc]
theorem S_load {t : TypeId} {x : Operand} {d : TypeDesc} {b off : Nat} {v : Value} (hu : P.underlying t = some d) (hd : aggd d = false) (hx : ev σ x = some (.pointer (some ⟨b, off, none⟩)))
    (hc : Cell h bl b off v) : Still P N σ h bl ⟨dst, .load t x, ty, pos, aft, g⟩ v := by
  intro a w ha hk
  simp only [execOp, ha.eval hx, Instr.loadAt, Instr.sureAddr, loadVar, Sem.run_bind, Sem.run_pure, run_isAgg w hu, hd, Result.andThen_ok, run_load (hc.at_ hk), Bool.false_eq_true, if_false]

theorem add_none (b off i : Nat) : (⟨b, off, none⟩ : Addr).add i = ⟨b, off + i, none⟩ := by
  unfold Addr.add; split <;> simp_all
theorem run_loadCells {b : Nat} {w : World} : ∀ (vs : List Value) (off i : Nat) (acc : Array Value), (∀ j (hj : j < vs.length), w.cell? ⟨b, off + i + j, none⟩ = some vs[j]) →
    (loadCellsFrom ⟨b, off, none⟩ i vs.length acc).run P w = .ok (acc ++ vs.toArray) w
  | [], off, i, acc, _ => by simp [loadCellsFrom]
  | v :: vs, off, i, acc, hc => by
    have h0 := hc 0 (by simp)
    simp only [Nat.add_zero, List.getElem_cons_zero] at h0
    have ih := run_loadCells vs off (i + 1) (acc.push v) (fun j hj => by
      have := hc (j + 1) (by simpa using hj)
      simpa [Nat.add_assoc, Nat.add_comm 1 j, Nat.add_left_comm] using this)
    simp only [List.length_cons, loadCellsFrom, Sem.run_bind, add_none, run_load h0, Result.andThen_ok, ih]
    simp
theorem Cells.at_ {b : Nat} {w : World} : ∀ {vs : List Value} {off : Nat}, Cells h bl b off vs → Knows h bl w → ∀ j (hj : j < vs.length), w.cell? ⟨b, off + j, none⟩ = some vs[j]
  | v :: vs, off, c, k, 0, _ => c.1.at_ k
  | v :: vs, off, c, k, j + 1, hj => by
    have := Cells.at_ c.2 k j (by simpa using hj)
    simpa [Nat.add_assoc, Nat.add_comm 1 j] using this
theorem S_loads {t : TypeId} {x : Operand} {d : TypeDesc} {b off : Nat} {vs : List Value} {i : TypeInfo} (hu : P.underlying t = some d) (hd : aggd d = true) (hi : P.info? t = some i) (hs : i.size = vs.length)
    (hx : ev σ x = some (.pointer (some ⟨b, off, none⟩))) (hc : Cells h bl b off vs) : Still P N σ h bl ⟨dst, .load t x, ty, pos, aft, g⟩ (.agg vs.toArray) := by
  intro a w ha hk
  have := run_loadCells (P := P) vs off 0 #[] (by simpa using hc.at_ hk)
  simp only [execOp, ha.eval hx, Instr.loadAt, Instr.sureAddr, loadVar, Sem.run_bind, Sem.run_pure, run_isAgg w hu, hd, Result.andThen_ok, if_true, run_size w hi, hs, loadCells, this]
  simp

/-! ### Slices -/
theorem S_index {t e : TypeId} {x y : Operand} {i : TypeInfo} {b off len cap : Nat} {k : IntKind} {n : Int} (hu : P.underlying t = some (.slice e)) (hi : P.info? e = some i)
    (hx : ev σ x = some (.slice (some ⟨b, off, none⟩) len cap)) (hy : ev σ y = some (.int k n)) (h0 : 0 ≤ n) (h1 : n < len) :
    Still P N σ h bl ⟨dst, .indexAddr t x y, ty, pos, aft, g⟩ (.pointer (some ⟨b, off + n.toNat * i.size, none⟩)) := by
  intro a w ha _
  simp only [execOp, ha.eval hx, ha.eval hy, Instr.indexAt, asIntOf, Sem.run_bind, Sem.run_pure, run_under w hu, Result.andThen_ok, run_size w hi]
  simp [h0, h1, run_size w hi, add_none]

theorem S_len {t e : TypeId} {x : Operand} {A : Option Addr} {len cap : Nat} (hu : P.underlying t = some (.slice e)) (hx : ev σ x = some (.slice A len cap)) :
    Still P N σ h bl ⟨dst, .call { callee := .builtin .len, args := #[x], argTypes := #[t] }, ty, pos, aft, g⟩ (.int .i64 len) := by
  intro a w ha _
  simp only [execOp, resolve, invoke, builtin, Builtin.len_, List.map_toArray, List.map_cons, List.map_nil, ha.eval hx, Sem.run_bind, Sem.run_pure, run_under w hu, Result.andThen_ok]
  simp [run_under w hu, goInt]
theorem S_cap {t e : TypeId} {x : Operand} {A : Option Addr} {len cap : Nat} (hu : P.underlying t = some (.slice e)) (hx : ev σ x = some (.slice A len cap)) :
    Still P N σ h bl ⟨dst, .call { callee := .builtin .cap, args := #[x], argTypes := #[t] }, ty, pos, aft, g⟩ (.int .i64 cap) := by
  intro a w ha _
  simp only [execOp, resolve, invoke, builtin, Builtin.cap_, List.map_toArray, List.map_cons, List.map_nil, ha.eval hx, Sem.run_bind, Sem.run_pure, run_under w hu, Result.andThen_ok]
  simp [run_under w hu, goInt]
theorem S_slen {t : TypeId} {x : Operand} {s : ByteArray} (hu : P.underlying t = some .string) (hx : ev σ x = some (.string s)) :
    Still P N σ h bl ⟨dst, .call { callee := .builtin .len, args := #[x], argTypes := #[t] }, ty, pos, aft, g⟩ (.int .i64 s.size) := by
  intro a w ha _
  simp only [execOp, resolve, invoke, builtin, Builtin.len_, List.map_toArray, List.map_cons, List.map_nil, ha.eval hx, Sem.run_bind, Sem.run_pure, run_under w hu, Result.andThen_ok]
  simp [run_under w hu, goInt]

/-- x[l:hi:m] of a slice, l ≤ hi ≤ m. -/
def cut3 (A : Option Addr) (cap size l hi m : Nat) : Value := .slice (if m = l then A else A.map (·.add (l * size))) (hi - l) (m - l)

theorem run_bound {v : Value} {k : IntKind} {n : Int} {y : Nat} {c : BoundsCode} (w : World) (hv : v = .int k n) (h0 : 0 ≤ n) (h1 : n ≤ y) : (Instr.sliceBound v y c).run P w = .ok n.toNat w := by
  subst hv
  simp [Instr.sliceBound, asIntOf, h0, h1]

/-- What a bound that may be left out comes to. -/
def bnd (σ : List (Nat × Value)) (d : Nat) : Option Operand → Option Int
  | none => some d
  | some x => match ev σ x with | some (.int _ n) => some n | _ => none

theorem S_slice {t e : TypeId} {x : Operand} {lo hi : Option Operand} {i : TypeInfo} {A : Option Addr} {len cap : Nat} {l m : Int} (hu : P.underlying t = some (.slice e)) (hi' : P.info? e = some i)
    (hx : ev σ x = some (.slice A len cap)) (hl : bnd σ 0 lo = some l) (hm : bnd σ len hi = some m) (h0 : 0 ≤ l) (h1 : l ≤ m) (h2 : m ≤ cap) :
    Still P N σ h bl ⟨dst, .slice t x lo hi none, ty, pos, aft, g⟩ (cut3 A cap i.size l.toNat m.toNat cap) := by
  intro a w ha _
  have hH : (match hi.map a.eval with | some v => Instr.sliceBound v cap .sliceAcap | none => (pure len : Sem Nat)).run P w = .ok m.toNat w := by
    cases hi with
    | none => simp only [bnd, Option.some.injEq] at hm; subst hm; simp
    | some y =>
      simp only [bnd] at hm
      split at hm
      · rename_i k n hy
        cases hm
        simp only [Option.map_some, ha.eval hy]
        exact run_bound w rfl (by omega) h2
      · cases hm
  have hL : (match lo.map a.eval with | some v => Instr.sliceBound v m.toNat .sliceB | none => (pure 0 : Sem Nat)).run P w = .ok l.toNat w := by
    cases lo with
    | none => simp only [bnd, Option.some.injEq] at hl; subst hl; simp
    | some y =>
      simp only [bnd] at hl
      split at hl
      · rename_i k n hy
        cases hl
        simp only [Option.map_some, ha.eval hy]
        exact run_bound w rfl h0 (by omega)
      · cases hl
  have hS : (Instr.sliceBounds true len cap (lo.map a.eval) (hi.map a.eval) none).run P w = .ok (l.toNat, m.toNat, cap) w := by
    unfold Instr.sliceBounds
    simp only [Sem.run_bind, Sem.run_pure, Result.andThen_ok]
    cases hi with
    | none =>
      simp only [Option.map_none] at hH ⊢
      simp only [Sem.run_pure, Result.ok.injEq, and_true] at hH
      rw [Sem.run_bind, Sem.run_pure, Result.andThen_ok]
      cases lo with
      | none => simp only [Option.map_none, Sem.run_pure, Result.ok.injEq, and_true] at hL ⊢; rw [← hH, ← hL]; rfl
      | some z =>
        simp only [Option.map_some] at hL ⊢
        simp only [Option.isSome_none, Bool.false_eq_true, if_false]
        rw [hH, Sem.run_bind, hL]; rfl
    | some y =>
      simp only [Option.map_some] at hH ⊢
      simp only [if_true]
      rw [Sem.run_bind, hH, Result.andThen_ok]
      cases lo with
      | none => simp only [Option.map_none, Sem.run_pure, Result.ok.injEq, and_true] at hL ⊢; rw [← hL]; rfl
      | some z =>
        simp only [Option.map_some] at hL ⊢
        simp only [Option.isSome_none, Bool.false_eq_true, if_false]
        rw [Sem.run_bind, hL]; rfl
  simp only [execOp, Option.map_none, ha.eval hx, Instr.sliceAt, Sem.run_bind, run_under w hu, Result.andThen_ok, Instr.slice, hS, run_size w hi', Sem.run_pure, cut3]

theorem S_extract {x : Operand} {n : Nat} {vs : List Value} {v : Value} (hx : ev σ x = some (.tuple vs.toArray)) (hv : vs[n]? = some v) : Still P N σ h bl ⟨dst, .extract x n, ty, pos, aft, g⟩ v := by
  intro a w ha _
  have : vs.toArray[n]? = some v := by simpa using hv
  simp only [execOp, ha.eval hx, Instr.extract, this]; rfl
theorem S_func {fn : Fn} {first captured : List Operand} {fs cs : List Value} (h1 : first.mapM (ev σ) = some fs) (h2 : captured.mapM (ev σ) = some cs) :
    Still P N σ h bl ⟨dst, .makeFunc fn first.toArray captured.toArray, ty, pos, aft, g⟩ (.func fn fs.toArray cs.toArray) := by
  have aux : ∀ (a : Act), Fr N σ a → ∀ (l : List Operand) (vs : List Value), l.mapM (ev σ) = some vs → l.map a.eval = vs := by
    intro a ha l
    induction l with
    | nil => intro vs hv; simp at hv; simp [hv]
    | cons x l ih =>
      intro vs hv
      simp only [List.mapM_cons] at hv
      cases hx : ev σ x with
      | none => simp [hx] at hv
      | some u =>
        cases hl : l.mapM (ev σ) with
        | none => simp [hx, hl] at hv
        | some us =>
          simp [hx, hl] at hv
          subst hv
          simp [ha.eval hx, ih us hl]
  intro a w ha _
  simp only [execOp, Instr.makeFunc, List.map_toArray, aux a ha _ _ h1, aux a ha _ _ h2]; rfl

/-- The parts of a struct or a slice that is built. -/
def parts (σ : List (Nat × Value)) : List (Nat × Operand) → Option (List (Nat × Value))
  | [] => some []
  | (i, x) :: r => match ev σ x, parts σ r with | some v, some vs => some ((i, v) :: vs) | _, _ => none
theorem parts_map {a : Act} (ha : Fr N σ a) : ∀ {l : List (Nat × Operand)} {vs : List (Nat × Value)}, parts σ l = some vs → l.map (fun (i, x) => (i, a.eval x)) = vs
  | [], vs, h => by simp [parts] at h; simp [h]
  | (i, x) :: r, vs, h => by
    simp only [parts] at h
    split at h
    · rename_i v us hx hr
      cases h
      simp [ha.eval hx, parts_map ha hr]
    · cases h
theorem S_build {t : TypeId} {ps : List (Nat × Operand)} {vs : List (Nat × Value)} {v : Value} (hp : parts σ ps = some vs) (hb : ∀ w, (Instr.build t vs.toArray).run P w = .ok v w) :
    Still P N σ h bl ⟨dst, .build t ps.toArray, ty, pos, aft, g⟩ v := by
  intro a w ha _
  simp only [execOp, List.map_toArray, parts_map ha hp, Sem.run_bind, hb w, Result.andThen_ok, Sem.run_pure]
theorem S_iface {t : TypeId} {x : Operand} {d : TypeDesc} {v : Value} (hu : P.underlying t = some d) (hd : (match d with | .interface _ => true | _ => false) = false) (hx : ev σ x = some v) :
    Still P N σ h bl ⟨dst, .makeInterface t x, ty, pos, aft, g⟩ (.iface t v) := by
  intro a w ha _
  simp only [execOp, ha.eval hx, Instr.makeInterface, Sem.run_bind, run_under w hu, Result.andThen_ok]
  cases d <;> simp at hd ⊢
theorem S_conv {t u : TypeId} {x : Operand} {k k' : IntKind} {n : Int} {d : TypeDesc} (hu : P.underlying t = some d) (hu' : P.underlying u = some (.int k)) (hx : ev σ x = some (.int k' n)) :
    Still P N σ h bl ⟨dst, .convert t u x, ty, pos, aft, g⟩ (.int k (k.wrap n)) := by
  intro a w ha _
  simp only [execOp, ha.eval hx, convert, Sem.run_bind, run_under w hu, run_under w hu', Result.andThen_ok, Conv.intToInt, Sem.run_pure]
end
end Go.Proofs.Ytdglignjoojimaa
