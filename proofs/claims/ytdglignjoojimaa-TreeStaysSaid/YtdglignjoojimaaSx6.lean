/- More operations: comparisons with nil, parts of structs, slices that grow, copies. No conditions. -/
import Derived.Test.YtdglignjoojimaaSx5
set_option linter.unusedVariables false
set_option linter.unusedSimpArgs false
namespace Go.Proofs.Ytdglignjoojimaa

section
variable {X : Cx} {P : Program} {N : Nat} {ops : Array Oper} {Q : Exit → Act → World → Prop} {σ : List (Nat × Value)} {h : Hp} {bl bl' : Bl} {rest : List Oper}
variable {dst : Option Tmp} {d : Nat} {ty : TypeId} {pos : String} {aft : Array Edge} {g : Option (Nat × Bool)}

theorem S_pick_t {c x y : Operand} {u : Value} (hc : ev σ c = some (.bool true)) (hx : ev σ x = some u) : Still P N σ h bl ⟨dst, .pick c x y, ty, pos, aft, g⟩ u := by
  intro a w ha _
  simp only [execOp, ha.eval hc, ha.eval hx]; rfl
theorem S_pick_f {c x y : Operand} {u : Value} (hc : ev σ c = some (.bool false)) (hy : ev σ y = some u) : Still P N σ h bl ⟨dst, .pick c x y, ty, pos, aft, g⟩ u := by
  intro a w ha _
  simp only [execOp, ha.eval hc, ha.eval hy]; rfl
theorem S_nilf {x : Operand} {f : FuncId} {fs cs : Array Value} (hx : ev σ x = some (.func (.func f) fs cs)) : Still P N σ h bl ⟨dst, .nilCheck x, ty, pos, aft, g⟩ (.func (.func f) fs cs) := by
  intro a w ha _
  simp only [execOp, ha.eval hx]; rfl
theorem S_fn {fn : Fn} {first captured : List Operand} {fs cs : List Value} (h1 : evs σ first = some fs) (h2 : evs σ captured = some cs) :
    Still P N σ h bl ⟨dst, .makeFunc fn first.toArray captured.toArray, ty, pos, aft, g⟩ (.func fn fs.toArray cs.toArray) := by
  intro a w ha _
  simp only [execOp, Instr.makeFunc, List.map_toArray, evs_map ha h1, evs_map ha h2]; rfl

theorem eq_slice {t e : TypeId} {A : Option Addr} {n c : Nat} (hu : P.underlying t = some (.slice e)) (w : World) : (Op.equal t (.slice A n c) (.slice none 0 0)).run P w = .ok A.isNone w := by
  have : ∀ d, (Op.equalIn (d + 1) t (.slice A n c) (.slice none 0 0)).run P w = .ok A.isNone w := fun d => by
    simp only [Op.equalIn, Sem.run_bind, run_under w hu, Result.andThen_ok]
    cases A <;> rfl
  exact this 9999
theorem eq_ptr {t e : TypeId} {A : Option Addr} (hu : P.underlying t = some (.pointer e)) (w : World) : (Op.equal t (.pointer A) (.pointer none)).run P w = .ok A.isNone w := by
  have : ∀ d, (Op.equalIn (d + 1) t (.pointer A) (.pointer none)).run P w = .ok A.isNone w := fun d => by
    simp only [Op.equalIn, Sem.run_bind, run_under w hu, Result.andThen_ok]
    cases A <;> rfl
  exact this 9999
theorem eq_bool {t : TypeId} {b c : Bool} (hu : P.underlying t = some .bool) (w : World) : (Op.equal t (.bool b) (.bool c)).run P w = .ok (b == c) w := by
  have : ∀ d, (Op.equalIn (d + 1) t (.bool b) (.bool c)).run P w = .ok (b == c) w := fun d => by
    simp only [Op.equalIn, Sem.run_bind, run_under w hu, Result.andThen_ok]; rfl
  exact this 9999
theorem S_eqnil {t u : TypeId} {e : TypeId} {x y : Operand} {A : Option Addr} {n c : Nat} (hu : P.underlying t = some (.slice e)) (hx : ev σ x = some (.slice A n c)) (hy : ev σ y = some (.slice none 0 0)) :
    Still P N σ h bl ⟨dst, .binOp .eql t x y u, ty, pos, aft, g⟩ (.bool (A.isNone)) := by
  intro a w ha _
  simp only [execOp, ha.eval hx, ha.eval hy, eqGuard, binOp, Sem.run_bind, eq_slice hu, Result.andThen_ok, Sem.run_pure]
  rfl
theorem S_nenil {t u : TypeId} {e : TypeId} {x y : Operand} {A : Option Addr} {n c : Nat} (hu : P.underlying t = some (.slice e)) (hx : ev σ x = some (.slice A n c)) (hy : ev σ y = some (.slice none 0 0)) :
    Still P N σ h bl ⟨dst, .binOp .neq t x y u, ty, pos, aft, g⟩ (.bool (!A.isNone)) := by
  intro a w ha _
  simp only [execOp, ha.eval hx, ha.eval hy, eqGuard, binOp, Sem.run_bind, eq_slice hu, Result.andThen_ok, Sem.run_pure]
  rfl
theorem S_peqnil {t u : TypeId} {e : TypeId} {x y : Operand} {A : Option Addr} (hu : P.underlying t = some (.pointer e)) (hx : ev σ x = some (.pointer A)) (hy : ev σ y = some (.pointer none)) :
    Still P N σ h bl ⟨dst, .binOp .eql t x y u, ty, pos, aft, g⟩ (.bool (A.isNone)) := by
  intro a w ha _
  simp only [execOp, ha.eval hx, ha.eval hy, eqGuard, binOp, Sem.run_bind, eq_ptr hu, Result.andThen_ok, Sem.run_pure]
  rfl
theorem S_pnenil {t u : TypeId} {e : TypeId} {x y : Operand} {A : Option Addr} (hu : P.underlying t = some (.pointer e)) (hx : ev σ x = some (.pointer A)) (hy : ev σ y = some (.pointer none)) :
    Still P N σ h bl ⟨dst, .binOp .neq t x y u, ty, pos, aft, g⟩ (.bool (!A.isNone)) := by
  intro a w ha _
  simp only [execOp, ha.eval hx, ha.eval hy, eqGuard, binOp, Sem.run_bind, eq_ptr hu, Result.andThen_ok, Sem.run_pure]
  rfl
theorem S_beq {t u : TypeId}  {x y : Operand} {b c : Bool} (hu : P.underlying t = some .bool) (hx : ev σ x = some (.bool b)) (hy : ev σ y = some (.bool c)) :
    Still P N σ h bl ⟨dst, .binOp .eql t x y u, ty, pos, aft, g⟩ (.bool (b == c)) := by
  intro a w ha _
  simp only [execOp, ha.eval hx, ha.eval hy, eqGuard, binOp, Sem.run_bind, eq_bool hu, Result.andThen_ok, Sem.run_pure]
  rfl
theorem S_bne {t u : TypeId}  {x y : Operand} {b c : Bool} (hu : P.underlying t = some .bool) (hx : ev σ x = some (.bool b)) (hy : ev σ y = some (.bool c)) :
    Still P N σ h bl ⟨dst, .binOp .neq t x y u, ty, pos, aft, g⟩ (.bool (!(b == c))) := by
  intro a w ha _
  simp only [execOp, ha.eval hx, ha.eval hy, eqGuard, binOp, Sem.run_bind, eq_bool hu, Result.andThen_ok, Sem.run_pure]
  rfl

/-- An operation that leaves the world alone, as one that acts. -/
def PVal (σ : List (Nat × Value)) (h : Hp) (bl : Bl) (d : Nat) (v : Value) (σ' : List (Nat × Value)) (h' : Hp) (bl' : Bl) : Prop := σ' = (d, v) :: σ ∧ h = h' ∧ bl' = bl
theorem E_still {op : Op} {v : Value} (hlt : Nat.blt d N = true) (hs : Still P N σ h bl ⟨some d, op, ty, pos, aft, g⟩ v) : Eff X P N ⟨some d, op, ty, pos, aft, g⟩ σ h bl (PVal σ h bl d v) := by
  intro a w ha hr
  rw [Oper.wp, hs a w ha hr.knows, Oper.upon_value]
  exact ⟨_, _, _, ⟨rfl, rfl, rfl⟩, ha.put (Nat.le_of_ble_eq_true hlt) v, hr⟩

/-! ### Parts of lists -/
inductive HeadR : List Value → Nat → List Value → Prop
  | nil {l : List Value} : HeadR l 0 []
  | cons {x : Value} {l r : List Value} {n : Nat} : HeadR l n r → HeadR (x :: l) (n + 1) (x :: r)
inductive TakeR : List Value → Nat → Nat → List Value → Prop
  | here {l r : List Value} {n : Nat} : HeadR l n r → TakeR l 0 n r
  | there {x : Value} {l r : List Value} {off n : Nat} : TakeR l off n r → TakeR (x :: l) (off + 1) n r
theorem HeadR.spec {l r : List Value} {n : Nat} (k : HeadR l n r) : r.length = n ∧ ∀ j (hj : j < r.length), l[j]? = some r[j] := by
  induction k with
  | nil => exact ⟨rfl, fun j hj => by simp at hj⟩
  | cons _ ih =>
    refine ⟨by simp [ih.1], fun j hj => ?_⟩
    cases j with
    | zero => simp
    | succ j => simpa using ih.2 j (by simpa using hj)
theorem TakeR.spec {l r : List Value} {off n : Nat} (k : TakeR l off n r) : r.length = n ∧ ∀ j (hj : j < r.length), l[off + j]? = some r[j] := by
  induction k with
  | here k => simpa using k.spec
  | there _ ih =>
    refine ⟨ih.1, fun j hj => ?_⟩
    have := ih.2 j hj
    simpa [Nat.add_right_comm] using this
theorem Cells.of_at {b : Nat} {cs : Array Value} {T : TypeId} {fz : Nat × Nat} (hb : h b = some (.cells cs T fz) ∨ (b, .cells cs T fz) ∈ bl.flatten) : ∀ {r : List Value} {off : Nat}, (∀ j (hj : j < r.length), cs[off + j]? = some r[j]) → Cells h bl b off r
  | [], _, _ => trivial
  | v :: r, off, hr => ⟨⟨cs, T, fz, hb, by have := hr 0 (by simp); simpa only [Nat.add_zero, List.getElem_cons_zero] using this⟩, Cells.of_at hb fun j hj => by
      have := hr (j + 1) (by simpa using hj)
      simpa [Nat.add_assoc, Nat.add_comm 1 j] using this⟩
theorem Cells.trk {b off n : Nat} {l r : List Value} {T : TypeId} {fz : Nat × Nat} (hb : Has bl b (.cells l.toArray T fz)) (k : TakeR l off n r) : Cells h bl b off r :=
  Cells.of_at (.inr hb.mem) fun j hj => by simpa using k.spec.2 j hj
theorem Cells.all {b : Nat} {l : List Value} {T : TypeId} {fz : Nat × Nat} (hb : Has bl b (.cells l.toArray T fz)) : Cells h bl b 0 l :=
  Cells.of_at (.inr hb.mem) fun j hj => by simp [hj]

/-! ### Structs that are built -/
inductive BuildR (P : Program) (fs : Array Field) : List Value → List (Nat × Value) → List Value → Prop
  | nil {zs : List Value} : BuildR P fs zs [] zs
  | cons {zs z1 z2 vc : List Value} {i : Nat} {v : Value} {fd : Field} {ti : TypeInfo} {r : List (Nat × Value)} : fs[i]? = some fd → P.info? fd.type = some ti → v.cells = vc.toArray → ti.size = vc.length → Nat.ble (fd.offset + vc.length) zs.length = true →
      PutR zs fd.offset vc z1 → BuildR P fs z1 r z2 → BuildR P fs zs ((i, v) :: r) z2

theorem PutR.spec {l l' vs : List Value} {n : Nat} (p : PutR l n vs l') : l'.length = l.length ∧ n + vs.length ≤ l.length ∨ vs = [] ∧ l' = l := by
  induction p with
  | nil => exact .inr ⟨rfl, rfl⟩
  | cons s p ih =>
    obtain ⟨hn, rfl⟩ := s.eq
    left
    rcases ih with ⟨h1, h2⟩ | ⟨h1, h2⟩
    · simp at h1 h2 ⊢; omega
    · subst h1 h2; simp; omega
theorem PutR.fold {l l' vs : List Value} {n : Nat} (p : PutR l n vs l') : ∀ (k : Nat), ((vs.zipIdx k).foldl (fun cs (c, j) => cs.setIfInBounds (n - k + j) c) l.toArray) = l'.toArray ∨ n < k := by
  induction p with
  | nil => intro k; left; rfl
  | cons s p ih =>
    rename_i l l1 l2 vs n v
    obtain ⟨hn, rfl⟩ := s.eq
    intro k
    rcases Nat.lt_or_ge n k with hk | hk
    · exact .inr hk
    · left
      rcases ih (k + 1) with e | e
      · simp only [List.zipIdx_cons, List.foldl_cons]
        rw [show n + 1 - (k + 1) = n - k by omega] at e
        rw [show n - k + k = n by omega, List.setIfInBounds_toArray]
        exact e
      · omega

theorem run_fill {fs : Array Field} {place : Nat → Option (Nat × Nat)} (hpl : ∀ (i : Nat) (fd : Field) (ti : TypeInfo), fs[i]? = some fd → P.info? fd.type = some ti → place i = some (fd.offset, ti.size)) {zs out : List Value} {ps : List (Nat × Value)}
    (b : BuildR P fs zs ps out) : Instr.fill place zs.toArray ps = some out.toArray := by
  induction b with
  | nil => rfl
  | cons h1 h2 h3 h4 h6 h5 _ ih =>
    rename_i zs z1 z2 vc i v fd ti r _
    have hle := Nat.le_of_ble_eq_true h6
    have hf := h5.fold 0
    simp only [Nat.sub_zero, Nat.not_lt_zero, or_false] at hf
    have hz : (vc.toArray.zipIdx.foldl (fun cs (c, j) => cs.setIfInBounds (fd.offset + j) c) zs.toArray) = z1.toArray := by
      rw [← hf, ← Array.foldl_toList, Array.toList_zipIdx]
    simp only [Instr.fill, hpl i fd ti h1 h2, h3]
    rw [if_neg (by simp [h4]; omega)]
    rw [hz, ih]

theorem run_places {fs : List Field} (w : World) (hi : ∀ fd ∈ fs, ∃ ti, P.info? fd.type = some ti) :
    (fs.mapM (fun (f : Field) => do pure (f.offset, ← sizeOf f.type)) : Sem (List (Nat × Nat))).run P w = .ok (fs.map fun f => (f.offset, P.cellsOf f.type)) w := by
  induction fs with
  | nil => simp
  | cons f fs ih =>
    obtain ⟨ti, ht⟩ := hi f (by simp)
    have hc : P.cellsOf f.type = ti.size := by simp [Program.cellsOf, ht]
    simp only [List.mapM_cons, Sem.run_bind, run_size w ht, Result.andThen_ok, Sem.run_pure, ih fun fd hfd => hi fd (List.mem_cons_of_mem _ hfd), List.map_cons, hc]

/-- Have all fields a type that is there? -/
def okFs (P : Program) (fs : Array Field) : Bool := fs.toList.all fun f => (P.info? f.type).isSome

theorem S_struct {t : TypeId} {ps : List (Nat × Operand)} {vs : List (Nat × Value)} {fs : Array Field} {zs out : List Value} (hu : P.underlying t = some (.struct fs)) (hok : okFs P fs = true)
    (hz : ((P.info? t).bind (·.zero)).map (·.cells) = some zs.toArray) (hp : parts σ ps = some vs) (hb : BuildR P fs zs vs out) :
    Still P N σ h bl ⟨dst, .build t ps.toArray, ty, pos, aft, g⟩ (.agg out.toArray) := by
  refine S_build hp fun w => ?_
  obtain ⟨i, hi, hz⟩ := Option.map_eq_some_iff.1 hz
  obtain ⟨i', hi, hz'⟩ := Option.bind_eq_some_iff.1 hi
  have hall : ∀ fd ∈ fs.toList, ∃ ti, P.info? fd.type = some ti := fun fd hfd => Option.isSome_iff_exists.1 (List.all_eq_true.1 hok fd hfd)
  have hpl : (fs.mapM (fun (f : Field) => do pure (f.offset, ← sizeOf f.type)) : Sem (Array (Nat × Nat))).run P w = .ok (fs.map fun f => (f.offset, P.cellsOf f.type)) w := by
    have := run_places w hall
    rw [show fs = fs.toList.toArray by simp, List.mapM_toArray]
    simp only [Sem.run_map, this, Result.andThen_ok, List.map_toArray]
  have hf : Instr.fill ((fs.map fun f => (f.offset, P.cellsOf f.type))[·]?) i.cells vs = some out.toArray := by
    rw [hz]
    refine run_fill (fun i fd ti h1 h2 => ?_) hb
    simp [h1, Program.cellsOf, h2]
  simp only [Instr.build, zeroValue, Sem.run_bind, run_tinfo w hi, Result.andThen_ok, hz', Sem.run_pure, run_under w hu, hpl, hf]

theorem E_bs0 {t e : TypeId} {i : TypeInfo} (hlt : Nat.blt d N = true) (hu : P.underlying t = some (.slice e)) (hi : P.info? e = some i) :
    Eff X P N ⟨some d, .buildSlice t 0 (List.toArray []), ty, pos, aft, g⟩ σ h bl (PNew X σ h bl d (fun b => .slice (some ⟨b, 0, none⟩) 0 0) (.cells (List.toArray []) e (0, 0))) := by
  refine E_bslice (vs := []) hlt rfl fun w => ?_
  simp only [Instr.buildSlice, Sem.run_bind, run_under w hu, Result.andThen_ok, run_size w hi, Nat.zero_mul]
  rw [if_neg (by omega), if_pos trivial]
  simp [Instr.fill, run_new, show Array.range 0 = #[] from rfl]

theorem fill_one {n : Nat} {v : Value} {vc : List Value} {zs : Array Value} (hz : zs.size = n) (hn : vc.length = n) (hc : v.cells = vc.toArray) :
    Instr.fill (fun i => some (i * n, n)) zs [(0, v)] = some vc.toArray := by
  have key : ∀ (l : List Value) (k : Nat) (acc : List Value), k + l.length ≤ acc.length → (l.zipIdx k).foldl (fun cs (p : Value × Nat) => cs.setIfInBounds p.2 p.1) acc.toArray = (acc.take k ++ l ++ acc.drop (k + l.length)).toArray := by
    intro l
    induction l with
    | nil => intro k acc _; simp
    | cons x l ih =>
      intro k acc hk
      simp only [List.zipIdx_cons, List.foldl_cons, List.setIfInBounds_toArray]
      rw [ih (k + 1) (acc.set k x) (by simp at hk ⊢; omega)]
      congr 1
      have hlt : k < acc.length := by simp at hk; omega
      rw [List.take_succ_eq_append_getElem (by simpa using hlt), List.take_set_of_le (Nat.le_refl _), List.getElem_set_self, List.drop_set_of_lt (by omega)]
      simp [Nat.add_assoc, Nat.add_comm 1]
  simp only [Instr.fill, hc, Nat.zero_mul, Nat.zero_add]
  rw [if_neg (by simp [hn, hz])]
  have := key vc 0 zs.toList (by simp [hn, hz])
  rw [← Array.foldl_toList, Array.toList_zipIdx]
  simp only [Option.some.injEq]
  rw [show (vc.toArray.toList.zipIdx) = vc.zipIdx 0 by simp]
  have e : zs.toList.toArray = zs := by simp
  rw [e] at this
  rw [this]
  simp [hn, hz, List.drop_eq_nil_of_le]

theorem E_bs1 {t e : TypeId} {i : TypeInfo} {x : Operand} {v z : Value} {vc : List Value} (hlt : Nat.blt d N = true) (hu : P.underlying t = some (.slice e)) (hi : P.info? e = some i) (hx : ev σ x = some v)
    (hc : v.cells = vc.toArray) (hs : i.size = vc.length) (hz : i.zero = some z) (hb : Nat.ble i.size 16777216 = true) (h0 : Nat.beq i.size 0 = false) :
    Eff X P N ⟨some d, .buildSlice t 1 (List.toArray [(0, x)]), ty, pos, aft, g⟩ σ h bl (PNew X σ h bl d (fun b => .slice (some ⟨b, 0, none⟩) 1 1) (.cells vc.toArray e (0, 0))) := by
  refine E_bslice (vs := [(0, v)]) hlt (by simp [parts, hx]) fun w => ?_
  have hb' := Nat.le_of_ble_eq_true hb
  have h0' : ¬ i.size = 0 := fun e => by rw [e] at h0; cases h0
  simp only [Instr.buildSlice, Sem.run_bind, run_under w hu, Result.andThen_ok, run_size w hi, Nat.one_mul]
  rw [if_neg (by omega), if_neg h0']
  simp only [Sem.run_bind, zeroValue, run_tinfo w hi, hz, Sem.run_pure, Result.andThen_ok]
  rw [fill_one (n := i.size) (by simp) hs.symm hc]
  simp [run_new, Sem.run_bind]
end
end Go.Proofs.Ytdglignjoojimaa
