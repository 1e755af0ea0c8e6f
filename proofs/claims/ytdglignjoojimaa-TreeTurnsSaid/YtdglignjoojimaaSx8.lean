/- Slices: copy, clear, pieces. No conditions. -/
import Derived.Test.YtdglignjoojimaaSx7
set_option linter.unusedVariables false
set_option linter.unusedSimpArgs false
namespace Go.Proofs.Ytdglignjoojimaa

section
variable {X : Cx} {P : Program} {N : Nat} {ops : Array Oper} {Q : Exit → Act → World → Prop} {σ : List (Nat × Value)} {h h' : Hp} {bl bl' : Bl} {rest : List Oper}
variable {dst : Option Tmp} {d : Nat} {ty : TypeId} {pos : String} {aft : Array Edge} {g : Option (Nat × Bool)}

theorem putAt_nil (l : List Value) (off : Nat) : putAt l off [] = l := by simp [putAt]

theorem SlR.len {v : Value} {n sz : Nat} {cs : List Value} (s : SlR h bl v n cs sz) : cs.length = n * sz := by
  obtain ⟨_, _, _, _, _, hl, _⟩ := s; exact hl

/-- A piece of a slice. -/
theorem SlR.cut {A : Option Addr} {n cap sz l m : Nat} {cs : List Value} (s : SlR h bl (.slice A n cap) n cs sz) (h1 : l ≤ m) (h2 : m ≤ n) :
    SlR h bl (cut3 A cap sz l m cap) (m - l) ((cs.drop (l * sz)).take ((m - l) * sz)) sz := by
  obtain ⟨A', cap', e, l1, l2, hl, hc⟩ := s
  cases e
  refine ⟨_, _, rfl, by omega, by omega, ?_, fun hp => ?_⟩
  · rw [List.length_take, List.length_drop, hl, ← Nat.sub_mul]
    exact Nat.min_eq_left (Nat.mul_le_mul_right _ (by omega))
  · obtain ⟨b, off, rfl, c⟩ := hc (by omega)
    rw [if_neg (by omega)]
    exact ⟨b, off + l * sz, by simp [add_none], c.part _ _⟩
/-- Up to a bound that may lie behind the length: what lies there is not told. -/
theorem cut3_at {b off cap sz l m : Nat} (hl : l < cap) : cut3 (some ⟨b, off, none⟩) cap sz l m cap = .slice (some ⟨b, off + l * sz, none⟩) (m - l) (cap - l) := by
  unfold cut3
  rw [if_neg (by omega)]
  simp [add_none]
theorem cut3_0 {A : Option Addr} {cap sz m k : Nat} (hA : ∀ a, A = some a → a.spot = none) : cut3 A cap sz 0 m k = .slice A m k := by
  unfold cut3
  split
  · rename_i h; simp
  · cases A with
    | none => simp
    | some a => simp [Addr.add]

theorem S_slice3 {t e : TypeId} {x lo hi mx : Operand} {i : TypeInfo} {A : Option Addr} {len cap : Nat} {k1 k2 k3 : IntKind} {l m q : Int} (hu : P.underlying t = some (.slice e)) (hi' : P.info? e = some i)
    (hx : ev σ x = some (.slice A len cap)) (hl : ev σ lo = some (.int k1 l)) (hm : ev σ hi = some (.int k2 m)) (hq : ev σ mx = some (.int k3 q)) (h0 : 0 ≤ l) (h1 : l ≤ m) (h2 : m ≤ q) (h3 : q ≤ cap) :
    Still P N σ h bl ⟨dst, .slice t x (some lo) (some hi) (some mx), ty, pos, aft, g⟩ (cut3 A cap i.size l.toNat m.toNat q.toNat) := by
  intro a w ha _
  have e1 : (Instr.sliceBound (a.eval mx) cap .slice3Acap).run P w = .ok q.toNat w := run_bound w (ha.eval hq) (by omega) h3
  have e2 : (Instr.sliceBound (a.eval hi) q.toNat .slice3B).run P w = .ok m.toNat w := run_bound w (ha.eval hm) (by omega) (by omega)
  have e3 : (Instr.sliceBound (a.eval lo) m.toNat .slice3C).run P w = .ok l.toNat w := run_bound w (ha.eval hl) h0 (by omega)
  simp only [execOp, Option.map_some, ha.eval hx, Instr.sliceAt, Sem.run_bind, run_under w hu, Result.andThen_ok, Instr.slice, Instr.sliceBounds, if_true, e1, e2, Option.isSome_some, e3, run_size w hi', Sem.run_pure, cut3]

theorem copy_run {t t' e : TypeId} {i : TypeInfo} {b off n cap m : Nat} {A : Option Addr} {u : Value} {ds l : List Value} {T tt : TypeId} (hu : P.underlying t = some (.slice e)) (hi : P.info? e = some i)
    {w : World} (hk : Knows h bl w) (hs : SlR h bl u m ds i.size) (hA : 0 < min m n → A = some ⟨b, off, none⟩) (hb : w.heap[b]? = some (.cells l.toArray T (0, 0))) (hlen : 0 < min m n → off + min m n * i.size ≤ l.length) (h1 : ones (ds.take (min m n * i.size)) = true) :
    ∃ w', (Builtin.copy_ #[t, t'] tt #[.slice A n cap, u]).run P w = .ok (.int .i64 (min m n : Nat)) w' ∧
      w'.heap[b]? = some (.cells (putAt l off (ds.take (min m n * i.size))).toArray T (0, 0)) ∧ w'.heap.size = w.heap.size ∧ (∀ k, k ≠ b → w'.heap[k]? = w.heap[k]?) ∧ w'.tape = w.tape ∧ w'.os = w.os ∧ w'.output = w.output := by
  have hds := hs.len
  have hf := run_first (P := P) hs hk (Nat.min_le_left m n)
  have hlen' : (ds.take (min m n * i.size)).length = min m n * i.size := by
    rw [List.length_take, hds]; exact Nat.min_eq_left (Nat.mul_le_mul_right _ (Nat.min_le_left _ _))
  rcases Nat.eq_zero_or_pos (min m n) with h0 | h0
  · have ht : ds.take (min m n * i.size) = [] := by rw [h0]; simp
    rw [ht, putAt_nil]
    rw [ht] at hf
    refine ⟨w, ?_, hb, rfl, fun _ _ => rfl, rfl, rfl, rfl⟩
    simp only [Builtin.copy_, List.getElem?_toArray, List.getElem?_cons_zero, List.getElem?_cons_succ, Sem.run_bind, run_under w hu, Result.andThen_ok, run_size w hi, Sem.run_pure, run_lenOf hs]
    rw [show Nat.min m n = min m n from rfl, hf]
    cases A <;> simp [storeCells, goInt]
  · obtain ⟨w', e1, r⟩ := run_storeCells P (b := b) (T := T) (off := off) (i := 0) (w := w) (PutR.at_ (vs := ds.take (min m n * i.size)) (by rw [hlen']; exact hlen h0)) h1 hb
    refine ⟨w', ?_, r⟩
    rw [hA h0]
    simp only [Builtin.copy_, List.getElem?_toArray, List.getElem?_cons_zero, List.getElem?_cons_succ, Sem.run_bind, run_under w hu, Result.andThen_ok, run_size w hi, Sem.run_pure, run_lenOf hs]
    rw [show Nat.min m n = min m n from rfl, hf]
    simp only [Result.andThen_ok, Sem.run_bind, e1, Sem.run_pure, goInt]

theorem E_copy {t t' e : TypeId} {i : TypeInfo} {x y : Operand} {b off n cap m : Nat} {A : Option Addr} {u : Value} {ds l : List Value} {T : TypeId} {blR : Bl} (hlt : Nat.blt d N = true)
    (hu : P.underlying t = some (.slice e)) (hi : P.info? e = some i)
    (hx : ev σ x = some (.slice A n cap)) (hy : ev σ y = some u) (hs : SlR h bl u m ds i.size) (hb : Pick bl [(b, .cells l.toArray T (0, 0))] blR) (hA : 0 < min m n → A = some ⟨b, off, none⟩) 
    (hlen : 0 < min m n → off + min m n * i.size ≤ l.length) (h1 : ones (ds.take (min m n * i.size)) = true) :
    Eff X P N ⟨some d, .call { callee := .builtin .copy, args := List.toArray [x, y], argTypes := List.toArray [t, t'] }, ty, pos, aft, g⟩ σ h bl
      (PVal σ h ([(b, .cells (putAt l off (ds.take (min m n * i.size))).toArray T (0, 0))] :: blR) d (.int .i64 (min m n : Nat))) := by
  intro a w ha hr
  have hr1 := hr.perm hb.perm
  have hbw := (hr1.trk (b, .cells l.toArray T (0, 0)) (by simp)).1
  obtain ⟨w', e1, hb', hs', ho, r1, r2, r3⟩ := copy_run (t' := t') (cap := cap) (tt := ty) hu hi hr.knows hs hA hbw hlen h1
  have : (execOp a.eval ⟨some d, .call { callee := .builtin .copy, args := List.toArray [x, y], argTypes := List.toArray [t, t'] }, ty, pos, aft, g⟩).run P w = .ok (.value (.int .i64 (min m n : Nat))) w' := by
    simp only [execOp, resolve, invoke, builtin, List.map_toArray, List.map_cons, List.map_nil, ha.eval hx, ha.eval hy, Sem.run_bind, Sem.run_pure, Result.andThen_ok, e1]
  rw [Oper.wp, this, Oper.upon_value]
  exact ⟨_, _, _, ⟨rfl, rfl, rfl⟩, ha.put (Nat.le_of_ble_eq_true hlt) _, hr1.write UpdG.here hb' hs' ho r1 r2 r3⟩

/-- A copy of nothing. -/
theorem E_copy0 {t t' e : TypeId} {i : TypeInfo} {x y : Operand} {n cap m : Nat} {A : Option Addr} {u : Value} {ds : List Value} (hlt : Nat.blt d N = true)
    (hu : P.underlying t = some (.slice e)) (hi : P.info? e = some i)
    (hx : ev σ x = some (.slice A n cap)) (hy : ev σ y = some u) (hs : SlR h bl u m ds i.size) (h0 : min m n = 0) :
    Eff X P N ⟨some d, .call { callee := .builtin .copy, args := List.toArray [x, y], argTypes := List.toArray [t, t'] }, ty, pos, aft, g⟩ σ h bl (PVal σ h bl d (.int .i64 0)) := by
  refine E_still hlt fun a w ha hk => ?_
  have hf := run_first (P := P) hs hk (Nat.min_le_left m n)
  have ht : ds.take (min m n * i.size) = [] := by rw [h0]; simp
  rw [ht] at hf
  have e1 : (Builtin.copy_ #[t, t'] ty #[.slice A n cap, u]).run P w = .ok (.int .i64 0) w := by
    simp only [Builtin.copy_, List.getElem?_toArray, List.getElem?_cons_zero, List.getElem?_cons_succ, Sem.run_bind, run_under w hu, Result.andThen_ok, run_size w hi, Sem.run_pure, run_lenOf hs]
    rw [show Nat.min m n = min m n from rfl, hf]
    cases A <;> simp [storeCells, goInt, h0]
  simp only [execOp, resolve, invoke, builtin, List.map_toArray, List.map_cons, List.map_nil, ha.eval hx, ha.eval hy, Sem.run_bind, Sem.run_pure, Result.andThen_ok, e1]

def fillC_ones (z : Value) : Prop := ones z.cells.toList = true
theorem ones_iff {l : List Value} : ones l = true ↔ ∀ v ∈ l, ones [v] = true := by
  induction l with
  | nil => simp [ones]
  | cons v l ih =>
    rw [show v :: l = [v] ++ l from rfl, ones_append, Bool.and_eq_true, ih]
    simp
theorem ones_fill {z : Value} {k : Nat} (hz : ones z.cells.toList = true) : ones (fillC z k) = true := by
  refine ones_iff.2 fun v hv => ?_
  simp only [fillC, Builtin.zeroCells, Array.toList_map, List.mem_map] at hv
  obtain ⟨j, hj, rfl⟩ := hv
  have hpos : 0 < z.cells.size := by
    rcases Nat.eq_zero_or_pos z.cells.size with h0 | h0
    · simp [h0] at hj
    · exact h0
  have hlt : j % z.cells.size < z.cells.size := Nat.mod_lt _ hpos
  rw [getElem!_pos z.cells _ hlt]
  exact ones_iff.1 hz _ (by simp)

theorem E_clear {t e : TypeId} {i : TypeInfo} {z : Value} {x : Operand} {b off n cap : Nat} {A : Option Addr} {l : List Value} {T : TypeId} {blR : Bl}
    (hu : P.underlying t = some (.slice e)) (hi : P.info? e = some i) (hz : i.zero = some z) (hzs : z.cells.size = i.size) (hzo : ones z.cells.toList = true)
    (hx : ev σ x = some (.slice A n cap)) (hb : Pick bl [(b, .cells l.toArray T (0, 0))] blR) (hA : 0 < n → A = some ⟨b, off, none⟩) (hlen : 0 < n → off + n * i.size ≤ l.length) :
    Eff X P N ⟨none, .call { callee := .builtin .clear, args := List.toArray [x], argTypes := List.toArray [t] }, ty, pos, aft, g⟩ σ h bl
      (PSt σ h ([(b, .cells (putAt l off (fillC z n)).toArray T (0, 0))] :: blR)) := by
  intro a w ha hr
  have hr1 := hr.perm hb.perm
  have hbw := (hr1.trk (b, .cells l.toArray T (0, 0)) (by simp)).1
  rcases Nat.eq_zero_or_pos n with h0 | h0
  · subst h0
    have e0 : fillC z 0 = [] := by simp [fillC, Builtin.zeroCells, show Array.range 0 = #[] from rfl]
    have e1 : (Builtin.clear_ #[t] ty #[.slice A 0 cap]).run P w = .ok (.tuple #[]) w := by
      simp only [Builtin.clear_, List.getElem?_toArray, List.getElem?_cons_zero, Sem.run_bind, run_under w hu, Result.andThen_ok, Sem.run_pure]
      cases A <;> simp
    have : (execOp a.eval ⟨none, .call { callee := .builtin .clear, args := List.toArray [x], argTypes := List.toArray [t] }, ty, pos, aft, g⟩).run P w = .ok (.value (.tuple #[])) w := by
      simp only [execOp, resolve, invoke, builtin, List.map_toArray, List.map_cons, List.map_nil, ha.eval hx, Sem.run_bind, Sem.run_pure, Result.andThen_ok, e1]
    rw [Oper.wp, this, Oper.upon_value]
    rw [e0, putAt_nil]
    exact ⟨_, _, _, ⟨rfl, rfl, rfl⟩, ha.put_none _, hr1⟩
  · have hA' := hA h0
    subst hA'
    have hfl : (fillC z n).length = n * i.size := fillC_length hzs
    obtain ⟨w', e1, hb', hs', ho, r1, r2, r3⟩ := run_storeCells P (b := b) (T := T) (off := off) (i := 0) (w := w) (PutR.at_ (vs := fillC z n) (by rw [hfl]; exact hlen h0)) (ones_fill hzo) hbw
    obtain ⟨k, rfl⟩ : ∃ k, n = k + 1 := ⟨n - 1, by omega⟩
    have e2 : (Builtin.clear_ #[t] ty #[.slice (some ⟨b, off, none⟩) (k + 1) cap]).run P w = .ok (.tuple #[]) w' := by
      simp only [Builtin.clear_, List.getElem?_toArray, List.getElem?_cons_zero, Sem.run_bind, run_under w hu, Result.andThen_ok, Sem.run_pure, zeroValue, run_tinfo w hi, hz]
      rw [show (Builtin.zeroCells z.cells (k + 1)).toList = fillC z (k + 1) from rfl, e1]
      rfl
    have : (execOp a.eval ⟨none, .call { callee := .builtin .clear, args := List.toArray [x], argTypes := List.toArray [t] }, ty, pos, aft, g⟩).run P w = .ok (.value (.tuple #[])) w' := by
      simp only [execOp, resolve, invoke, builtin, List.map_toArray, List.map_cons, List.map_nil, ha.eval hx, Sem.run_bind, Sem.run_pure, Result.andThen_ok, e2]
    rw [Oper.wp, this, Oper.upon_value]
    exact ⟨_, _, _, ⟨rfl, rfl, rfl⟩, ha.put_none _, hr1.write UpdG.here hb' hs' ho r1 r2 r3⟩
end
end Go.Proofs.Ytdglignjoojimaa
