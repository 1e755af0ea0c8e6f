/- Sums that fit, calls into the model's own functions, append of zeros. No conditions. -/
import Derived.Test.YtdglignjoojimaaSx8
set_option linter.unusedVariables false
set_option linter.unusedSimpArgs false
namespace Go.Proofs.Ytdglignjoojimaa

section
variable {X : Cx} {P : Program} {N : Nat} {ops : Array Oper} {Q : Exit → Act → World → Prop} {σ : List (Nat × Value)} {h h' : Hp} {bl bl' : Bl} {rest : List Oper}
variable {dst : Option Tmp} {d : Nat} {ty : TypeId} {pos : String} {aft : Array Edge} {g : Option (Nat × Bool)}

theorem wrap_id {x : Int} (h0 : -9223372036854775808 ≤ x) (h1 : x ≤ 9223372036854775807) : IntKind.i64.wrap x = x := by
  have e : IntKind.i64.wrap x = (if decide (x % 18446744073709551616 ≥ 9223372036854775808) = true then x % 18446744073709551616 - 18446744073709551616 else x % 18446744073709551616) := by
    simp [IntKind.wrap, IntKind.bits, IntKind.signed]
  rw [e]
  simp only [decide_eq_true_eq]
  split <;> omega
theorem wrapu_id {x : Int} (h0 : 0 ≤ x) (h1 : x ≤ 18446744073709551615) : IntKind.u64.wrap x = x := by
  have e : IntKind.u64.wrap x = x % 18446744073709551616 := by simp [IntKind.wrap, IntKind.bits, IntKind.signed]
  rw [e]
  omega
theorem S_addi {x y : Operand} {t u : TypeId} {m n : Int} (hx : ev σ x = some (.int .i64 m)) (hy : ev σ y = some (.int .i64 n)) (h0 : -9223372036854775808 ≤ m + n) (h1 : m + n ≤ 9223372036854775807) :
    Still P N σ h bl ⟨dst, .binOp .add t x y u, ty, pos, aft, g⟩ (.int .i64 (m + n)) := by
  have := S_add (P := P) (N := N) (h := h) (bl := bl) (dst := dst) (ty := ty) (pos := pos) (aft := aft) (g := g) (t := t) (u := u) hx hy
  rwa [wrap_id h0 h1] at this
theorem S_subi {x y : Operand} {t u : TypeId} {m n : Int} (hx : ev σ x = some (.int .i64 m)) (hy : ev σ y = some (.int .i64 n)) (h0 : -9223372036854775808 ≤ m - n) (h1 : m - n ≤ 9223372036854775807) :
    Still P N σ h bl ⟨dst, .binOp .sub t x y u, ty, pos, aft, g⟩ (.int .i64 (m - n)) := by
  have := S_sub (P := P) (N := N) (h := h) (bl := bl) (dst := dst) (ty := ty) (pos := pos) (aft := aft) (g := g) (t := t) (u := u) hx hy
  rwa [wrap_id h0 h1] at this

/-- A nil slice has no elements: but for a slice of nothing with a capacity, which Go's own operations don't make. -/
theorem SlR.nil_len {n cap sz : Nat} {cs : List Value} (s : SlR h bl (.slice none n cap) n cs sz) : n = 0 ∧ cs = [] := by
  obtain ⟨A, c, e, l1, l2, hl, hc⟩ := s
  cases e
  have h0 : n = 0 := by
    rcases Nat.eq_zero_or_pos n with h0 | h0
    · exact h0
    · obtain ⟨b, off, e, _⟩ := hc h0; cases e
  subst h0
  exact ⟨rfl, List.eq_nil_of_length_eq_zero (by simpa using hl)⟩

/-- A function without a body, whose meaning is the model's own. -/
theorem S_ext {f : FuncId} {fo : Operand} {as : List Operand} {tys : Array TypeId} {vs fs cs : List Value} {fn : Func} {e : Array Value → Sem Value} {v : Value} (hf : ev σ fo = some (.func (.func f) fs.toArray cs.toArray)) (has : evs σ as = some vs)
    (hfn : P.funcs[f]? = some fn) (hb : fn.body.isNone = true) (hn : (fn.name == "runtime.NumGoroutine") = false) (h1 : (Extern.findNext fn).isNone = true) (h2 : Extern.find fn = some e)
    (hrun : ∀ w, Knows h bl w → (e (fs ++ vs ++ cs).toArray).run P w = .ok v w) :
    Still P N σ h bl ⟨dst, .call { callee := .value fo, args := as.toArray, argTypes := tys }, ty, pos, aft, g⟩ v := by
  intro a w ha hk
  have hd : ∀ args : Array Value, (Deferred.ofValue (.func (.func f) fs.toArray cs.toArray) args).run P w = .ok { target := .fn (.func f) cs.toArray, args := fs.toArray ++ args } w := by
    intro args
    simp [Deferred.ofValue]
  have h1' : Extern.findNext fn = none := by simpa using h1
  have hcf : (callFunc f (fs ++ vs ++ cs).toArray).run P w = .ok (.value v) w := by
    have hp : (program).run P w = .ok P w := rfl
    have hm : (mark (.extern f)).run P w = .ok () w := rfl
    simp only [callFunc, Sem.run_bind, hp, Result.andThen_ok, hfn, hn, Bool.false_eq_true, if_false, hb, if_true, hm, h1', h2, hrun w hk, Sem.run_pure]
  simp only [execOp, resolve, List.map_toArray, evs_map ha has, ha.eval hf, Sem.run_bind, hd, Result.andThen_ok, invoke]
  simpa using hcf

/-- Two slices in blocks of their own do not meet. -/
theorem run_apart {params res : List TypeId} {t e : TypeId} {i : TypeInfo} {b c o1 o2 n m cap cap' : Nat} {l l' : Array Value} {T T' : TypeId} {w : World} (hp : params[0]? = some t) (hu : P.underlying t = some (.slice e)) (hi : P.info? e = some i)
    (hb : w.heap[b]? = some (.cells l T (0, 0))) (hc : w.heap[c]? = some (.cells l' T' (0, 0))) (hne : b ≠ c) (hl : 0 < l.size) (hl' : 0 < l'.size) :
    (Extern.SlicesOverlaps.overlaps params.toArray res.toArray (List.toArray [.slice (some ⟨b, o1, none⟩) n cap, .slice (some ⟨c, o2, none⟩) m cap'])).run P w = .ok (.bool false) w := by
  have hfb : ∀ o, w.frozen? ⟨b, o, none⟩ = false := fun o => by simp [World.frozen?, hb]
  have hfc : ∀ o, w.frozen? ⟨c, o, none⟩ = false := fun o => by simp [World.frozen?, hc]
  have fr : ∀ a, (frozen a).run P w = .ok (w.frozen? a) w := fun a => rfl
  have sh : ∀ r, (shape r).run P w = .ok (w.shape? r) w := fun r => rfl
  have hsb : w.shape? b = some (T, l.size) := by simp [World.shape?, hb]
  have hsc : w.shape? c = some (T', l'.size) := by simp [World.shape?, hc]
  have nvb : ∀ o, (noView ⟨b, o, none⟩).run P w = .ok () w := fun o => by simp [noView, viewAt, sh, hsb]
  have nvc : ∀ o, (noView ⟨c, o, none⟩).run P w = .ok () w := fun o => by simp [noView, viewAt, sh, hsc]
  have stb : ∀ o, (stringish ⟨b, o, none⟩).run P w = .ok false w := fun o => by simp [stringish, fr, sh, hsb, hfb]
  have stc : ∀ o, (stringish ⟨c, o, none⟩).run P w = .ok false w := fun o => by simp [stringish, fr, sh, hsc, hfc]
  have mb : (mayBeOne ⟨b, o1, none⟩ ⟨c, o2, none⟩).run P w = .ok false w := by
    simp [mayBeOne, stb, stc, sh, hsb, hsc]
  have hp' : params.toArray[0]? = some t := by simpa using hp
  have hne' : (b != c) = true := by simpa using hne
  have heq' : (b == c) = false := by simpa using hne
  delta Extern.SlicesOverlaps.overlaps
  conv => lhs; arg 2; whnf
  simp only [hp', Sem.run_bind, run_under w hu, Result.andThen_ok, run_size w hi]
  split
  · rfl
  · simp [hne', heq', fr, hfb, hfc, nvb, nvc, mb]

/-- append(s, make(S, k)...), where there is no room: a new array. -/
theorem append_zeros {t e k : TypeId} {i : TypeInfo} {z : Value} {n cap m : Nat} {v : Value} {A : Option Addr} {cs : List Value} {tt : TypeId} {ik : IntKind} (hu : P.underlying t = some (.slice e)) (hu' : P.underlying k = some (.int ik))
    (hi : P.info? e = some i) (hz : i.zero = some z) (hzs : z.cells.size = i.size) (hb : i.bytes ≠ 0) (hs0 : i.size ≠ 0) {w : World} (hk : Knows h bl w) (hv : v = .slice A n cap) (hr : SlR h bl v n cs i.size) (hm : 0 < m) (hle : cap < n + m) (hsz : (2 * (n + m) + 200) * i.bytes ≤ 281474976710656) :
    ∃ cap', n + m ≤ cap' ∧ cap' ≤ 9223372036854775807 ∧ (Builtin.append_ #[t, k] tt #[v, .int .i64 (m : Nat)]).run P w = .ok (.slice (some ⟨w.heap.size, 0, none⟩) (n + m) cap')
      { w with drawn := w.drawn + 1, heap := w.heap.push (.cells (List.toArray (cs ++ fillC z m ++ fillC z (cap' - (n + m)))) e) } := by
  subst hv
  have hcs := hr.len
  have hbig : (n + m) * i.bytes ≤ 281474976710656 := by
    have : (n + m) * i.bytes ≤ (2 * (n + m) + 200) * i.bytes := Nat.mul_le_mul_right _ (by omega)
    omega
  have hbig' : n + m ≤ 281474976710656 := by
    have : (n + m) * 1 ≤ (n + m) * i.bytes := Nat.mul_le_mul_left _ (Nat.pos_of_ne_zero hb)
    omega
  let cap' := (n + m) + (w.tape w.drawn (.appendCap (n + m) cap e)) % (2 ^ 63 - (n + m))
  have hmod : (w.tape w.drawn (.appendCap (n + m) cap e)) % (2 ^ 63 - (n + m)) < 2 ^ 63 - (n + m) := Nat.mod_lt _ (by omega)
  refine ⟨cap', by omega, by simp only [cap']; omega, ?_⟩
  have hk1 : Knows h bl { w with drawn := w.drawn + 1 } := hk
  have f1 := run_first (P := P) hr hk1 (Nat.le_refl n)
  rw [List.take_of_length_le (by omega)] at f1
  have hnc : ¬ (Builtin.nextslicecap (n + m) cap * i.bytes > 2 ^ 48) := by
    have h1 := nextcap_le hle
    have h2 := Nat.mul_le_mul_right i.bytes h1
    omega
  have hch : (choose (.appendCap (n + m) cap e)).run P w = .ok cap' { w with drawn := w.drawn + 1 } := by
    simp [choose, Sem.run, Question.forced, Question.cut, cap']
  have hroom : ∀ k (w : World), (askRoom k).run P w = .ok () w := by
    intro k w
    unfold askRoom
    split
    · simp [mark, Sem.run]
    · rfl
  have hnle : ¬ (n + m ≤ cap) := by omega
  have hE : cs.toArray ++ Builtin.zeroCells z.cells m ++ Builtin.zeroCells z.cells (cap' - (n + m)) = List.toArray (cs ++ fillC z m ++ fillC z (cap' - (n + m))) := by
    apply Array.ext'; simp [fillC]
  have hw : IntKind.i64.wrap (m : Int) = m := wrap_id (by omega) (by omega)
  have hlow : ¬ ((m : Int) < 0) := by omega
  have hhigh : ¬ ((m : Int) * (i.bytes : Int) > 2 ^ 48) := by
    have h1 : m * i.bytes ≤ (n + m) * i.bytes := Nat.mul_le_mul_right _ (by omega)
    have h2 : ((m * i.bytes : Nat) : Int) ≤ ((281474976710656 : Nat) : Int) := Int.ofNat_le.2 (by omega)
    have h3 : (m : Int) * (i.bytes : Int) ≤ 281474976710656 := by rw [← Int.natCast_mul]; exact h2
    omega
  have hneed : ¬ (((n + m : Nat) : Int) > IntKind.i64.max) := by
    simp only [IntKind.max, IntKind.signed, IntKind.bits]
    omega
  have hms : ¬ (m * i.size = 0) := Nat.mul_ne_zero (by omega) hs0
  simp only [Builtin.append_, List.getElem?_toArray, List.getElem?_cons_zero, List.getElem?_cons_succ, Sem.run_bind, run_under w hu, run_under w hu', Result.andThen_ok, run_size w hi, Sem.run_pure, if_true, asInt, asIntOf, hw, hlow,
    if_false, run_tinfo w hi, hhigh, Int.toNat_natCast, hnle, hneed, false_and, hnc, hch, hroom, f1, Bool.not_true, Bool.false_eq_true, hms, zeroValue, run_tinfo _ hi, hz, run_new]
  rw [hE]

def PZero (X : Cx) (e : TypeId) (σ : List (Nat × Value)) (h : Hp) (bl : Bl) (d n : Nat) (cs : List Value) (z : Value) (sz : Nat) (σ' : List (Nat × Value)) (h' : Hp) (bl' : Bl) : Prop :=
  ∃ b cap sp, X.w0.heap.size ≤ b ∧ n ≤ cap ∧ cap ≤ 9223372036854775807 ∧ (cs ++ sp).length = cap * sz ∧ σ' = (d, .slice (some ⟨b, 0, none⟩) n cap) :: σ ∧ h = h' ∧ bl' = [(b, .cells (List.toArray (cs ++ sp)) e (0, 0))] :: bl

theorem E_append_zeros {t e k : TypeId} {i : TypeInfo} {z : Value} {x y : Operand} {n cap : Nat} {m : Int} {A : Option Addr} {cs : List Value} {ik : IntKind} (hlt : Nat.blt d N = true) (hu : P.underlying t = some (.slice e)) (hu' : P.underlying k = some (.int ik))
    (hi : P.info? e = some i) (hz : i.zero = some z) (hzs : z.cells.size = i.size) (hb : Nat.beq i.bytes 0 = false) (hs0 : Nat.beq i.size 0 = false) (hx : ev σ x = some (.slice A n cap)) (hy : ev σ y = some (.int .i64 m)) (hr : SlR h bl (.slice A n cap) n cs i.size)
    (hm : 0 < m) (hle : cap < n + m.toNat) (hsz : (2 * (n + m.toNat) + 200) * i.bytes ≤ 281474976710656) :
    Eff X P N ⟨some d, .call { callee := .builtin .append, args := List.toArray [x, y], argTypes := List.toArray [t, k] }, ty, pos, aft, g⟩ σ h bl (PZero X e σ h bl d (n + m.toNat) (cs ++ fillC z m.toNat) z i.size) := by
  intro a w ha hr'
  have hb' : i.bytes ≠ 0 := fun e => by rw [e] at hb; cases hb
  have hs0' : i.size ≠ 0 := fun e => by rw [e] at hs0; cases hs0
  obtain ⟨q, rfl⟩ : ∃ q : Nat, m = q := ⟨m.toNat, by omega⟩
  simp only [Int.toNat_natCast] at hle hsz ⊢
  obtain ⟨cap', l1, l2, e1⟩ := append_zeros (tt := ty) hu hu' hi hz hzs hb' hs0' hr'.knows rfl hr (by omega) hle hsz
  have hcs := hr.len
  have : (execOp a.eval ⟨some d, .call { callee := .builtin .append, args := List.toArray [x, y], argTypes := List.toArray [t, k] }, ty, pos, aft, g⟩).run P w = .ok (.value (.slice (some ⟨w.heap.size, 0, none⟩) (n + q) cap'))
      { w with drawn := w.drawn + 1, heap := w.heap.push (.cells (List.toArray (cs ++ fillC z q ++ fillC z (cap' - (n + q)))) e) } := by
    simp only [execOp, resolve, invoke, builtin, List.map_toArray, List.map_cons, List.map_nil, ha.eval hx, ha.eval hy, Sem.run_bind, Sem.run_pure, Result.andThen_ok, e1]
  rw [Oper.wp, this, Oper.upon_value]
  refine ⟨_, _, _, ⟨w.heap.size, cap', fillC z (cap' - (n + q)), hr'.size, l1, l2, ?_, rfl, rfl, rfl⟩, ha.put (Nat.le_of_ble_eq_true hlt) _, ?_⟩
  · simp only [List.length_append, hcs, fillC_length hzs]
    rw [← Nat.add_mul, ← Nat.add_mul]; congr 1; omega
  · exact (hr'.drew (w.drawn + 1)).alloc _
end
end Go.Proofs.Ytdglignjoojimaa
