/- The laws on slices, over what is told of the element's type in one line. No conditions. -/
import Derived.Test.YtdglignjoojimaaSx10
set_option linter.unusedVariables false
set_option linter.unusedSimpArgs false
namespace Go.Proofs.Ytdglignjoojimaa

/-- A type's size, its bytes, its zero. -/
structure TyI (P : Program) (e : TypeId) (sz bs : Nat) (z : Value) : Prop where
  ex : ∃ i, P.info? e = some i ∧ i.size = sz ∧ i.bytes = bs ∧ i.zero = some z

section
variable {X : Cx} {P : Program} {N : Nat} {ops : Array Oper} {Q : Exit → Act → World → Prop} {σ : List (Nat × Value)} {h h' : Hp} {bl bl' : Bl} {rest : List Oper}
variable {dst : Option Tmp} {d : Nat} {ty : TypeId} {pos : String} {aft : Array Edge} {g : Option (Nat × Bool)}
variable {t t' e : TypeId} {sz bs : Nat} {z : Value} {d' : TypeDesc}

theorem X_index {x y : Operand} {b off len cap : Nat} {k : IntKind} {n : Int} (hu : P.underlying t = some (.slice e)) (ht : TyI P e sz bs z)
    (hx : ev σ x = some (.slice (some ⟨b, off, none⟩) len cap)) (hy : ev σ y = some (.int k n)) (h0 : 0 ≤ n) (h1 : n < len) :
    Still P N σ h bl ⟨dst, .indexAddr t x y, ty, pos, aft, g⟩ (.pointer (some ⟨b, off + n.toNat * sz, none⟩)) := by
  obtain ⟨i, hi, rfl, rfl, hz⟩ := ht.ex
  exact S_index hu hi hx hy h0 h1
theorem X_piece (l m : Nat) {x : Operand} {lo hi : Option Operand} {b off len cap : Nat} (hu : P.underlying t = some (.slice e)) (ht : TyI P e sz bs z)
    (hx : ev σ x = some (.slice (some ⟨b, off, none⟩) len cap)) (hl : bnd σ 0 lo = some (l : Int)) (hm : bnd σ len hi = some (m : Int)) (h1 : l ≤ m) (h2 : m ≤ cap) (h3 : l < cap) :
    Still P N σ h bl ⟨dst, .slice t x lo hi none, ty, pos, aft, g⟩ (.slice (some ⟨b, off + l * sz, none⟩) (m - l) (cap - l)) := by
  obtain ⟨i, hi, rfl, rfl, hz⟩ := ht.ex
  exact S_piece l m hu hi hx hl hm h1 h2 h3
theorem X_to (m : Nat) {x y : Operand} {A : Option Addr} {len cap : Nat} (hA : ∀ a, A = some a → a.spot = none) (hu : P.underlying t = some (.slice e)) (ht : TyI P e sz bs z)
    (hx : ev σ x = some (.slice A len cap)) (hm : bnd σ len (some y) = some (m : Int)) (h2 : m ≤ cap) :
    Still P N σ h bl ⟨dst, .slice t x none (some y) none, ty, pos, aft, g⟩ (.slice A m cap) := by
  obtain ⟨i, hi, rfl, rfl, hz⟩ := ht.ex
  exact S_to m hA hu hi hx hm h2
theorem X_cut (l m : Nat) {x : Operand} {lo hi : Option Operand} {A : Option Addr} {len cap : Nat} (hu : P.underlying t = some (.slice e)) (ht : TyI P e sz bs z)
    (hx : ev σ x = some (.slice A len cap)) (hl : bnd σ 0 lo = some (l : Int)) (hm : bnd σ len hi = some (m : Int)) (h1 : l ≤ m) (h2 : m ≤ cap) :
    Still P N σ h bl ⟨dst, .slice t x lo hi none, ty, pos, aft, g⟩ (cut3 A cap sz l m cap) := by
  obtain ⟨i, hi, rfl, rfl, hz⟩ := ht.ex
  exact S_cut l m hu hi hx hl hm h1 h2
theorem X_slice3 (l m q : Nat) {x lo hi mx : Operand} {A : Option Addr} {len cap : Nat} {k1 k2 k3 : IntKind} (hu : P.underlying t = some (.slice e)) (ht : TyI P e sz bs z)
    (hx : ev σ x = some (.slice A len cap)) (hl : ev σ lo = some (.int k1 (l : Int))) (hm : ev σ hi = some (.int k2 (m : Int))) (hq : ev σ mx = some (.int k3 (q : Int))) (h1 : l ≤ m) (h2 : m ≤ q) (h3 : q ≤ cap) :
    Still P N σ h bl ⟨dst, .slice t x (some lo) (some hi) (some mx), ty, pos, aft, g⟩ (cut3 A cap sz l m q) := by
  obtain ⟨i, hi, rfl, rfl, hz⟩ := ht.ex
  exact S_slice3 hu hi hx hl hm hq (by omega) (by omega) (by omega) (by omega)

theorem X_append {x y : Operand} {n m : Nat} {v u : Value} {cs ds : List Value} {G : Gr} {blR : Bl} (hlt : Nat.blt d N = true)
    (hu : P.underlying t = some (.slice e)) (hu' : P.underlying t' = some d') (hn : notInt d' = true) (ht : TyI P e sz bs z) (hzs : Nat.beq z.cells.size sz = true) (hb : Nat.beq bs 0 = false)
    (hx : ev σ x = some v) (hy : ev σ y = some u) (hB : Buf e sz v n cs G) (hG : Pick bl G blR) (hs : SlR h bl u m ds sz) (h1 : ones ds = true) (hsz : (2 * (n + m) + 200) * bs ≤ 281474976710656) :
    Eff X P N ⟨some d, .call { callee := .builtin .append, args := List.toArray [x, y], argTypes := List.toArray [t, t'] }, ty, pos, aft, g⟩ σ h bl (PApp X e sz σ h blR d (n + m) (cs ++ ds)) := by
  obtain ⟨i, hi, rfl, rfl, hz⟩ := ht.ex
  exact E_append hlt hu hu' hn hi hz (Nat.eq_of_beq_eq_true hzs) hb hx hy hB hG hs h1 hsz
theorem X_append_in {x y : Operand} {b off n cap m : Nat} {u : Value} {ds l : List Value} {T : TypeId} {blR : Bl} (hlt : Nat.blt d N = true)
    (hu : P.underlying t = some (.slice e)) (hu' : P.underlying t' = some d') (hn : notInt d' = true) (ht : TyI P e sz bs z)
    (hx : ev σ x = some (.slice (some ⟨b, off, none⟩) n cap)) (hy : ev σ y = some u) (hs : SlR h bl u m ds sz) (hle : n + m ≤ cap) (hb : Pick bl [(b, .cells l.toArray T (0, 0))] blR)
    (hlen : off + (n + m) * sz ≤ l.length) (h1 : ones ds = true) :
    Eff X P N ⟨some d, .call { callee := .builtin .append, args := List.toArray [x, y], argTypes := List.toArray [t, t'] }, ty, pos, aft, g⟩ σ h bl
      (PVal σ h ([(b, .cells (putAt l (off + n * sz) ds).toArray T (0, 0))] :: blR) d (.slice (some ⟨b, off, none⟩) (n + m) cap)) := by
  obtain ⟨i, hi, rfl, rfl, hz⟩ := ht.ex
  exact E_append_in hlt hu hu' hn hi hx hy hs hle hb hlen h1
theorem X_append_zeros {k : TypeId} {x y : Operand} {n cap : Nat} {m : Int} {A : Option Addr} {cs : List Value} {ik : IntKind} (hlt : Nat.blt d N = true) (hu : P.underlying t = some (.slice e)) (hu' : P.underlying k = some (.int ik))
    (ht : TyI P e sz bs z) (hzs : Nat.beq z.cells.size sz = true) (hb : Nat.beq bs 0 = false) (hs0 : Nat.beq sz 0 = false) (hx : ev σ x = some (.slice A n cap)) (hy : ev σ y = some (.int .i64 m)) (hr : SlR h bl (.slice A n cap) n cs sz)
    (hm : 0 < m) (hle : cap < n + m.toNat) (hsz : (2 * (n + m.toNat) + 200) * bs ≤ 281474976710656) :
    Eff X P N ⟨some d, .call { callee := .builtin .append, args := List.toArray [x, y], argTypes := List.toArray [t, k] }, ty, pos, aft, g⟩ σ h bl (PZero X e σ h bl d (n + m.toNat) (cs ++ fillC z m.toNat) z sz) := by
  obtain ⟨i, hi, rfl, rfl, hz⟩ := ht.ex
  exact E_append_zeros hlt hu hu' hi hz (Nat.eq_of_beq_eq_true hzs) hb hs0 hx hy hr hm hle hsz
theorem X_copy {x y : Operand} {b off n cap m : Nat} {A : Option Addr} {u : Value} {ds l : List Value} {T : TypeId} {blR : Bl} (hlt : Nat.blt d N = true)
    (hu : P.underlying t = some (.slice e)) (ht : TyI P e sz bs z)
    (hx : ev σ x = some (.slice A n cap)) (hy : ev σ y = some u) (hs : SlR h bl u m ds sz) (hb : Pick bl [(b, .cells l.toArray T (0, 0))] blR) (hA : 0 < min m n → A = some ⟨b, off, none⟩) 
    (hlen : 0 < min m n → off + min m n * sz ≤ l.length) (h1 : ones (ds.take (min m n * sz)) = true) :
    Eff X P N ⟨some d, .call { callee := .builtin .copy, args := List.toArray [x, y], argTypes := List.toArray [t, t'] }, ty, pos, aft, g⟩ σ h bl
      (PVal σ h ([(b, .cells (putAt l off (ds.take (min m n * sz))).toArray T (0, 0))] :: blR) d (.int .i64 (min m n : Nat))) := by
  obtain ⟨i, hi, rfl, rfl, hz⟩ := ht.ex
  exact E_copy hlt hu hi hx hy hs hb hA hlen h1
theorem X_copy0 {x y : Operand} {n cap m : Nat} {A : Option Addr} {u : Value} {ds : List Value} (hlt : Nat.blt d N = true)
    (hu : P.underlying t = some (.slice e)) (ht : TyI P e sz bs z)
    (hx : ev σ x = some (.slice A n cap)) (hy : ev σ y = some u) (hs : SlR h bl u m ds sz) (h0 : min m n = 0) :
    Eff X P N ⟨some d, .call { callee := .builtin .copy, args := List.toArray [x, y], argTypes := List.toArray [t, t'] }, ty, pos, aft, g⟩ σ h bl (PVal σ h bl d (.int .i64 0)) := by
  obtain ⟨i, hi, rfl, rfl, hz⟩ := ht.ex
  exact E_copy0 hlt hu hi hx hy hs h0
theorem X_clear {x : Operand} {b off n cap : Nat} {A : Option Addr} {l : List Value} {T : TypeId} {blR : Bl}
    (hu : P.underlying t = some (.slice e)) (ht : TyI P e sz bs z) (hzs : Nat.beq z.cells.size sz = true) (hzo : ones z.cells.toList = true)
    (hx : ev σ x = some (.slice A n cap)) (hb : Pick bl [(b, .cells l.toArray T (0, 0))] blR) (hA : 0 < n → A = some ⟨b, off, none⟩) (hlen : 0 < n → off + n * sz ≤ l.length) :
    Eff X P N ⟨none, .call { callee := .builtin .clear, args := List.toArray [x], argTypes := List.toArray [t] }, ty, pos, aft, g⟩ σ h bl
      (PSt σ h ([(b, .cells (putAt l off (fillC z n)).toArray T (0, 0))] :: blR)) := by
  obtain ⟨i, hi, rfl, rfl, hz⟩ := ht.ex
  exact E_clear hu hi hz (Nat.eq_of_beq_eq_true hzs) hzo hx hb hA hlen
theorem X_apart {params res : List TypeId} {b c o1 o2 n m cap cap' : Nat} {l l' : Array Value} {T T' : TypeId} {w : World} (hp : params[0]? = some t) (hu : P.underlying t = some (.slice e)) (ht : TyI P e sz bs z)
    (hb : w.heap[b]? = some (.cells l T (0, 0))) (hc : w.heap[c]? = some (.cells l' T' (0, 0))) (hne : b ≠ c) (hl : 0 < l.size) (hl' : 0 < l'.size) :
    (Extern.SlicesOverlaps.overlaps params.toArray res.toArray (List.toArray [.slice (some ⟨b, o1, none⟩) n cap, .slice (some ⟨c, o2, none⟩) m cap'])).run P w = .ok (.bool false) w := by
  obtain ⟨i, hi, rfl, rfl, hz⟩ := ht.ex
  exact run_apart hp hu hi hb hc hne hl hl'

/-- The model's own 'overlaps', of two slices in blocks of their own. -/
theorem X_overlaps {f : FuncId} {fn : Func} {x y : Operand} {tys : Array TypeId} {params res : List TypeId} {b c o1 o2 n m cap cap' : Nat} {l l' : List Value} {T T' : TypeId} (hfn : P.funcs[f]? = some fn) (hb : fn.body.isNone = true)
    (hn : (fn.name == "runtime.NumGoroutine") = false) (h1 : (Extern.findNext fn).isNone = true) (h2 : Extern.find fn = some (Extern.SlicesOverlaps.overlaps params.toArray res.toArray)) (hp : params[0]? = some t)
    (hu : P.underlying t = some (.slice e)) (ht : TyI P e sz bs z) (hx : ev σ x = some (.slice (some ⟨b, o1, none⟩) n cap)) (hy : ev σ y = some (.slice (some ⟨c, o2, none⟩) m cap'))
    (hbb : (b, Obj.cells l.toArray T (0, 0)) ∈ bl.flatten) (hcc : (c, Obj.cells l'.toArray T' (0, 0)) ∈ bl.flatten) (hne : b ≠ c) (hl : 0 < l.length) (hl' : 0 < l'.length) :
    Still P N σ h bl ⟨dst, .call { callee := .value (.func f), args := List.toArray [x, y], argTypes := tys }, ty, pos, aft, g⟩ (.bool false) := by
  refine S_ext (fs := []) (cs := []) (as := [x, y]) (vs := [.slice (some ⟨b, o1, none⟩) n cap, .slice (some ⟨c, o2, none⟩) m cap']) rfl (by simp [evs, hx, hy]) hfn hb hn h1 h2 fun w hk => ?_
  exact X_apart hp hu ht (hk.2 _ hbb) (hk.2 _ hcc) hne (by simpa using hl) (by simpa using hl')
end
end Go.Proofs.Ytdglignjoojimaa
