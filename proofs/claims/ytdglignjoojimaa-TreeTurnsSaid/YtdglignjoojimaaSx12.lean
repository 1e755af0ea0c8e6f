/- Lists of things laid out in cells. No conditions. -/
import Derived.Test.YtdglignjoojimaaSx11
set_option linter.unusedVariables false
set_option linter.unusedSimpArgs false
namespace Go.Proofs.Ytdglignjoojimaa

/-- A way to lay a thing out in sz cells. -/
structure Enc {α : Type} (enc : α → List Value) (sz : Nat) : Prop where
  len : ∀ a, (enc a).length = sz
  one : ∀ a, ones (enc a) = true

section
variable {α : Type} {enc : α → List Value} {sz : Nat}
theorem Enc.flat_len (E : Enc enc sz) (l : List α) : (l.flatMap enc).length = l.length * sz := by
  induction l with
  | nil => simp
  | cons a l ih => simp [ih, E.len, Nat.add_mul, Nat.add_comm]
theorem Enc.flat_one (E : Enc enc sz) (l : List α) : ones (l.flatMap enc) = true := by
  induction l with
  | nil => rfl
  | cons a l ih => rw [List.flatMap_cons, ones_append, E.one, ih]; rfl
theorem Enc.flat_drop (E : Enc enc sz) : ∀ (l : List α) (i : Nat), (l.flatMap enc).drop (i * sz) = (l.drop i).flatMap enc
  | l, 0 => by simp
  | [], i + 1 => by simp
  | a :: l, i + 1 => by
    rw [List.flatMap_cons, Nat.add_mul, Nat.one_mul, Nat.add_comm, ← List.drop_drop, List.drop_left' (E.len a), E.flat_drop l i]
    rfl
theorem Enc.flat_take (E : Enc enc sz) : ∀ (l : List α) (i : Nat), (l.flatMap enc).take (i * sz) = (l.take i).flatMap enc
  | l, 0 => by simp
  | [], i + 1 => by simp
  | a :: l, i + 1 => by
    rw [List.flatMap_cons, Nat.add_mul, Nat.one_mul, Nat.add_comm, List.take_append, List.take_of_length_le (by rw [E.len]; omega), E.len, Nat.add_sub_cancel_left, E.flat_take l i]
    rfl
theorem Enc.flat_at (E : Enc enc sz) (l : List α) (i : Nat) (hi : i < l.length) : ((l.flatMap enc).drop (i * sz)).take sz = enc l[i] := by
  rw [E.flat_drop]
  have : l.drop i = l[i] :: l.drop (i + 1) := List.drop_eq_getElem_cons hi
  rw [this, List.flatMap_cons, List.take_append_of_le_length (by rw [E.len]; omega), List.take_of_length_le (by rw [E.len]; omega)]

theorem SlR.at_ {h : Hp} {bl : Bl} {v : Value} {l : List α} {n : Nat} (E : Enc enc sz) (s : SlR h bl v n (l.flatMap enc) sz) (hn : l.length = n) {i : Nat} (hi : i < n) :
    ∃ b off cap, v = .slice (some ⟨b, off, none⟩) n cap ∧ Cells h bl b (off + i * sz) (enc (l[i]'(by omega))) := by
  obtain ⟨b, off, cap, e, c⟩ := s.elem (i := (i : Int)) (by omega) (by omega)
  refine ⟨b, off, cap, e, ?_⟩
  rw [Int.toNat_natCast, E.flat_at l i (by omega)] at c
  exact c
theorem SlR.n_len {h : Hp} {bl : Bl} {v : Value} {l : List α} {n : Nat} (E : Enc enc sz) (hz : 0 < sz) (s : SlR h bl v n (l.flatMap enc) sz) : l.length = n := by
  have := s.len
  rw [E.flat_len] at this
  exact Nat.eq_of_mul_eq_mul_right hz this
end

section
variable {X : Cx} {P : Program} {N : Nat} {ops : Array Oper} {Q : Exit → Act → World → Prop} {σ : List (Nat × Value)} {h h' : Hp} {bl bl' : Bl} {rest : List Oper}
variable {dst : Option Tmp} {d : Nat} {ty : TypeId} {pos : String} {aft : Array Edge} {g : Option (Nat × Bool)}
/-- The index is a Nat, the element's place written out. -/
theorem X_at {t e : TypeId} {sz bs : Nat} {z : Value} {x y : Operand} {b off len cap : Nat} {k : IntKind} (n : Nat) (hu : P.underlying t = some (.slice e)) (ht : TyI P e sz bs z)
    (hx : ev σ x = some (.slice (some ⟨b, off, none⟩) len cap)) (hy : ev σ y = some (.int k (n : Int))) (h1 : n < len) :
    Still P N σ h bl ⟨dst, .indexAddr t x y, ty, pos, aft, g⟩ (.pointer (some ⟨b, off + n * sz, none⟩)) := by
  have := X_index (N := N) (h := h) (bl := bl) (dst := dst) (ty := ty) (pos := pos) (aft := aft) (g := g) hu ht hx hy (by omega) (by omega)
  simpa using this
/-- Differences and sums of Nats. -/
theorem S_subn (m n : Nat) {x y : Operand} {t u : TypeId} (hx : ev σ x = some (.int .i64 (m : Int))) (hy : ev σ y = some (.int .i64 (n : Int))) (hle : n ≤ m) (hm : m ≤ 9223372036854775807) :
    Still P N σ h bl ⟨dst, .binOp .sub t x y u, ty, pos, aft, g⟩ (.int .i64 ((m - n : Nat) : Int)) := by
  have := S_subi (P := P) (N := N) (h := h) (bl := bl) (dst := dst) (ty := ty) (pos := pos) (aft := aft) (g := g) (t := t) (u := u) hx hy (by omega) (by omega)
  rwa [show (m : Int) - (n : Int) = ((m - n : Nat) : Int) by omega] at this
theorem S_addn (m n : Nat) {x y : Operand} {t u : TypeId} (hx : ev σ x = some (.int .i64 (m : Int))) (hy : ev σ y = some (.int .i64 (n : Int))) (hm : m + n ≤ 9223372036854775807) :
    Still P N σ h bl ⟨dst, .binOp .add t x y u, ty, pos, aft, g⟩ (.int .i64 ((m + n : Nat) : Int)) := by
  have := S_addi (P := P) (N := N) (h := h) (bl := bl) (dst := dst) (ty := ty) (pos := pos) (aft := aft) (g := g) (t := t) (u := u) hx hy (by omega) (by omega)
  rwa [show (m : Int) + (n : Int) = ((m + n : Nat) : Int) by omega] at this
end
end Go.Proofs.Ytdglignjoojimaa
