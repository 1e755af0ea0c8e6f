/- Quotients; pieces of slices of things; contracts whose groups are grouped otherwise. No conditions. -/
import Derived.Test.YtdglignjoojimaaSx17
set_option linter.unusedVariables false
set_option linter.unusedSimpArgs false
namespace Go.Proofs.Ytdglignjoojimaa
section
variable {X : Cx} {P : Program} {N : Nat} {ops : Array Oper} {Q : Exit → Act → World → Prop} {σ : List (Nat × Value)} {h h' : Hp} {bl bl' : Bl} {rest : List Oper}
variable {dst : Option Tmp} {d : Nat} {ty : TypeId} {pos : String} {aft : Array Edge} {g : Option (Nat × Bool)}
theorem S_quon (m n : Nat) {x y : Operand} {t u : TypeId} (hx : ev σ x = some (.int .i64 (m : Int))) (hy : ev σ y = some (.int .i64 (n : Int))) (hn : Nat.beq n 0 = false) (hm : m ≤ 9223372036854775807) :
    Still P N σ h bl ⟨dst, .binOp .quo t x y u, ty, pos, aft, g⟩ (.int .i64 ((m / n : Nat) : Int)) := by
  have hn' : n ≠ 0 := fun e => by rw [e] at hn; cases hn
  have := S_quo (P := P) (N := N) (h := h) (bl := bl) (dst := dst) (ty := ty) (pos := pos) (aft := aft) (g := g) (t := t) (u := u) hx hy (by omega)
  have e : (m : Int).tdiv (n : Int) = ((m / n : Nat) : Int) := by rw [Int.tdiv_eq_ediv_of_nonneg (by omega)]; exact (Int.natCast_ediv m n).symm
  have hle : m / n ≤ m := Nat.div_le_self m n
  rw [e] at this
  generalize m / n = q at this hle ⊢
  rwa [wrap_id (by omega) (by omega)] at this
theorem S_muln (m n : Nat) {x y : Operand} {t u : TypeId} (hx : ev σ x = some (.int .i64 (m : Int))) (hy : ev σ y = some (.int .i64 (n : Int))) (hm : m * n ≤ 9223372036854775807) :
    Still P N σ h bl ⟨dst, .binOp .mul t x y u, ty, pos, aft, g⟩ (.int .i64 ((m * n : Nat) : Int)) := by
  have := S_mul (P := P) (N := N) (h := h) (bl := bl) (dst := dst) (ty := ty) (pos := pos) (aft := aft) (g := g) (t := t) (u := u) hx hy
  have e : (m : Int) * (n : Int) = ((m * n : Nat) : Int) := by push_cast; rfl
  rw [e] at this
  generalize m * n = q at this hm ⊢
  rwa [wrap_id (by omega) (by omega)] at this

theorem Con.conv {f : FuncId} {args : List Value} {blA blB : Bl} {post post' : Value → Hp → Bl → Prop} (c : Con P f args h blA post) (e : blA.flatten = blB.flatten)
    (hp : ∀ v h' nb, post v h' nb → ∃ nb', nb'.flatten = nb.flatten ∧ post' v h' nb') : Con P f args h blB post' := by
  intro w hw
  have tr : ∀ {X : Cx} {h : Hp} {a b : Bl} {w : World}, a.flatten = b.flatten → Rel X h a w → Rel X h b w := fun e r =>
    ⟨r.size, r.frame, r.tape, r.os, r.output, r.old, r.new, r.know, e ▸ r.trk, e ▸ r.nodup⟩
  have hw' : Rel ⟨w, fun b => b ∈ blA.flatten.map Prod.fst, h⟩ h blA w := by rw [e]; exact tr e.symm hw
  refine (c w hw').mono fun x w' ⟨v, h', nb, he, hr, hq⟩ => ?_
  obtain ⟨nb', e', q⟩ := hp v h' nb hq
  rw [e] at hr
  exact ⟨v, h', nb', he, tr e'.symm hr, q⟩

theorem Buf.form {e : TypeId} {sz n : Nat} {v : Value} {cs : List Value} {G : Gr} (B : Buf e sz v n cs G) : ∃ A cap, v = .slice A n cap ∧ n ≤ cap ∧ cap ≤ 9223372036854775807 :=
  (B.reads (h := fun _ => none) (bl := [G]) (fun q hq => by simpa using hq)).form
section
variable {α : Type} {enc : α → List Value} {sz : Nat}
theorem SlR.dropE (E : Enc enc sz) {A : Option Addr} {cap : Nat} {l : List α} (s : SlR h bl (.slice A l.length cap) l.length (l.flatMap enc) sz) {i : Nat} (hi : i ≤ l.length) :
    SlR h bl (cut3 A cap sz i l.length cap) (l.drop i).length ((l.drop i).flatMap enc) sz := by
  have := s.cut hi (Nat.le_refl _)
  rw [E.flat_drop, List.take_of_length_le (by rw [E.flat_len, List.length_drop]; omega)] at this
  rwa [List.length_drop]
theorem SlR.takeE (E : Enc enc sz) {A : Option Addr} {cap : Nat} {l : List α} (s : SlR h bl (.slice A l.length cap) l.length (l.flatMap enc) sz) {m : Nat} (hm : m ≤ l.length) :
    SlR h bl (cut3 A cap sz 0 m cap) (l.take m).length ((l.take m).flatMap enc) sz := by
  have := s.cut (Nat.zero_le m) hm
  rw [Nat.zero_mul, List.drop_zero, E.flat_take] at this
  rw [List.length_take, Nat.min_eq_left hm]
  simpa using this
end
end
end Go.Proofs.Ytdglignjoojimaa
