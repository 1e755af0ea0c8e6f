/- What is owned, as lists of things: put in, taken out, put behind, written. No conditions. -/
import Derived.Test.YtdglignjoojimaaSx18
set_option linter.unusedVariables false
set_option linter.unusedSimpArgs false
namespace Go.Proofs.Ytdglignjoojimaa
section
variable {α : Type} {enc : α → List Value} {sz : Nat} {e : TypeId} {v : Value} {G : Gr}
theorem Buf.blk {n : Nat} {cs : List Value} (B : Buf e sz v n cs G) (h0 : 0 < n) : ∃ b cap sp, v = .slice (some ⟨b, 0, none⟩) n cap ∧ G = [(b, .cells (List.toArray (cs ++ sp)) e (0, 0))] ∧ n ≤ cap ∧ cap ≤ 9223372036854775807 ∧
    cs.length = n * sz ∧ (cs ++ sp).length = cap * sz := by
  rcases B with ⟨_, rfl, _⟩ | h
  · omega
  · exact h
/-- Other things in the same block. -/
theorem Buf.mk {n b cap : Nat} {cs cs' sp : List Value} (l1 : n ≤ cap) (l2 : cap ≤ 9223372036854775807) (h1 : cs.length = n * sz) (h2 : (cs ++ sp).length = cap * sz) (h3 : cs'.length = n * sz) :
    Buf e sz (.slice (some ⟨b, 0, none⟩) n cap) n cs' [(b, .cells (List.toArray (cs' ++ sp)) e (0, 0))] :=
  .inr ⟨b, cap, sp, rfl, rfl, l1, l2, h3, by rw [List.length_append] at h2 ⊢; omega⟩
theorem Buf.ins (E : Enc enc sz) {l : List α} {a : α} {i : Nat} (hi : i ≤ l.length) (B : Buf e sz v (l.length + 1) ((l.flatMap enc).take (i * sz) ++ enc a ++ (l.flatMap enc).drop (i * sz)) G) :
    Buf e sz v (l.take i ++ a :: l.drop i).length ((l.take i ++ a :: l.drop i).flatMap enc) G := by
  rw [E.flat_take, E.flat_drop] at B
  have e1 : (l.take i ++ a :: l.drop i).length = l.length + 1 := by simp; omega
  have e2 : (l.take i ++ a :: l.drop i).flatMap enc = (l.take i).flatMap enc ++ enc a ++ (l.drop i).flatMap enc := by simp
  rw [e1, e2]; exact B
theorem Buf.del (E : Enc enc sz) {l : List α} {i j : Nat} (hi : i ≤ j) (hj : j ≤ l.length) (B : Buf e sz v (i + (l.length - j)) ((l.flatMap enc).take (i * sz) ++ (l.flatMap enc).drop (j * sz)) G) :
    Buf e sz v (l.take i ++ l.drop j).length ((l.take i ++ l.drop j).flatMap enc) G := by
  rw [E.flat_take, E.flat_drop] at B
  have e1 : (l.take i ++ l.drop j).length = i + (l.length - j) := by simp; omega
  rw [e1, List.flatMap_append]; exact B
theorem Buf.cat {l l' : List α} (B : Buf e sz v (l.length + l'.length) (l.flatMap enc ++ l'.flatMap enc) G) : Buf e sz v (l ++ l').length ((l ++ l').flatMap enc) G := by
  rw [List.length_append, List.flatMap_append]; exact B
theorem Buf.snoc {l : List α} {a : α} (B : Buf e sz v (l.length + 1) (l.flatMap enc ++ enc a) G) : Buf e sz v (l ++ [a]).length ((l ++ [a]).flatMap enc) G := by
  rw [List.length_append, List.flatMap_append]; simpa using B
theorem putAt_enc (E : Enc enc sz) {l : List α} {i : Nat} (hi : i < l.length) (a : α) (sp : List Value) : putAt (l.flatMap enc ++ sp) (i * sz) (enc a) = (l.set i a).flatMap enc ++ sp := by
  have h1 : l = l.take i ++ l[i] :: l.drop (i + 1) := by rw [← List.drop_eq_getElem_cons hi, List.take_append_drop]
  have h2 : l.flatMap enc ++ sp = (l.take i).flatMap enc ++ (enc l[i] ++ ((l.drop (i + 1)).flatMap enc ++ sp)) := by
    conv => lhs; rw [h1, List.flatMap_append, List.flatMap_cons]
    simp only [List.append_assoc]
  rw [h2, putAt_mid (by rw [E.flat_len, List.length_take]; rw [Nat.min_eq_left (by omega)]) (by rw [E.len, E.len]), List.set_eq_take_append_cons_drop, if_pos hi]
  simp
theorem PutR.encd (E : Enc enc sz) {l : List α} {i : Nat} (hi : i < l.length) (a : α) (sp : List Value) : PutR (l.flatMap enc ++ sp) (0 + i * sz) (enc a) ((l.set i a).flatMap enc ++ sp) := by
  rw [Nat.zero_add, ← putAt_enc E hi]
  refine PutR.at_ ?_
  rw [E.len, List.length_append, E.flat_len]
  have : (i + 1) * sz ≤ l.length * sz := Nat.mul_le_mul_right _ hi
  rw [Nat.add_mul] at this
  omega
theorem Buf.set {n b cap : Nat} {l : List α} {sp : List Value} (E : Enc enc sz) (i : Nat) (a : α) (hn : l.length = n) (l1 : n ≤ cap) (l2 : cap ≤ 9223372036854775807) (h2 : (l.flatMap enc ++ sp).length = cap * sz) :
    Buf e sz (.slice (some ⟨b, 0, none⟩) n cap) (l.set i a).length ((l.set i a).flatMap enc) [(b, .cells (List.toArray ((l.set i a).flatMap enc ++ sp)) e (0, 0))] := by
  have e1 : (l.set i a).length = n := by rw [List.length_set]; exact hn
  rw [e1]
  exact Buf.mk l1 l2 (by rw [E.flat_len, hn]) h2 (by rw [E.flat_len, e1])
end
section
variable {X : Cx} {P : Program} {N : Nat} {ops : Array Oper} {σ : List (Nat × Value)} {h : Hp} {bl : Bl} {d : Nat} {ty : TypeId} {pos : String} {aft : Array Edge} {g : Option (Nat × Bool)}
/-- A slice of two things of one cell each. -/
theorem X_bs2 {t e : TypeId} {bs : Nat} {z : Value} {x y : Operand} {v u : Value} (hlt : Nat.blt d N = true) (hu : P.underlying t = some (.slice e)) (ht : TyI P e 1 bs z) (hx : ev σ x = some v) (hy : ev σ y = some u)
    (hv : v.cells = #[v]) (hu' : u.cells = #[u]) (hz : z.cells = #[z]) :
    Eff X P N ⟨some d, .buildSlice t 2 (List.toArray [(0, x), (1, y)]), ty, pos, aft, g⟩ σ h bl (PNew X σ h bl d (fun b => .slice (some ⟨b, 0, none⟩) 2 2) (.cells (List.toArray [v, u]) e (0, 0))) := by
  obtain ⟨i, hi, hs, rfl, hz'⟩ := ht.ex
  refine E_bslice (vs := [(0, v), (1, u)]) hlt (by simp [parts, hx, hy]) fun w => ?_
  simp only [Instr.buildSlice, Sem.run_bind, run_under w hu, Result.andThen_ok, run_size w hi, hs]
  rw [if_neg (by omega), if_neg (by omega)]
  simp only [Sem.run_bind, zeroValue, run_tinfo w hi, hz', Sem.run_pure, Result.andThen_ok]
  simp [Instr.fill, hv, hu', run_new, Sem.run_bind, show Array.range 2 = #[0, 1] from rfl, hz, run_tinfo w hi]
end
theorem Cell.mem {h : Hp} {bl' : Bl} {b off : Nat} {v : Value} (c : Cell h [] b off v) : Cell h bl' b off v := c.mono (Sub.refl _) (fun p hp => by simp at hp)
theorem split_all {bl : Bl} : Split bl bl [] := by
  induction bl with
  | nil => exact .nil
  | cons G r ih => exact .cons .here ih
end Go.Proofs.Ytdglignjoojimaa
