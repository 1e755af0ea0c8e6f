/- Pieces of slices by their bounds; what is put in and taken out. No conditions. -/
import Derived.Test.YtdglignjoojimaaSx9
set_option linter.unusedVariables false
set_option linter.unusedSimpArgs false
namespace Go.Proofs.Ytdglignjoojimaa

section
variable {X : Cx} {P : Program} {N : Nat} {ops : Array Oper} {Q : Exit → Act → World → Prop} {σ : List (Nat × Value)} {h h' : Hp} {bl bl' : Bl} {rest : List Oper}
variable {dst : Option Tmp} {d : Nat} {ty : TypeId} {pos : String} {aft : Array Edge} {g : Option (Nat × Bool)}

/-- x[l:m], l ahead of the capacity. -/
theorem S_piece (l m : Nat) {t e : TypeId} {x : Operand} {lo hi : Option Operand} {i : TypeInfo} {b off len cap : Nat} (hu : P.underlying t = some (.slice e)) (hi' : P.info? e = some i)
    (hx : ev σ x = some (.slice (some ⟨b, off, none⟩) len cap)) (hl : bnd σ 0 lo = some (l : Int)) (hm : bnd σ len hi = some (m : Int)) (h1 : l ≤ m) (h2 : m ≤ cap) (h3 : l < cap) :
    Still P N σ h bl ⟨dst, .slice t x lo hi none, ty, pos, aft, g⟩ (.slice (some ⟨b, off + l * i.size, none⟩) (m - l) (cap - l)) := by
  have := S_slice (P := P) (N := N) (h := h) (bl := bl) (dst := dst) (ty := ty) (pos := pos) (aft := aft) (g := g) hu hi' hx hl hm (by omega) (by omega) (by omega)
  simp only [Int.toNat_natCast] at this
  rwa [cut3_at h3] at this
/-- x[:m]. -/
theorem S_to (m : Nat) {t e : TypeId} {x y : Operand} {i : TypeInfo} {A : Option Addr} {len cap : Nat} (hA : ∀ a, A = some a → a.spot = none) (hu : P.underlying t = some (.slice e)) (hi' : P.info? e = some i)
    (hx : ev σ x = some (.slice A len cap)) (hm : bnd σ len (some y) = some (m : Int)) (h2 : m ≤ cap) :
    Still P N σ h bl ⟨dst, .slice t x none (some y) none, ty, pos, aft, g⟩ (.slice A m cap) := by
  have := S_slice (P := P) (N := N) (h := h) (bl := bl) (dst := dst) (ty := ty) (pos := pos) (aft := aft) (g := g) (lo := none) (l := 0) hu hi' hx rfl hm (by omega) (by omega) (by omega)
  simp only [Int.toNat_natCast, Int.toNat_zero] at this
  rwa [cut3_0 hA] at this
/-- x[l:m] of whatever slice. -/
theorem S_cut (l m : Nat) {t e : TypeId} {x : Operand} {lo hi : Option Operand} {i : TypeInfo} {A : Option Addr} {len cap : Nat} (hu : P.underlying t = some (.slice e)) (hi' : P.info? e = some i)
    (hx : ev σ x = some (.slice A len cap)) (hl : bnd σ 0 lo = some (l : Int)) (hm : bnd σ len hi = some (m : Int)) (h1 : l ≤ m) (h2 : m ≤ cap) :
    Still P N σ h bl ⟨dst, .slice t x lo hi none, ty, pos, aft, g⟩ (cut3 A cap i.size l m cap) := by
  have := S_slice (P := P) (N := N) (h := h) (bl := bl) (dst := dst) (ty := ty) (pos := pos) (aft := aft) (g := g) hu hi' hx hl hm (by omega) (by omega) (by omega)
  simpa only [Int.toNat_natCast] using this

theorem SlR.blk {b off k c sz : Nat} {l : List Value} {T : TypeId} {fz : Nat × Nat} (hb : (b, Obj.cells l.toArray T fz) ∈ bl.flatten) (hk : off + k * sz ≤ l.length) (h1 : k ≤ c) (h2 : c ≤ 9223372036854775807) :
    SlR h bl (.slice (some ⟨b, off, none⟩) k c) k ((l.drop off).take (k * sz)) sz := by
  refine ⟨_, _, rfl, h1, h2, ?_, fun _ => ⟨b, off, rfl, Cells.of_at (.inr hb) fun j hj => ?_⟩⟩
  · rw [List.length_take, List.length_drop]; omega
  · simp at hj
    simp

/-- Blocks of two groups are not one. -/
theorem Rel.ne {w : World} {b c : Nat} {o o' : Obj} {bl1 bl2 : Bl} (r : Rel X h bl w) (h1 : Pick bl [(b, o)] bl1) (h2 : Pick bl1 [(c, o')] bl2) : b ≠ c := by
  have r1 := r.perm (h1.perm.trans (h2.perm.cons _))
  have hn := r1.nodup
  simp only [List.flatten_cons, List.cons_append, List.nil_append, List.map_cons, List.nodup_cons, List.mem_cons] at hn
  exact fun e => hn.1 (.inl e)
theorem V_ne {c : Code} {b b' : Nat} {o o' : Obj} {bl1 bl2 : Bl} (h1 : Pick bl [(b, o)] bl1) (h2 : Pick bl1 [(b', o')] bl2) (k : b ≠ b' → V X P N Q c σ h bl) : V X P N Q c σ h bl :=
  fun a w ha hr => k (hr.ne h1 h2) a w ha hr

theorem VL_ne {l : List Oper} {b b' : Nat} {o o' : Obj} {bl1 bl2 : Bl} (h1 : Pick bl [(b, o)] bl1) (h2 : Pick bl1 [(b', o')] bl2) (k : b ≠ b' → VL X P N ops Q l σ h bl) : VL X P N ops Q l σ h bl :=
  fun a w ha hr => k (hr.ne h1 h2) a w ha hr

/-! ### Lists -/
theorem putAt_mid {A B C vs : List Value} {n : Nat} (hn : A.length = n) (h : vs.length = B.length) : putAt (A ++ (B ++ C)) n vs = A ++ (vs ++ C) := by
  subst hn
  simp [putAt, h]

theorem ins_grow {cs vc F sp : List Value} {a : Nat} (ha : a ≤ cs.length) (hF : F.length = vc.length + (cs.length - a)) :
    putAt (putAt (cs.take a ++ F ++ sp) a vc) (a + vc.length) (cs.drop a) = (cs.take a ++ vc ++ cs.drop a) ++ sp := by
  have hl : (cs.take a).length = a := by simp; omega
  have e0 : cs.take a ++ F ++ sp = cs.take a ++ (F.take vc.length ++ (F.drop vc.length ++ sp)) := by
    rw [← List.append_assoc (F.take _), List.take_append_drop, List.append_assoc]
  rw [e0, putAt_mid hl (by simp; omega)]
  have e1 : cs.take a ++ (vc ++ (F.drop vc.length ++ sp)) = (cs.take a ++ vc) ++ (F.drop vc.length ++ sp) := by simp
  rw [e1, putAt_mid (by simp; omega) (by simp; omega)]
  simp

theorem ins_place {cs vc sp : List Value} {a : Nat} (ha : a ≤ cs.length) (hv : vc.length ≤ sp.length) :
    putAt (putAt (cs ++ sp) (a + vc.length) (cs.drop a)) a vc = (cs.take a ++ vc ++ cs.drop a) ++ sp.drop vc.length := by
  -- what lies from a on, cut behind as many places as are put in
  have hl : (cs.take a).length = a := by simp; omega
  have e0 : cs ++ sp = cs.take a ++ ((cs.drop a ++ sp).take vc.length ++ ((cs.drop a ++ sp).drop vc.length)) := by
    rw [List.take_append_drop, ← List.append_assoc, List.take_append_drop]
  have e1 : (cs.drop a ++ sp).drop vc.length = ((cs.drop a ++ sp).drop vc.length).take (cs.length - a) ++ sp.drop vc.length := by
    have : ((cs.drop a ++ sp).drop vc.length).drop (cs.length - a) = sp.drop vc.length := by
      rw [List.drop_drop, show vc.length + (cs.length - a) = (cs.drop a).length + vc.length by simp; omega, ← List.drop_drop, List.drop_left]
    rw [← this, List.take_append_drop]
  rw [e0]
  rw [e1]
  have e2 : ∀ (M : List Value), cs.take a ++ (M ++ (((cs.drop a ++ sp).drop vc.length).take (cs.length - a) ++ sp.drop vc.length)) = (cs.take a ++ M) ++ (((cs.drop a ++ sp).drop vc.length).take (cs.length - a) ++ sp.drop vc.length) := fun M => by simp
  rw [e2, putAt_mid (by simp; omega) (by simp; omega)]
  rw [List.append_assoc, putAt_mid hl (by simp; omega)]
  simp

theorem del_place {cs sp Z : List Value} {a b : Nat} (hab : a ≤ b) (hb : b ≤ cs.length) (hZ : Z.length = b - a) :
    putAt (putAt (cs ++ sp) a (cs.drop b)) (a + (cs.length - b)) Z = (cs.take a ++ cs.drop b) ++ (Z ++ sp) := by
  have hl : (cs.take a).length = a := by simp; omega
  have e0 : cs ++ sp = cs.take a ++ ((cs.drop a).take (cs.length - b) ++ ((cs.drop a).drop (cs.length - b) ++ sp)) := by
    rw [← List.append_assoc ((cs.drop a).take _), List.take_append_drop, ← List.append_assoc, List.take_append_drop]
  rw [e0, putAt_mid hl (by simp; omega)]
  have e1 : cs.take a ++ (cs.drop b ++ ((cs.drop a).drop (cs.length - b) ++ sp)) = (cs.take a ++ cs.drop b) ++ ((cs.drop a).drop (cs.length - b) ++ sp) := by simp
  rw [e1, putAt_mid (by simp; omega) (by simp; omega)]
theorem ones_drop {a : List Value} {k : Nat} (h : ones a = true) : ones (a.drop k) = true :=
  ones_iff.2 fun v hv => ones_iff.1 h v (List.mem_of_mem_drop hv)
end
end Go.Proofs.Ytdglignjoojimaa
