/- Groups that are from now on known for good, under a name; halves; lists side by side. No conditions. -/
import Derived.Test.YtdglignjoojimaaSx16
set_option linter.unusedVariables false
set_option linter.unusedSimpArgs false
namespace Go.Proofs.Ytdglignjoojimaa

/-- Known for good in h. -/
def KnowG (h : Hp) (G : Gr) : Prop := ∀ p ∈ G, h p.1 = some p.2
def KnowB (h : Hp) : Bl → Prop
  | [] => True
  | G :: r => KnowG h G ∧ KnowB h r
section
variable {X : Cx} {P : Program} {N : Nat} {ops : Array Oper} {Q : Exit → Act → World → Prop} {σ : List (Nat × Value)} {h h' : Hp} {bl bl' : Bl} {rest : List Oper}
theorem addH_mem : ∀ {G : Gr} {p : Nat × Obj}, (G.map Prod.fst).Nodup → p ∈ G → addH h G p.1 = some p.2
  | (b, o) :: r, p, hn, hp => by
    simp only [List.map_cons, List.nodup_cons] at hn
    simp only [addH]
    rcases List.mem_cons.1 hp with rfl | hp
    · simp
    · rw [if_neg (fun e => hn.1 (List.mem_map.2 ⟨p, hp, e⟩))]
      exact addH_mem hn.2 hp
theorem Rel.keepF {w : World} : ∀ {blA blR : Bl} {h : Hp}, Rel X h (blA ++ blR) w → ∃ h', Sub h h' ∧ KnowB h' blA ∧ Rel X h' blR w
  | [], blR, h, r => ⟨h, Sub.refl _, trivial, r⟩
  | G :: blA, blR, h, r => by
    have hn := r.nodup
    rw [List.cons_append, List.flatten_cons, List.map_append] at hn
    have hs : Sub h (addH h G) := fun b o hb => by
      rw [addH_at]
      · exact hb
      · intro p hp e
        have := (r.trk p (List.mem_append.2 (.inl hp))).2.1
        rw [e, hb] at this; cases this
    have hg : KnowG (addH h G) G := fun p hp => addH_mem (List.nodup_append.1 hn).1 hp
    obtain ⟨h', a, b, c⟩ := Rel.keepF (blA := blA) (blR := blR) r.keep
    exact ⟨h', hs.trans a, ⟨fun p hp => a _ _ (hg p hp), b⟩, c⟩
theorem V_keeps {c : Code} {blA blR : Bl} (hs : Split bl blA blR) (k : ∀ h', Sub h h' → KnowB h' blA → V X P N Q c σ h' blR) : V X P N Q c σ h bl :=
  fun a w ha hr => let ⟨h', s, g, r⟩ := (hr.perm hs.perm).keepF; k h' s g a w ha r
theorem VL_keeps {l : List Oper} {blA blR : Bl} (hs : Split bl blA blR) (k : ∀ h', Sub h h' → KnowB h' blA → VL X P N ops Q l σ h' blR) : VL X P N ops Q l σ h bl :=
  fun a w ha hr => let ⟨h', s, g, r⟩ := (hr.perm hs.perm).keepF; k h' s g a w ha r
theorem VQ_keeps {e : Exit} {blA blR : Bl} (hs : Split bl blA blR) (k : ∀ h', Sub h h' → KnowB h' blA → VQ X N Q e σ h' blR) : VQ X N Q e σ h bl :=
  fun a w ha hr => let ⟨h', s, g, r⟩ := (hr.perm hs.perm).keepF; k h' s g a w ha r
theorem VD_keeps {hS : Hp} {blS : Bl} {E k : Nat} {F : Act → World → Prop} {l : List Oper} {blA blR : Bl} (hs : Split bl blA blR) (kk : ∀ h', Sub h h' → KnowB h' blA → VD X P N ops hS blS E F k l σ h' blR) : VD X P N ops hS blS E F k l σ h bl :=
  fun a w ha hr => let ⟨h', s, g, r⟩ := (hr.perm hs.perm).keepF; kk h' s g a w ha r
theorem VK_keeps {hS : Hp} {blS : Bl} {E M k i : Nat} {F : Act → World → Prop} {l : List Oper} {blA blR : Bl} (hs : Split bl blA blR) (kk : ∀ h', Sub h h' → KnowB h' blA → VK X P N ops hS blS E M k F i l σ h' blR) : VK X P N ops hS blS E M k F i l σ h bl :=
  fun a w ha hr => let ⟨h', s, g, r⟩ := (hr.perm hs.perm).keepF; kk h' s g a w ha r

theorem Buf.known {e : TypeId} {sz n : Nat} {v : Value} {cs : List Value} {G : Gr} (B : Buf e sz v n cs G) (hk : KnowG h G) : SlR h [] v n cs sz := by
  rcases B with ⟨rfl, rfl, rfl, rfl⟩ | ⟨b, cap, sp, rfl, rfl, l1, l2, hl, hl'⟩
  · exact ⟨none, 0, rfl, Nat.le_refl _, by omega, by simp, fun h => absurd h (by omega)⟩
  · refine ⟨_, cap, rfl, l1, l2, hl, fun _ => ⟨b, 0, rfl, Cells.of_at (cs := (cs ++ sp).toArray) (T := e) (fz := (0, 0)) (.inl (hk (b, .cells (cs ++ sp).toArray e (0, 0)) (by simp))) fun j hj => ?_⟩⟩
    simp [List.getElem?_append_left hj]
theorem SlR.sub {v : Value} {n sz : Nat} {cs : List Value} (s : SlR h [] v n cs sz) (h1 : Sub h h') : SlR h' bl' v n cs sz := s.mono h1 (fun p hp => by simp at hp)
theorem SlR.nil (sz : Nat) : SlR h bl (.slice none 0 0) 0 [] sz := ⟨none, 0, rfl, Nat.le_refl _, by omega, by simp, fun h => absurd h (by omega)⟩
theorem Cells.known {b : Nat} {l : List Value} {T : TypeId} {fz : Nat × Nat} (hb : h b = some (.cells l.toArray T fz)) : Cells h bl b 0 l :=
  Cells.of_at (.inl hb) fun j hj => by simp [hj]
theorem Cell.known {b off : Nat} {v : Value} {l : List Value} {T : TypeId} {fz : Nat × Nat} (hb : h b = some (.cells l.toArray T fz)) (hv : l[off]? = some v) : Cell h bl b off v :=
  ⟨_, T, fz, .inl hb, by simpa using hv⟩
theorem Cells.knownAt {b off n : Nat} {l r : List Value} {T : TypeId} {fz : Nat × Nat} (hb : h b = some (.cells l.toArray T fz)) (k : TakeR l off n r) : Cells h bl b off r :=
  Cells.of_at (.inl hb) fun j hj => by simpa using k.spec.2 j hj

variable {dst : Option Tmp} {ty : TypeId} {pos : String} {aft : Array Edge} {g : Option (Nat × Bool)}
/-- The half of a number that isn't negative. -/
theorem S_half {x y : Operand} {t u : TypeId} {k' : IntKind} {m : Int} (hx : ev σ x = some (.int .u64 m)) (hy : ev σ y = some (.int k' 1)) (h0 : 0 ≤ m) :
    Still P N σ h bl ⟨dst, .binOp .shr t x y u, ty, pos, aft, g⟩ (.int .u64 (m / 2)) := by
  have := S_shr (P := P) (N := N) (h := h) (bl := bl) (dst := dst) (ty := ty) (pos := pos) (aft := aft) (g := g) (t := t) (u := u) hx hy (by omega)
  have e : m.fdiv (2 ^ (min (1 : Int).toNat IntKind.u64.bits)) = m / 2 := by
    rw [show (2 : Int) ^ (min (1 : Int).toNat IntKind.u64.bits) = 2 by decide, Int.fdiv_eq_ediv_of_nonneg _ (by omega)]
  rwa [e] at this
/-- From int to uint and back, where nothing is lost. -/
theorem S_convu {t u : TypeId} {x : Operand} {k' : IntKind} {n : Int} {d : TypeDesc} (hu : P.underlying t = some d) (hu' : P.underlying u = some (.int .u64)) (hx : ev σ x = some (.int k' n)) (h0 : 0 ≤ n) (h1 : n ≤ 18446744073709551615) :
    Still P N σ h bl ⟨dst, .convert t u x, ty, pos, aft, g⟩ (.int .u64 n) := by
  have := S_conv (N := N) (σ := σ) (h := h) (bl := bl) (dst := dst) (ty := ty) (pos := pos) (aft := aft) (g := g) hu hu' hx
  rwa [wrapu_id h0 h1] at this
theorem S_convi {t u : TypeId} {x : Operand} {k' : IntKind} {n : Int} {d : TypeDesc} (hu : P.underlying t = some d) (hu' : P.underlying u = some (.int .i64)) (hx : ev σ x = some (.int k' n)) (h0 : -9223372036854775808 ≤ n) (h1 : n ≤ 9223372036854775807) :
    Still P N σ h bl ⟨dst, .convert t u x, ty, pos, aft, g⟩ (.int .i64 n) := by
  have := S_conv (N := N) (σ := σ) (h := h) (bl := bl) (dst := dst) (ty := ty) (pos := pos) (aft := aft) (g := g) hu hu' hx
  rwa [wrap_id h0 h1] at this
end

/-! ### Lists side by side -/
inductive All2 {α β : Type} (R : α → β → Prop) : List α → List β → Prop
  | nil : All2 R [] []
  | cons {a : α} {b : β} {as : List α} {bs : List β} : R a b → All2 R as bs → All2 R (a :: as) (b :: bs)
section
variable {α β : Type} {R R' : α → β → Prop}
theorem All2.mono (h : ∀ a b, R a b → R' a b) : ∀ {as : List α} {bs : List β}, All2 R as bs → All2 R' as bs
  | _, _, .nil => .nil
  | _, _, .cons h1 h2 => .cons (h _ _ h1) (h2.mono h)
theorem All2.len : ∀ {as : List α} {bs : List β}, All2 R as bs → as.length = bs.length
  | _, _, .nil => rfl
  | _, _, .cons _ h2 => by simp [h2.len]
theorem All2.get {as : List α} {bs : List β} {i : Nat} {b : β} (h : All2 R as bs) (e : bs[i]? = some b) : ∃ a, as[i]? = some a ∧ R a b := by
  induction h generalizing i with
  | nil => simp at e
  | cons h1 h2 ih =>
    cases i with
    | zero => simp only [List.getElem?_cons_zero, Option.some.injEq] at e; subst e; exact ⟨_, rfl, h1⟩
    | succ i => simpa using ih (by simpa using e)
theorem All2.getl {as : List α} {bs : List β} {i : Nat} {a : α} (h : All2 R as bs) (e : as[i]? = some a) : ∃ b, bs[i]? = some b ∧ R a b := by
  induction h generalizing i with
  | nil => simp at e
  | cons h1 h2 ih =>
    cases i with
    | zero => simp only [List.getElem?_cons_zero, Option.some.injEq] at e; subst e; exact ⟨_, rfl, h1⟩
    | succ i => simpa using ih (by simpa using e)
theorem All2.app : ∀ {as as' : List α} {bs bs' : List β}, All2 R as bs → All2 R as' bs' → All2 R (as ++ as') (bs ++ bs')
  | _, _, _, _, .nil, h => h
  | _, _, _, _, .cons h1 h2, h => .cons h1 (h2.app h)
theorem All2.take : ∀ {as : List α} {bs : List β} (i : Nat), All2 R as bs → All2 R (as.take i) (bs.take i)
  | _, _, 0, _ => by simpa using All2.nil
  | _, _, _ + 1, .nil => by simpa using All2.nil
  | _, _, i + 1, .cons h1 h2 => .cons h1 (h2.take i)
theorem All2.drop : ∀ {as : List α} {bs : List β} (i : Nat), All2 R as bs → All2 R (as.drop i) (bs.drop i)
  | _, _, 0, h => h
  | _, _, _ + 1, .nil => by simpa using All2.nil
  | _, _, i + 1, .cons _ h2 => h2.drop i
theorem All2.set : ∀ {as : List α} {bs : List β} (i : Nat) {a : α} {b : β}, All2 R as bs → R a b → All2 R (as.set i a) (bs.set i b)
  | _, _, _, _, _, .nil, _ => .nil
  | _, _, 0, _, _, .cons _ h2, h => .cons h h2
  | _, _, i + 1, _, _, .cons h1 h2, h => .cons h1 (h2.set i h)
end
end Go.Proofs.Ytdglignjoojimaa
