/- Slices: what they read as, what is owned, append, copy, clear. No conditions. -/
import Derived.Test.YtdglignjoojimaaSx6
set_option linter.unusedVariables false
set_option linter.unusedSimpArgs false
namespace Go.Proofs.Ytdglignjoojimaa

section
variable {X : Cx} {P : Program} {N : Nat} {ops : Array Oper} {Q : Exit → Act → World → Prop} {σ : List (Nat × Value)} {h h' : Hp} {bl bl' : Bl} {rest : List Oper}
variable {dst : Option Tmp} {d : Nat} {ty : TypeId} {pos : String} {aft : Array Edge} {g : Option (Nat × Bool)}

theorem Cell.mono {b off : Nat} {v : Value} (c : Cell h bl b off v) (h1 : Sub h h') (h2 : ∀ p ∈ bl.flatten, p ∈ bl'.flatten) : Cell h' bl' b off v := by
  obtain ⟨cs, T, fz, hb, hv⟩ := c
  exact ⟨cs, T, fz, hb.imp (h1 _ _) (h2 _), hv⟩
theorem Cells_iff {b : Nat} : ∀ {cs : List Value} {off : Nat}, Cells h bl b off cs ↔ ∀ j (hj : j < cs.length), Cell h bl b (off + j) cs[j]
  | [], off => by simp [Cells]
  | v :: cs, off => by
    simp only [Cells, Cells_iff (cs := cs)]
    constructor
    · rintro ⟨h0, h1⟩ j hj
      cases j with
      | zero => simpa using h0
      | succ j => simpa [Nat.add_assoc, Nat.add_comm 1 j] using h1 j (by simpa using hj)
    · intro k
      refine ⟨by have := k 0 (by simp); simpa only [Nat.add_zero, List.getElem_cons_zero] using this, fun j hj => ?_⟩
      have := k (j + 1) (by simpa using hj)
      simpa [Nat.add_assoc, Nat.add_comm 1 j] using this
theorem Cells.mono {b off : Nat} {cs : List Value} (c : Cells h bl b off cs) (h1 : Sub h h') (h2 : ∀ p ∈ bl.flatten, p ∈ bl'.flatten) : Cells h' bl' b off cs :=
  Cells_iff.2 fun j hj => (Cells_iff.1 c j hj).mono h1 h2
theorem Cells.part {b off : Nat} {cs : List Value} (c : Cells h bl b off cs) (i k : Nat) : Cells h bl b (off + i) ((cs.drop i).take k) := by
  refine Cells_iff.2 fun j hj => ?_
  have hj' : i + j < cs.length := by simp at hj; omega
  have := Cells_iff.1 c (i + j) hj'
  simpa [Nat.add_assoc] using this
theorem Cells.get {b off j : Nat} {cs : List Value} {v : Value} (c : Cells h bl b off cs) (hj : cs[j]? = some v) : Cell h bl b (off + j) v := by
  obtain ⟨hlt, rfl⟩ := List.getElem?_eq_some_iff.1 hj
  exact Cells_iff.1 c j hlt

/-- v is a slice of n elements of sz cells each; cs are their cells. -/
def SlR (h : Hp) (bl : Bl) (v : Value) (n : Nat) (cs : List Value) (sz : Nat) : Prop :=
  ∃ A cap, v = .slice A n cap ∧ n ≤ cap ∧ cap ≤ 9223372036854775807 ∧ cs.length = n * sz ∧ (0 < n → ∃ b off, A = some ⟨b, off, none⟩ ∧ Cells h bl b off cs)
theorem SlR.mono {v : Value} {n sz : Nat} {cs : List Value} (s : SlR h bl v n cs sz) (h1 : Sub h h') (h2 : ∀ p ∈ bl.flatten, p ∈ bl'.flatten) : SlR h' bl' v n cs sz := by
  obtain ⟨A, cap, e, l1, l2, hl, hc⟩ := s
  exact ⟨A, cap, e, l1, l2, hl, fun hn => let ⟨b, off, e, c⟩ := hc hn; ⟨b, off, e, c.mono h1 h2⟩⟩
theorem SlR.form {v : Value} {n sz : Nat} {cs : List Value} (s : SlR h bl v n cs sz) : ∃ A cap, v = .slice A n cap ∧ n ≤ cap ∧ cap ≤ 9223372036854775807 :=
  let ⟨A, cap, e, l1, l2, _, _⟩ := s; ⟨A, cap, e, l1, l2⟩
theorem SlR.elem {v : Value} {n sz : Nat} {cs : List Value} (s : SlR h bl v n cs sz) {i : Int} (h0 : 0 ≤ i) (h1 : i < n) :
    ∃ b off cap, v = .slice (some ⟨b, off, none⟩) n cap ∧ Cells h bl b (off + i.toNat * sz) ((cs.drop (i.toNat * sz)).take sz) := by
  obtain ⟨A, cap, e, l1, l2, hl, hc⟩ := s
  obtain ⟨b, off, rfl, c⟩ := hc (by omega)
  exact ⟨b, off, cap, e, c.part _ _⟩

/-- Some places of a list are written. -/
def putAt (l : List Value) (off : Nat) (vs : List Value) : List Value := l.take off ++ vs ++ l.drop (off + vs.length)
theorem putAt_length {l vs : List Value} {off : Nat} (hl : off + vs.length ≤ l.length) : (putAt l off vs).length = l.length := by
  simp [putAt]; omega
theorem PutR.at_ : ∀ {vs l : List Value} {off : Nat}, off + vs.length ≤ l.length → PutR l off vs (putAt l off vs)
  | [], l, off, _ => by simp [putAt]; exact .nil
  | v :: vs, l, off, hl => by
    have hlt : off < l.length := by simp at hl; omega
    refine .cons (SetL.of hlt) ?_
    have := PutR.at_ (vs := vs) (l := l.set off v) (off := off + 1) (by simp at hl ⊢; omega)
    have e : putAt (l.set off v) (off + 1) vs = putAt l off (v :: vs) := by
      simp only [putAt, List.length_cons]
      rw [List.take_succ_eq_append_getElem (by simpa using hlt), List.take_set_of_le (Nat.le_refl _), List.getElem_set_self, List.drop_set_of_lt (by omega)]
      simp [Nat.add_assoc, Nat.add_comm 1]
    rw [← e]; exact this

theorem ones_append : ∀ {a b : List Value}, ones (a ++ b) = (ones a && ones b)
  | [], b => by simp [ones]
  | v :: a, b => by cases v <;> simp [ones, ones_append]
theorem ones_take : ∀ {a : List Value} {k : Nat}, ones a = true → ones (a.take k) = true
  | a, 0, _ => by simp [ones]
  | [], k + 1, _ => by simp [ones]
  | v :: a, k + 1, h => by
    have ih := @ones_take a k
    cases v <;> simp_all [ones]

theorem run_lenOf {v : Value} {n sz : Nat} {cs : List Value} {w : World} (s : SlR h bl v n cs sz) : (Builtin.lenOf v).run P w = .ok n w := by
  obtain ⟨A, cap, rfl, _⟩ := s
  rfl
theorem run_first {v : Value} {n sz k : Nat} {cs : List Value} {w : World} (s : SlR h bl v n cs sz) (hk : Knows h bl w) (hle : k ≤ n) : (Builtin.firstCells sz k v).run P w = .ok (cs.take (k * sz)).toArray w := by
  obtain ⟨A, cap, rfl, l1, l2, hl, hc⟩ := s
  rcases Nat.eq_zero_or_pos n with h0 | h0
  · have : k = 0 := by omega
    subst this
    cases A with
    | none => simp [Builtin.firstCells]
    | some a => simp [Builtin.firstCells, loadCells, loadCellsFrom]
  · obtain ⟨b, off, rfl, c⟩ := hc h0
    have hlen : (cs.take (k * sz)).length = k * sz := by
      rw [List.length_take, hl]; exact Nat.min_eq_left (Nat.mul_le_mul_right sz hle)
    have c' := c.part 0 (k * sz)
    simp only [Nat.add_zero, List.drop_zero] at c'
    have := run_loadCells (P := P) (cs.take (k * sz)) off 0 #[] (by simpa using c'.at_ hk)
    rw [hlen] at this
    simp only [Builtin.firstCells, loadCells, this]
    simp

/-! ### What is owned -/
def Buf (e : TypeId) (sz : Nat) (v : Value) (n : Nat) (cs : List Value) (G : Gr) : Prop :=
  (v = .slice none 0 0 ∧ n = 0 ∧ cs = [] ∧ G = []) ∨
  ∃ b cap sp, v = .slice (some ⟨b, 0, none⟩) n cap ∧ G = [(b, .cells (List.toArray (cs ++ sp)) e (0, 0))] ∧ n ≤ cap ∧ cap ≤ 9223372036854775807 ∧ cs.length = n * sz ∧ (cs ++ sp).length = cap * sz
theorem Buf.reads {e : TypeId} {sz n : Nat} {v : Value} {cs : List Value} {G : Gr} (B : Buf e sz v n cs G) (hm : ∀ p ∈ G, p ∈ bl.flatten) : SlR h bl v n cs sz := by
  rcases B with ⟨rfl, rfl, rfl, rfl⟩ | ⟨b, cap, sp, rfl, rfl, l1, l2, hl, hl'⟩
  · exact ⟨none, 0, rfl, Nat.le_refl _, by omega, by simp, fun h => absurd h (by omega)⟩
  · refine ⟨_, cap, rfl, l1, l2, hl, fun _ => ⟨b, 0, rfl, Cells.of_at (cs := (cs ++ sp).toArray) (T := e) (fz := (0, 0)) (.inr (hm (b, .cells (cs ++ sp).toArray e (0, 0)) (by simp))) fun j hj => ?_⟩⟩
    simp [List.getElem?_append_left hj]
theorem Buf.nil (e : TypeId) (sz : Nat) : Buf e sz (.slice none 0 0) 0 [] [] := .inl ⟨rfl, rfl, rfl, rfl⟩
theorem Buf.lit {e : TypeId} {sz n b : Nat} {cs : List Value} (hl : cs.length = n * sz) (hn : n ≤ 9223372036854775807) : Buf e sz (.slice (some ⟨b, 0, none⟩) n n) n cs [(b, .cells (List.toArray cs) e (0, 0))] :=
  .inr ⟨b, n, [], rfl, by simp, Nat.le_refl _, hn, hl, by simpa using hl⟩

/-! ### append -/
theorem growBy_le {newLen : Nat} : ∀ (r c : Nat), c < newLen → Builtin.growBy newLen r c ≤ newLen + (newLen + 768) / 4
  | 0, c, h => by simp only [Builtin.growBy]; omega
  | r + 1, c, h => by
    simp only [Builtin.growBy]
    rw [if_neg (by omega)]
    rcases Nat.lt_or_ge (c + (c + 768) / 4) newLen with h1 | h1
    · exact growBy_le r _ h1
    · cases r with
      | zero => simp only [Builtin.growBy]; omega
      | succ r => simp only [Builtin.growBy]; rw [if_pos h1]; omega
theorem nextcap_le {newLen oldCap : Nat} (h : oldCap < newLen) : Builtin.nextslicecap newLen oldCap ≤ 2 * newLen + 200 := by
  unfold Builtin.nextslicecap
  split
  · omega
  · split
    · omega
    · have := growBy_le 4 oldCap h; omega

def notInt : TypeDesc → Bool
  | .int _ => false
  | _ => true
theorem append_in {t t' e : TypeId} {i : TypeInfo} {d' : TypeDesc} {b off n cap m : Nat} {u : Value} {ds l : List Value} {T tt : TypeId} (hu : P.underlying t = some (.slice e)) (hu' : P.underlying t' = some d') (hn : notInt d' = true)
    (hi : P.info? e = some i) {w : World} (hk : Knows h bl w) (hs : SlR h bl u m ds i.size) (hle : n + m ≤ cap) (hb : w.heap[b]? = some (.cells l.toArray T (0, 0))) (hlen : off + (n + m) * i.size ≤ l.length) (h1 : ones ds = true) :
    ∃ w', (Builtin.append_ #[t, t'] tt #[.slice (some ⟨b, off, none⟩) n cap, u]).run P w = .ok (.slice (some ⟨b, off, none⟩) (n + m) cap) w' ∧
      w'.heap[b]? = some (.cells (putAt l (off + n * i.size) ds).toArray T (0, 0)) ∧ w'.heap.size = w.heap.size ∧ (∀ k, k ≠ b → w'.heap[k]? = w.heap[k]?) ∧ w'.tape = w.tape ∧ w'.os = w.os ∧ w'.output = w.output := by
  have hds : ds.length = m * i.size := by obtain ⟨_, _, _, _, _, hl, _⟩ := hs; exact hl
  have hp : off + n * i.size + ds.length ≤ l.length := by rw [hds]; rw [Nat.add_mul] at hlen; omega
  obtain ⟨w', e1, r⟩ := run_storeCells P (b := b) (T := T) (off := off + n * i.size) (i := 0) (w := w) (PutR.at_ hp) h1 hb
  refine ⟨w', ?_, r⟩
  have hf := run_first (P := P) hs hk (Nat.le_refl m)
  have ht : ds.take (m * i.size) = ds := List.take_of_length_le (by omega)
  rw [ht] at hf
  cases d' <;> first
    | (simp only [notInt] at hn; cases hn; done)
    | simp only [Builtin.append_, List.getElem?_toArray, List.getElem?_cons_zero, List.getElem?_cons_succ, Sem.run_bind, run_under w hu, run_under w hu', Result.andThen_ok, run_size w hi, Sem.run_pure, Bool.false_eq_true, if_false, run_lenOf hs,
        hle, if_true, Bool.not_false, hf, add_none, e1]

theorem E_append_in {t t' e : TypeId} {i : TypeInfo} {d' : TypeDesc} {x y : Operand} {b off n cap m : Nat} {u : Value} {ds l : List Value} {T : TypeId} {blR : Bl} (hlt : Nat.blt d N = true)
    (hu : P.underlying t = some (.slice e)) (hu' : P.underlying t' = some d') (hn : notInt d' = true) (hi : P.info? e = some i)
    (hx : ev σ x = some (.slice (some ⟨b, off, none⟩) n cap)) (hy : ev σ y = some u) (hs : SlR h bl u m ds i.size) (hle : n + m ≤ cap) (hb : Pick bl [(b, .cells l.toArray T (0, 0))] blR)
    (hlen : off + (n + m) * i.size ≤ l.length) (h1 : ones ds = true) :
    Eff X P N ⟨some d, .call { callee := .builtin .append, args := List.toArray [x, y], argTypes := List.toArray [t, t'] }, ty, pos, aft, g⟩ σ h bl
      (PVal σ h ([(b, .cells (putAt l (off + n * i.size) ds).toArray T (0, 0))] :: blR) d (.slice (some ⟨b, off, none⟩) (n + m) cap)) := by
  intro a w ha hr
  have hr1 := hr.perm hb.perm
  have hbw := (hr1.trk (b, .cells l.toArray T (0, 0)) (by simp)).1
  obtain ⟨w', e1, hb', hs', ho, r1, r2, r3⟩ := append_in (tt := ty) hu hu' hn hi hr.knows hs hle hbw hlen h1
  have : (execOp a.eval ⟨some d, .call { callee := .builtin .append, args := List.toArray [x, y], argTypes := List.toArray [t, t'] }, ty, pos, aft, g⟩).run P w = .ok (.value (.slice (some ⟨b, off, none⟩) (n + m) cap)) w' := by
    simp only [execOp, resolve, invoke, builtin, List.map_toArray, List.map_cons, List.map_nil, ha.eval hx, ha.eval hy, Sem.run_bind, Sem.run_pure, Result.andThen_ok, e1]
  rw [Oper.wp, this, Oper.upon_value]
  exact ⟨_, _, _, ⟨rfl, rfl, rfl⟩, ha.put (Nat.le_of_ble_eq_true hlt) _, hr1.write UpdG.here hb' hs' ho r1 r2 r3⟩

/-- What a new array is filled up with. -/
def fillC (z : Value) (k : Nat) : List Value := (Builtin.zeroCells z.cells k).toList
theorem fillC_length {z : Value} {k sz : Nat} (hz : z.cells.size = sz) : (fillC z k).length = k * sz := by
  simp [fillC, Builtin.zeroCells, hz]

theorem append_new {t t' e : TypeId} {i : TypeInfo} {d' : TypeDesc} {z : Value} {n cap m : Nat} {v u : Value} {A : Option Addr} {cs ds : List Value} {tt : TypeId} (hu : P.underlying t = some (.slice e)) (hu' : P.underlying t' = some d') (hn : notInt d' = true)
    (hi : P.info? e = some i) (hz : i.zero = some z) (hb : i.bytes ≠ 0) {w : World} (hk : Knows h bl w) (hv : v = .slice A n cap) (hr : SlR h bl v n cs i.size) (hs : SlR h bl u m ds i.size) (hle : cap < n + m) (hsz : (2 * (n + m) + 200) * i.bytes ≤ 281474976710656) :
    ∃ cap', n + m ≤ cap' ∧ cap' ≤ 9223372036854775807 ∧ (Builtin.append_ #[t, t'] tt #[v, u]).run P w = .ok (.slice (some ⟨w.heap.size, 0, none⟩) (n + m) cap')
      { w with drawn := w.drawn + 1, heap := w.heap.push (.cells (List.toArray (cs ++ ds ++ fillC z (cap' - (n + m)))) e) } := by
  subst hv
  have hcs : cs.length = n * i.size := by obtain ⟨_, _, _, _, _, hl, _⟩ := hr; exact hl
  have hds : ds.length = m * i.size := by obtain ⟨_, _, _, _, _, hl, _⟩ := hs; exact hl
  have hbig : n + m < 2 ^ 63 := by
    have h1 : (2 * (n + m) + 200) * 1 ≤ (2 * (n + m) + 200) * i.bytes := Nat.mul_le_mul_left _ (Nat.pos_of_ne_zero hb)
    omega
  let cap' := (n + m) + (w.tape w.drawn (.appendCap (n + m) cap e)) % (2 ^ 63 - (n + m))
  have hmod : (w.tape w.drawn (.appendCap (n + m) cap e)) % (2 ^ 63 - (n + m)) < 2 ^ 63 - (n + m) := Nat.mod_lt _ (by omega)
  refine ⟨cap', by omega, by simp only [cap']; omega, ?_⟩
  have hk1 : Knows h bl { w with drawn := w.drawn + 1 } := hk
  have f1 := run_first (P := P) hr hk1 (Nat.le_refl n)
  have f2 := run_first (P := P) hs hk1 (Nat.le_refl m)
  rw [List.take_of_length_le (by omega)] at f1 f2
  have hnc : ¬ (Builtin.nextslicecap (n + m) cap * i.bytes > 2 ^ 48) := by
    have h1 := nextcap_le hle
    have h2 := Nat.mul_le_mul_right i.bytes h1
    omega
  have hch : (choose (.appendCap (n + m) cap e)).run P w = .ok cap' { w with drawn := w.drawn + 1 } := by
    simp [choose, Sem.run, Question.forced, Question.cut, cap']
  have hroom : ∀ k (w : World), (askRoom k).run P w = .ok () w := by
    intro k w
    unfold askRoom
    split
    · simp [mark, Sem.run]
    · rfl
  have hnle : ¬ (n + m ≤ cap) := by omega
  have hE : cs.toArray ++ ds.toArray ++ Builtin.zeroCells z.cells (cap' - (n + m)) = List.toArray (cs ++ ds ++ fillC z (cap' - (n + m))) := by
    apply Array.ext'; simp [fillC]
  cases d' <;> first
    | (simp only [notInt] at hn; cases hn; done)
    | (simp only [Builtin.append_, List.getElem?_toArray, List.getElem?_cons_zero, List.getElem?_cons_succ, Sem.run_bind, run_under w hu, run_under w hu', Result.andThen_ok, run_size w hi, Sem.run_pure, Bool.false_eq_true, if_false, run_lenOf hs,
        hnle, Bool.not_false, if_true, run_tinfo w hi, hb, false_or, and_false, hnc, hch, hroom, f1, f2, zeroValue, run_tinfo _ hi, hz, run_new]
       rw [hE])

theorem subB_tail (G : Gr) (l : Bl) : SubB (G :: l) l := by
  induction l generalizing G with
  | nil => exact .nil
  | cons y l ih => exact .cons (.there .here) (ih G)

theorem append_nil {t t' e : TypeId} {i : TypeInfo} {d' : TypeDesc} {u : Value} {tt : TypeId} (hu : P.underlying t = some (.slice e)) (hu' : P.underlying t' = some d') (hn : notInt d' = true)
    (hi : P.info? e = some i) {w : World} (hk : Knows h bl w) (hs : SlR h bl u 0 [] i.size) : (Builtin.append_ #[t, t'] tt #[.slice none 0 0, u]).run P w = .ok (.slice none 0 0) w := by
  have hf := run_first (P := P) hs hk (Nat.le_refl 0)
  cases d' <;> first
    | (simp only [notInt] at hn; cases hn; done)
    | simp only [Builtin.append_, List.getElem?_toArray, List.getElem?_cons_zero, List.getElem?_cons_succ, Sem.run_bind, run_under w hu, run_under w hu', Result.andThen_ok, run_size w hi, Sem.run_pure, Bool.false_eq_true, if_false, run_lenOf hs,
        Nat.zero_add, Nat.le_refl, if_true, Bool.not_false, hf]

def PApp (X : Cx) (e : TypeId) (sz : Nat) (σ : List (Nat × Value)) (h : Hp) (blR : Bl) (d n : Nat) (cs : List Value) (σ' : List (Nat × Value)) (h' : Hp) (bl' : Bl) : Prop :=
  ∃ v G, Buf e sz v n cs G ∧ σ' = (d, v) :: σ ∧ h = h' ∧ bl' = G :: blR

/-- append onto what is owned. -/
theorem E_append {t t' e : TypeId} {i : TypeInfo} {d' : TypeDesc} {z : Value} {x y : Operand} {n m : Nat} {v u : Value} {cs ds : List Value} {G : Gr} {blR : Bl} (hlt : Nat.blt d N = true)
    (hu : P.underlying t = some (.slice e)) (hu' : P.underlying t' = some d') (hn : notInt d' = true) (hi : P.info? e = some i) (hz : i.zero = some z) (hzs : z.cells.size = i.size) (hb : Nat.beq i.bytes 0 = false)
    (hx : ev σ x = some v) (hy : ev σ y = some u) (hB : Buf e i.size v n cs G) (hG : Pick bl G blR) (hs : SlR h bl u m ds i.size) (h1 : ones ds = true) (hsz : (2 * (n + m) + 200) * i.bytes ≤ 281474976710656) :
    Eff X P N ⟨some d, .call { callee := .builtin .append, args := List.toArray [x, y], argTypes := List.toArray [t, t'] }, ty, pos, aft, g⟩ σ h bl (PApp X e i.size σ h blR d (n + m) (cs ++ ds)) := by
  intro a w ha hr
  have hr1 := hr.perm hG.perm
  have hGm : ∀ p ∈ G, p ∈ bl.flatten := fun p hp => hG.perm.flatten.mem_iff.2 (List.mem_append.2 (.inl hp))
  have hds : ds.length = m * i.size := by obtain ⟨_, _, _, _, _, hl, _⟩ := hs; exact hl
  have hb' : i.bytes ≠ 0 := fun e => by rw [e] at hb; cases hb
  have hex : ∀ {r w'}, (Builtin.append_ #[t, t'] ty #[v, u]).run P w = .ok r w' → (execOp a.eval ⟨some d, .call { callee := .builtin .append, args := List.toArray [x, y], argTypes := List.toArray [t, t'] }, ty, pos, aft, g⟩).run P w = .ok (.value r) w' := by
    intro r w' e1
    simp only [execOp, resolve, invoke, builtin, List.map_toArray, List.map_cons, List.map_nil, ha.eval hx, ha.eval hy, Sem.run_bind, Sem.run_pure, Result.andThen_ok, e1]
  have hrd := Buf.reads (h := h) (bl := bl) hB hGm
  have grow : ∀ A cap, v = .slice A n cap → cap < n + m → (Oper.wp P ⟨some d, .call { callee := .builtin .append, args := List.toArray [x, y], argTypes := List.toArray [t, t'] }, ty, pos, aft, g⟩ a w
      (fun a' w' => ∃ σ' h' bl', PApp X e i.size σ h blR d (n + m) (cs ++ ds) σ' h' bl' ∧ Fr N σ' a' ∧ Rel X h' bl' w') Bot) := by
    intro A cap hv hlt'
    obtain ⟨cap', l1, l2, e1⟩ := append_new (tt := ty) hu hu' hn hi hz hb' hr.knows hv hrd hs hlt' hsz
    rw [Oper.wp, hex e1, Oper.upon_value]
    have hcs : cs.length = n * i.size := by obtain ⟨_, _, _, _, _, hl, _⟩ := hrd; exact hl
    refine ⟨_, _, _, ⟨_, [(w.heap.size, .cells (List.toArray (cs ++ ds ++ fillC z (cap' - (n + m)))) e (0, 0))], .inr ⟨_, cap', fillC z (cap' - (n + m)), rfl, rfl, l1, l2, ?_, ?_⟩, rfl, rfl, rfl⟩, ha.put (Nat.le_of_ble_eq_true hlt) _, ?_⟩
    · simp [hcs, hds, Nat.add_mul]
    · simp only [List.length_append, hcs, hds, fillC_length hzs]
      rw [← Nat.add_mul, ← Nat.add_mul]; congr 1; omega
    · have r1 : Rel X h (G :: blR) { w with drawn := w.drawn + 1 } := hr1.drew _
      have r2 := r1.alloc (.cells (List.toArray (cs ++ ds ++ fillC z (cap' - (n + m)))) e)
      exact r2.sub (.cons .here (subB_tail G blR))
  have hex' := @hex
  rcases hB with ⟨rfl, rfl, rfl, rfl⟩ | ⟨b, cap, sp, rfl, rfl, l1, l2, hl, hl'⟩
  · rcases Nat.eq_zero_or_pos m with hm | hm
    · -- nothing onto nothing
      subst hm
      have hds0 : ds = [] := List.eq_nil_of_length_eq_zero (by simpa using hds)
      subst hds0
      have e1 := append_nil (P := P) (tt := ty) hu hu' hn hi hr.knows hs
      rw [Oper.wp, hex e1, Oper.upon_value]
      exact ⟨_, _, _, ⟨_, [], .inl ⟨rfl, rfl, rfl, rfl⟩, rfl, rfl, rfl⟩, ha.put (Nat.le_of_ble_eq_true hlt) _, hr1⟩
    · exact grow none 0 rfl (by omega)
  · rcases Nat.lt_or_ge cap (n + m) with hc | hc
    · exact grow _ cap rfl hc
    · have hbw := (hr1.trk (b, .cells (List.toArray (cs ++ sp)) e (0, 0)) (by simp)).1
      have hlen : 0 + (n + m) * i.size ≤ (cs ++ sp).length := by
        rw [hl', Nat.zero_add]; exact Nat.mul_le_mul_right _ hc
      obtain ⟨w', e1, hb2, hs', ho, r1, r2, r3⟩ := append_in (tt := ty) hu hu' hn hi hr.knows hs hc hbw hlen h1
      rw [Oper.wp, hex e1, Oper.upon_value]
      have hput : putAt (cs ++ sp) (0 + n * i.size) ds = (cs ++ ds) ++ sp.drop ds.length := by
        simp only [putAt, Nat.zero_add, ← hl]
        simp
      rw [hput] at hb2
      have hlen2 := putAt_length (l := cs ++ sp) (off := 0 + n * i.size) (vs := ds) (by rw [hds]; rw [Nat.add_mul] at hlen; omega)
      rw [hput] at hlen2
      refine ⟨_, _, _, ⟨_, [(b, .cells (List.toArray ((cs ++ ds) ++ sp.drop ds.length)) e (0, 0))], .inr ⟨b, cap, _, rfl, rfl, hc, l2, ?_, ?_⟩, rfl, rfl, rfl⟩, ha.put (Nat.le_of_ble_eq_true hlt) _, ?_⟩
      · simp [hl, hds, Nat.add_mul]
      · rw [hlen2, hl']
      · exact hr1.write UpdG.here hb2 hs' ho r1 r2 r3
end
end Go.Proofs.Ytdglignjoojimaa
