/- Texts of one proof, one behind the other: Sx1, Sx2, Sx3, Sx4, Sx5, Sx6, Sx7, Sx8, Sx9, Sx10, Sx11, Sx12, Sx13, Sx14, Sx15, Sx16, Sx17, Sx18, Sx19. No conditions. -/
import Derived.Tactics
import Derived.Tactics2
import Derived.KernelRfl
import Derived.RowKit3
import Derived.Orders
import Derived.ProofKit
/- A small program logic over the walk's rules: symbolic frames, tracked blocks, persistent knowledge of the heap. No conditions. -/
namespace Go.Proofs.Ytdglignjoojimaa

/-! ### 1. Frames -/

def look : List (Nat × Value) → Nat → Option Value
  | [], _ => none
  | (d, v) :: r, t => bif Nat.beq d t then some v else look r t

structure Fr (N : Nat) (σ : List (Nat × Value)) (a : Act) : Prop where
  defers : a.defers = []
  size : a.tmps.size = N
  at_ : ∀ t v, look σ t = some v → a.tmps[t]? = some v

def ev (σ : List (Nat × Value)) : Operand → Option Value
  | .tmp t => look σ t
  | .const v => some v
  | .global g => some (.pointer (some ⟨g, 0, none⟩))
  | .func f => some (.func (.func f) #[] #[])

theorem Fr.eval {N : Nat} {σ : List (Nat × Value)} {a : Act} (h : Fr N σ a) {x : Operand} {v : Value} (hx : ev σ x = some v) : a.eval x = v := by
  cases x with
  | tmp t =>
    have := h.at_ t v hx
    simp [Act.eval, Array.getD_eq_getD_getElem?, this]
  | const v' => simpa [ev, Act.eval] using hx
  | global g => simpa [ev, Act.eval] using hx
  | func f => simpa [ev, Act.eval] using hx

theorem look_cons (d : Nat) (v : Value) (r : List (Nat × Value)) (t : Nat) : look ((d, v) :: r) t = if d = t then some v else look r t := by
  simp only [look]
  by_cases h : d = t
  · subst h; simp
  · have : Nat.beq d t = false := by
      cases hb : Nat.beq d t with
      | false => rfl
      | true => exact absurd (Nat.eq_of_beq_eq_true hb) h
    simp [this, h]

theorem Fr.put {N : Nat} {σ : List (Nat × Value)} {a : Act} (h : Fr N σ a) {d : Nat} (hd : d < N) (v : Value) : Fr N ((d, v) :: σ) (a.put (some d) v) := by
  refine ⟨h.defers, by simp [Act.put, h.size], fun t u ht => ?_⟩
  rw [look_cons] at ht
  simp only [Act.put, Array.getElem?_setIfInBounds]
  by_cases e : d = t
  · subst e
    have : d < a.tmps.size := by rw [h.size]; exact hd
    simp at ht
    simp [this, ht]
  · simp only [e, if_false] at ht
    simp [e, h.at_ t u ht]

theorem Fr.put_none {N : Nat} {σ : List (Nat × Value)} {a : Act} (h : Fr N σ a) (v : Value) : Fr N σ (a.put none v) := h

/-- Every slot of the shorter frame is known in the longer one. -/
def SubF (σ : List (Nat × Value)) : List (Nat × Value) → Prop
  | [] => True
  | (t, v) :: r => look σ t = some v ∧ SubF σ r

theorem SubF.look {σ : List (Nat × Value)} : ∀ {σ' : List (Nat × Value)}, SubF σ σ' → ∀ t v, Ytdglignjoojimaa.look σ' t = some v → Ytdglignjoojimaa.look σ t = some v
  | [], _, t, v, h => by simp [Ytdglignjoojimaa.look] at h
  | (d, u) :: r, hs, t, v, h => by
    rw [look_cons] at h
    by_cases e : d = t
    · subst e; simp at h; subst h; exact hs.1
    · simp only [e, if_false] at h
      exact SubF.look hs.2 t v h

theorem Fr.sub {N : Nat} {σ σ' : List (Nat × Value)} {a : Act} (h : Fr N σ a) (hs : SubF σ σ') : Fr N σ' a :=
  ⟨h.defers, h.size, fun t v ht => h.at_ t v (hs.look t v ht)⟩

/-! ### 2. The heap -/

abbrev Hp := Nat → Option Obj
abbrev Gr := List (Nat × Obj)
abbrev Bl := List Gr

def Knows (h : Hp) (bl : Bl) (w : World) : Prop := (∀ b o, h b = some o → w.heap[b]? = some o) ∧ ∀ p ∈ bl.flatten, w.heap[p.1]? = some p.2

/-- The world in which a call began, what it may change, and what it knew. -/
structure Cx where
  w0 : World
  D : Nat → Prop
  h0 : Hp

structure Rel (X : Cx) (h : Hp) (bl : Bl) (w : World) : Prop where
  size : X.w0.heap.size ≤ w.heap.size
  frame : ∀ b, b < X.w0.heap.size → ¬ X.D b → w.heap[b]? = X.w0.heap[b]?
  tape : w.tape = X.w0.tape
  os : w.os = X.w0.os
  output : w.output = X.w0.output
  old : ∀ b o, X.h0 b = some o → h b = some o
  new : ∀ b o, h b = some o → X.h0 b = some o ∨ X.D b ∨ X.w0.heap.size ≤ b
  know : ∀ b o, h b = some o → w.heap[b]? = some o
  trk : ∀ p ∈ bl.flatten, w.heap[p.1]? = some p.2 ∧ h p.1 = none ∧ (X.D p.1 ∨ X.w0.heap.size ≤ p.1)
  nodup : (bl.flatten.map Prod.fst).Nodup

theorem Rel.knows {X : Cx} {h : Hp} {bl : Bl} {w : World} (r : Rel X h bl w) : Knows h bl w := ⟨r.know, fun p hp => (r.trk p hp).1⟩

theorem lt_of_some {w : World} {b : Nat} {o : Obj} (h : w.heap[b]? = some o) : b < w.heap.size := by
  rcases Nat.lt_or_ge b w.heap.size with h' | h'
  · exact h'
  · simp [Array.getElem?_eq_none h'] at h

/-- The content of a tracked block. -/
inductive Has : Bl → Nat → Obj → Prop
  | here {b : Nat} {o : Obj} {l : Bl} : Has ([(b, o)] :: l) b o
  | there {x : Gr} {l : Bl} {b : Nat} {o : Obj} : Has l b o → Has (x :: l) b o

theorem Has.mem {bl : Bl} {b : Nat} {o : Obj} (h : Has bl b o) : (b, o) ∈ bl.flatten := by
  induction h with
  | here => simp
  | there _ ih => exact List.mem_append.2 (.inr ih)

/-- One group taken out. -/
inductive Pick : Bl → Gr → Bl → Prop
  | here {G : Gr} {l : Bl} : Pick (G :: l) G l
  | there {x : Gr} {l l' : Bl} {G : Gr} : Pick l G l' → Pick (x :: l) G (x :: l')

theorem Pick.perm {bl bl' : Bl} {G : Gr} (h : Pick bl G bl') : bl.Perm (G :: bl') := by
  induction h with
  | here => exact List.Perm.refl _
  | there _ ih => exact (List.Perm.cons _ ih).trans (List.Perm.swap _ _ _)

/-- One group has another content. -/
inductive UpdG : Bl → Gr → Gr → Bl → Prop
  | here {G G' : Gr} {l : Bl} : UpdG (G :: l) G G' (G' :: l)
  | there {x : Gr} {l l' : Bl} {G G' : Gr} : UpdG l G G' l' → UpdG (x :: l) G G' (x :: l')

theorem UpdG.perm {bl bl' : Bl} {G G' : Gr} (h : UpdG bl G G' bl') : ∃ r, bl.Perm (G :: r) ∧ bl'.Perm (G' :: r) := by
  induction h with
  | here => exact ⟨_, List.Perm.refl _, List.Perm.refl _⟩
  | there _ ih =>
    rename_i x l l' G G' _
    obtain ⟨r, h1, h2⟩ := ih
    exact ⟨x :: r, (h1.cons x).trans (List.Perm.swap _ _ _), (h2.cons x).trans (List.Perm.swap _ _ _)⟩

/-- Fewer groups, in whatever order. -/
inductive SubB : Bl → Bl → Prop
  | nil {l : Bl} : SubB l []
  | emp {l r : Bl} : SubB l r → SubB l ([] :: r)
  | cons {l l' r : Bl} {G : Gr} : Pick l G l' → SubB l' r → SubB l (G :: r)

theorem SubB.perm {bl bl' : Bl} (h : SubB bl bl') : ∃ r, bl.flatten.Perm (bl'.flatten ++ r) := by
  induction h with
  | nil => exact ⟨_, List.Perm.refl _⟩
  | emp _ ih => simpa using ih
  | cons hp _ ih =>
    obtain ⟨r, hr⟩ := ih
    refine ⟨r, hp.perm.flatten.trans ?_⟩
    simp only [List.flatten_cons, List.append_assoc]
    exact hr.append_left _

theorem SubB.refl : ∀ (bl : Bl), SubB bl bl
  | [] => .nil
  | _ :: r => .cons .here (SubB.refl r)

/-- Some groups are handed out, the others stay. -/
inductive Split : Bl → Bl → Bl → Prop
  | nil {l : Bl} : Split l [] l
  | cons {l l' r t : Bl} {G : Gr} : Pick l G l' → Split l' r t → Split l (G :: r) t

theorem Split.perm {bl bl' t : Bl} (h : Split bl bl' t) : bl.Perm (bl' ++ t) := by
  induction h with
  | nil => exact List.Perm.refl _
  | cons hp _ ih => exact hp.perm.trans (ih.cons _)

section
variable {X : Cx} {h : Hp} {bl bl' : Bl} {w : World}

theorem Rel.perm (r : Rel X h bl w) (hs : bl.Perm bl') : Rel X h bl' w :=
  ⟨r.size, r.frame, r.tape, r.os, r.output, r.old, r.new, r.know, fun p hp => r.trk p (hs.flatten.mem_iff.2 hp), (hs.flatten.map Prod.fst).nodup_iff.1 r.nodup⟩

theorem Rel.leftF {l : List (Nat × Obj)} (r : Rel X h bl w) (hs : bl.flatten.Perm (bl'.flatten ++ l)) : Rel X h bl' w := by
  have hn := (hs.map Prod.fst).nodup_iff.1 r.nodup
  rw [List.map_append] at hn
  exact ⟨r.size, r.frame, r.tape, r.os, r.output, r.old, r.new, r.know, fun p hp => r.trk p (hs.mem_iff.2 (List.mem_append.2 (.inl hp))), (List.nodup_append.1 hn).1⟩

theorem Rel.left {bl1 bl2 : Bl} (r : Rel X h (bl1 ++ bl2) w) : Rel X h bl1 w :=
  r.leftF (l := bl2.flatten) (by rw [List.flatten_append])

theorem Rel.sub (r : Rel X h bl w) (hs : SubB bl bl') : Rel X h bl' w := by
  obtain ⟨t, ht⟩ := hs.perm
  exact r.leftF ht

theorem Rel.drew (r : Rel X h bl w) (n : Nat) : Rel X h bl { w with drawn := n } :=
  ⟨r.size, r.frame, r.tape, r.os, r.output, r.old, r.new, r.know, r.trk, r.nodup⟩

/-- A new block. -/
theorem Rel.alloc (r : Rel X h bl w) (o : Obj) : Rel X h ([(w.heap.size, o)] :: bl) { w with heap := w.heap.push o } := by
  refine ⟨by simp; exact Nat.le_succ_of_le r.size, fun b hb hd => ?_, r.tape, r.os, r.output, r.old, r.new, fun b o' hb => ?_, fun p hp => ?_, ?_⟩
  · rw [← r.frame b hb hd]
    show (w.heap.push o)[b]? = _
    rw [Array.getElem?_push, if_neg (by have := r.size; omega)]
  · have := r.know b o' hb
    have hlt := lt_of_some this
    show (w.heap.push o)[b]? = _
    rw [Array.getElem?_push, if_neg (by omega)]; exact this
  · rcases List.mem_append.1 (show p ∈ [(w.heap.size, o)] ++ bl.flatten from hp) with hp | hp
    · simp only [List.mem_singleton] at hp
      subst hp
      refine ⟨by simp, ?_, .inr r.size⟩
      cases hh : h w.heap.size with
      | none => rfl
      | some o' => exact absurd (lt_of_some (r.know _ _ hh)) (by simp)
    · obtain ⟨h1, h2, h3⟩ := r.trk p hp
      have hlt := lt_of_some h1
      refine ⟨?_, h2, h3⟩
      show (w.heap.push o)[p.1]? = _
      rw [Array.getElem?_push, if_neg (by omega)]; exact h1
  · show (((w.heap.size, o) :: bl.flatten).map Prod.fst).Nodup
    simp only [List.map_cons, List.nodup_cons]
    refine ⟨fun hm => ?_, r.nodup⟩
    obtain ⟨q, hq, he⟩ := List.mem_map.1 hm
    have := lt_of_some (r.trk q hq).1
    omega

/-- A tracked block is written. -/
theorem Rel.write {w' : World} {b : Nat} {o o' : Obj} (r : Rel X h bl w) (hu : UpdG bl [(b, o)] [(b, o')] bl')
    (hb : w'.heap[b]? = some o') (hs : w'.heap.size = w.heap.size) (ho : ∀ k, k ≠ b → w'.heap[k]? = w.heap[k]?)
    (ht : w'.tape = w.tape) (hos : w'.os = w.os) (hout : w'.output = w.output) : Rel X h bl' w' := by
  obtain ⟨t, h1, h2⟩ := hu.perm
  have r1 := r.perm h1
  refine Rel.perm ?_ h2.symm
  obtain ⟨q1, q2, q3⟩ := r1.trk (b, o) (by simp)
  have hn := r1.nodup
  simp only [List.flatten_cons, List.cons_append, List.nil_append, List.map_cons, List.nodup_cons] at hn
  refine ⟨by rw [hs]; exact r.size, fun k hk hd => ?_, ht.trans r.tape, hos.trans r.os, hout.trans r.output, r.old, r.new, fun k o' hk => ?_, fun p hp => ?_, ?_⟩
  · rw [ho k ?_, r.frame k hk hd]
    rintro rfl
    rcases q3 with q3 | q3
    · exact hd q3
    · simp at q3; omega
  · rw [ho k ?_]; exact r.know k o' hk
    rintro rfl; simp at q2; rw [q2] at hk; cases hk
  · simp only [List.flatten_cons, List.cons_append, List.nil_append, List.mem_cons] at hp
    rcases hp with rfl | hp
    · exact ⟨hb, q2, q3⟩
    · obtain ⟨p1, p2, p3⟩ := r1.trk p (by simp only [List.flatten_cons, List.cons_append, List.nil_append, List.mem_cons]; exact .inr hp)
      refine ⟨?_, p2, p3⟩
      rw [ho p.1 fun e => hn.1 (List.mem_map.2 ⟨p, hp, e⟩)]; exact p1
  · simpa only [List.flatten_cons, List.cons_append, List.nil_append, List.map_cons, List.nodup_cons] using hn

def addH (h : Hp) : Gr → Hp
  | [] => h
  | (b, o) :: r => fun k => if k = b then some o else addH h r k

theorem addH_old : ∀ {h : Hp} {G : Gr} {k : Nat} {o : Obj}, addH h G k = some o → (k, o) ∈ G ∨ h k = some o
  | h, [], k, o, hk => .inr hk
  | h, (b, u) :: r, k, o, hk => by
    simp only [addH] at hk
    split at hk
    · rename_i e; subst e; cases hk; exact .inl (by simp)
    · rcases addH_old hk with h1 | h1
      · exact .inl (List.mem_cons_of_mem _ h1)
      · exact .inr h1
theorem addH_at : ∀ {h : Hp} {G : Gr} {k : Nat}, (∀ p ∈ G, p.1 ≠ k) → addH h G k = h k
  | h, [], k, _ => rfl
  | h, (b, u) :: r, k, hne => by
    simp only [addH]
    rw [if_neg (fun e => hne (b, u) (by simp) e.symm)]
    exact addH_at fun p hp => hne p (List.mem_cons_of_mem _ hp)

/-- A tracked group is from now on known for good. -/
theorem Rel.keep {G : Gr} (r : Rel X h (G :: bl) w) : Rel X (addH h G) bl w := by
  have hn := r.nodup
  rw [List.flatten_cons, List.map_append] at hn
  have hd := (List.nodup_append.1 hn).2.2
  have hG : ∀ p ∈ G, p ∈ (G :: bl).flatten := fun p hp => List.mem_append.2 (.inl hp)
  refine ⟨r.size, r.frame, r.tape, r.os, r.output, fun k o hk => ?_, fun k o hk => ?_, fun k o hk => ?_, fun p hp => ?_, (List.nodup_append.1 hn).2.1⟩
  · rw [addH_at]
    · exact r.old k o hk
    · intro p hp e
      have := (r.trk p (hG p hp)).2.1
      rw [e, r.old k o hk] at this; cases this
  · rcases addH_old hk with h1 | h1
    · exact .inr (r.trk _ (hG _ h1)).2.2
    · exact r.new k o h1
  · rcases addH_old hk with h1 | h1
    · exact (r.trk _ (hG _ h1)).1
    · exact r.know k o h1
  · obtain ⟨p1, p2, p3⟩ := r.trk p (List.mem_append.2 (.inr hp))
    refine ⟨p1, ?_, p3⟩
    rw [addH_at]
    · exact p2
    · intro q hq e
      exact hd q.1 (List.mem_map.2 ⟨q, hq, rfl⟩) p.1 (List.mem_map.2 ⟨p, hp, rfl⟩) e

/-- What was known stays known. -/
def Sub (h h' : Hp) : Prop := ∀ b o, h b = some o → h' b = some o
theorem Sub.refl (h : Hp) : Sub h h := fun _ _ k => k
theorem Sub.trans {h1 h2 h3 : Hp} (k : Sub h1 h2) (k' : Sub h2 h3) : Sub h1 h3 := fun b o e => k' b o (k b o e)

/-- Behind a call: what it got is what it made, all else stands. -/
theorem Rel.call {w' : World} {h' : Hp} {blA blR nb : Bl} (r : Rel X h bl w) (hs : Split bl blA blR) (k : Rel ⟨w, fun b => b ∈ blA.flatten.map Prod.fst, h⟩ h' nb w') :
    Rel X h' (nb ++ blR) w' := by
  have r1 := r.perm hs.perm
  have hn := r1.nodup
  rw [List.flatten_append, List.map_append] at hn
  have hA : ∀ p ∈ blA.flatten, p ∈ (blA ++ blR).flatten := fun p hp => by rw [List.flatten_append]; exact List.mem_append.2 (.inl hp)
  have hR : ∀ p ∈ blR.flatten, p ∈ (blA ++ blR).flatten := fun p hp => by rw [List.flatten_append]; exact List.mem_append.2 (.inr hp)
  have hAX : ∀ b, b ∈ blA.flatten.map Prod.fst → X.D b ∨ X.w0.heap.size ≤ b := by
    intro b hb
    obtain ⟨p, hp, rfl⟩ := List.mem_map.1 hb
    exact (r1.trk p (hA p hp)).2.2
  have hAR : ∀ b, b ∈ blA.flatten.map Prod.fst → b ∉ blR.flatten.map Prod.fst := fun b hb hb' => (List.nodup_append.1 hn).2.2 b hb b hb' rfl
  refine ⟨Nat.le_trans r.size k.size, fun b hb hd => ?_, k.tape.trans r.tape, k.os.trans r.os, k.output.trans r.output, fun b o hb => k.old b o (r.old b o hb), fun b o hb => ?_, k.know, fun p hp => ?_, ?_⟩
  · have hb' : b ∉ blA.flatten.map Prod.fst := fun hm => by
      rcases hAX b hm with e | e
      · exact hd e
      · omega
    rw [k.frame b (Nat.lt_of_lt_of_le hb r.size) hb', r.frame b hb hd]
  · rcases k.new b o hb with e | e | e
    · exact r.new b o e
    · exact .inr (hAX b e)
    · exact .inr (.inr (Nat.le_trans r.size e))
  · rw [List.flatten_append] at hp
    rcases List.mem_append.1 hp with hp | hp
    · obtain ⟨p1, p2, p3⟩ := k.trk p hp
      refine ⟨p1, p2, ?_⟩
      rcases p3 with e | e
      · exact hAX _ e
      · exact .inr (Nat.le_trans r.size e)
    · obtain ⟨p1, p2, p3⟩ := r1.trk p (hR p hp)
      have hm : p.1 ∉ blA.flatten.map Prod.fst := fun hm => hAR _ hm (List.mem_map.2 ⟨p, hp, rfl⟩)
      refine ⟨by rw [k.frame p.1 (lt_of_some p1) hm]; exact p1, ?_, p3⟩
      cases hh : h' p.1 with
      | none => rfl
      | some o =>
        rcases k.new _ _ hh with e | e | e
        · rw [show h p.1 = some o from e] at p2; cases p2
        · exact absurd e hm
        · exact absurd (lt_of_some p1) (by simp at e; omega)
  · rw [List.flatten_append, List.map_append]
    refine List.nodup_append.2 ⟨k.nodup, (List.nodup_append.1 hn).2.1, ?_⟩
    rintro b hb c hc rfl
    obtain ⟨p, hp, rfl⟩ := List.mem_map.1 hb
    rcases (k.trk p hp).2.2 with e | e
    · exact hAR _ e hc
    · obtain ⟨q, hq, he⟩ := List.mem_map.1 hc
      have := lt_of_some (r1.trk q (hR q hq)).1
      simp at e
      omega
end
end Go.Proofs.Ytdglignjoojimaa

/- The judgements over code, operations and exits, and the rules of control. No conditions. -/
namespace Go.Proofs.Ytdglignjoojimaa

def V (X : Cx) (P : Program) (N : Nat) (Q : Exit → Act → World → Prop) (c : Code) (σ : List (Nat × Value)) (h : Hp) (bl : Bl) : Prop :=
  ∀ a w, Fr N σ a → Rel X h bl w → c.wp P Q a w
def VL (X : Cx) (P : Program) (N : Nat) (ops : Array Oper) (Q : Exit → Act → World → Prop) (l : List Oper) (σ : List (Nat × Value)) (h : Hp) (bl : Bl) : Prop :=
  ∀ a w, Fr N σ a → Rel X h bl w → wpList P ops Q l a w
def VQ (X : Cx) (N : Nat) (Q : Exit → Act → World → Prop) (e : Exit) (σ : List (Nat × Value)) (h : Hp) (bl : Bl) : Prop :=
  ∀ a w, Fr N σ a → Rel X h bl w → Q e a w

section
variable {X : Cx} {P : Program} {N : Nat} {Q : Exit → Act → World → Prop} {σ : List (Nat × Value)} {h : Hp} {bl : Bl}

theorem V_seq {x y : Code} (k : V X P N (Exit.then (y.wp P Q) Q) x σ h bl) : V X P N Q (.seq x y) σ h bl :=
  fun a w ha hw => wp_seq (k a w ha hw)
theorem VQ_then {y : Code} (k : V X P N Q y σ h bl) : VQ X N (Exit.then (y.wp P Q) Q) .normal σ h bl := k
theorem VQ_then_ret {K : Act → World → Prop} (k : VQ X N Q .ret σ h bl) : VQ X N (Exit.then K Q) .ret σ h bl := k
theorem VQ_then_exit {K : Act → World → Prop} {id : Nat} (k : VQ X N Q (.exit id) σ h bl) : VQ X N (Exit.then K Q) (.exit id) σ h bl := k
theorem V_block {id : Nat} {c : Code} (k : V X P N (Exit.inBlock id Q) c σ h bl) : V X P N Q (.block id c) σ h bl :=
  fun a w ha hw => wp_block (k a w ha hw)
theorem VQ_block_normal {id : Nat} (k : VQ X N Q .normal σ h bl) : VQ X N (Exit.inBlock id Q) .normal σ h bl := k
theorem VQ_block_ret {id : Nat} (k : VQ X N Q .ret σ h bl) : VQ X N (Exit.inBlock id Q) .ret σ h bl := k
theorem VQ_block_exit {id : Nat} (k : VQ X N Q .normal σ h bl) : VQ X N (Exit.inBlock id Q) (.exit id) σ h bl := by
  intro a w ha hw
  simp only [Exit.inBlock, if_true]
  exact k a w ha hw
theorem VQ_block_past {id id' : Nat} (hne : Nat.beq id' id = false) (k : VQ X N Q (.exit id') σ h bl) : VQ X N (Exit.inBlock id Q) (.exit id') σ h bl := by
  intro a w ha hw
  have : id' ≠ id := fun e => by subst e; simp at hne
  simp only [Exit.inBlock, this, if_false]
  exact k a w ha hw
theorem V_cond {c : Operand} {x y : Code} {t : Bool} (hc : ev σ c = some (.bool t)) (ht : t = true → V X P N Q x σ h bl) (hf : t = false → V X P N Q y σ h bl) :
    V X P N Q (.cond c x y) σ h bl :=
  fun a w ha hw => wp_cond_split (ha.eval hc) (fun e => ht e a w ha hw) (fun e => hf e a w ha hw)
theorem V_cond_true {c : Operand} {x y : Code} (hc : ev σ c = some (.bool true)) (k : V X P N Q x σ h bl) : V X P N Q (.cond c x y) σ h bl :=
  fun a w ha hw => wp_cond_true (ha.eval hc) (k a w ha hw)
theorem V_cond_false {c : Operand} {x y : Code} (hc : ev σ c = some (.bool false)) (k : V X P N Q y σ h bl) : V X P N Q (.cond c x y) σ h bl :=
  fun a w ha hw => wp_cond_false (ha.eval hc) (k a w ha hw)
theorem V_ret (k : VQ X N Q .ret σ h bl) : V X P N Q .ret σ h bl := fun a w ha hw => wp_ret (k a w ha hw)
theorem V_skip (k : VQ X N Q .normal σ h bl) : V X P N Q .skip σ h bl := fun a w ha hw => wp_skip (k a w ha hw)
theorem V_exit {id : Nat} (k : VQ X N Q (.exit id) σ h bl) : V X P N Q (.exit id) σ h bl := fun a w ha hw => wp_exit (k a w ha hw)
theorem V_label {l : Nat} (k : VQ X N Q .normal σ h bl) : V X P N Q (.label l) σ h bl := fun a w ha hw => wp_label (k a w ha hw)
theorem V_region {id : Nat} {l : List Oper} (k : VL X P N l.toArray Q l σ h bl) : V X P N Q (.region id l.toArray false) σ h bl :=
  fun a w ha hw => wp_region_lit (k a w ha hw)
theorem VL_nil {ops : Array Oper} (k : VQ X N Q .normal σ h bl) : VL X P N ops Q [] σ h bl := k

theorem V_weak {c : Code} {σ' : List (Nat × Value)} {bl' : Bl} (hs : SubF σ σ') (hb : SubB bl bl') (k : V X P N Q c σ' h bl') : V X P N Q c σ h bl :=
  fun a w ha hw => k a w (ha.sub hs) (hw.sub hb)
theorem V_keep {c : Code} {G : Gr} {bl' : Bl} (hp : Pick bl G bl') (k : V X P N Q c σ (addH h G) bl') : V X P N Q c σ h bl :=
  fun a w ha hw => k a w ha (hw.perm hp.perm).keep
theorem VL_keep {ops : Array Oper} {l : List Oper} {G : Gr} {bl' : Bl} (hp : Pick bl G bl') (k : VL X P N ops Q l σ (addH h G) bl') : VL X P N ops Q l σ h bl :=
  fun a w ha hw => k a w ha (hw.perm hp.perm).keep
theorem VQ_keep {e : Exit} {G : Gr} {bl' : Bl} (hp : Pick bl G bl') (k : VQ X N Q e σ (addH h G) bl') : VQ X N Q e σ h bl :=
  fun a w ha hw => k a w ha (hw.perm hp.perm).keep
theorem VL_weak {ops : Array Oper} {l : List Oper} {σ' : List (Nat × Value)} {bl' : Bl} (hs : SubF σ σ') (hb : SubB bl bl') (k : VL X P N ops Q l σ' h bl') : VL X P N ops Q l σ h bl :=
  fun a w ha hw => k a w (ha.sub hs) (hw.sub hb)

/-- What the rest of a loop, or of a sequence, is reached with: one of a family of states. -/
def Mid {ι : Type} (X : Cx) (N : Nat) (pre : ι → Prop) (S : ι → List (Nat × Value)) (H : ι → Hp) (B : ι → Bl) (a : Act) (w : World) : Prop :=
  ∃ j, pre j ∧ Fr N (S j) a ∧ Rel X (H j) (B j) w

theorem VQ_mid {ι : Type} {pre : ι → Prop} {S : ι → List (Nat × Value)} {H : ι → Hp} {B : ι → Bl} (j : ι) (hp : pre j) (hs : SubF σ (S j)) (hh : h = H j) (hb : SubB bl (B j)) :
    VQ X N (Exit.then (Mid X N pre S H B) Q) .normal σ h bl :=
  fun _ _ ha hw => ⟨j, hp, ha.sub hs, hh ▸ hw.sub hb⟩

theorem V_seq_mid {ι : Type} {x y : Code} (pre : ι → Prop) (S : ι → List (Nat × Value)) (H : ι → Hp) (B : ι → Bl)
    (k : V X P N (Exit.then (Mid X N pre S H B) Q) x σ h bl) (k' : ∀ j, pre j → V X P N Q y (S j) (H j) (B j)) : V X P N Q (.seq x y) σ h bl := by
  intro a w ha hw
  refine wp_seq (Code.wp_mono ?_ (k a w ha hw))
  intro e a' w' hq
  cases e with
  | normal => obtain ⟨j, hp, hf, hr⟩ := hq; exact k' j hp a' w' hf hr
  | _ => exact hq

theorem V_loop {ι : Type} {body : Code} (m : ι → Nat) (pre : ι → Prop) (S : ι → List (Nat × Value)) (H : ι → Hp) (B : ι → Bl)
    (i0 : ι) (hp : pre i0) (hs : SubF σ (S i0)) (hh : h = H i0) (hb : SubB bl (B i0))
    (round : ∀ i, pre i → V X P N (Exit.then (Mid X N (fun j => pre j ∧ m j < m i) S H B) Q) body (S i) (H i) (B i)) : V X P N Q (.loop body) σ h bl := by
  intro a w ha hw b k cs
  have key : ∀ n i, m i = n → pre i → ∀ a w, Fr N (S i) a → Rel X (H i) (B i) w →
      ∃ e a' w', Q e a' w' ∧ Arrives P (lone (b.at a (.code body :: .inLoop body :: k)) cs w) b k cs e a' w' := by
    intro n
    induction n using Nat.strongRecOn with
    | _ n ih =>
      intro i hn hpi a w ha hw
      obtain ⟨e, a₁, w₁, hq, harr⟩ := round i hpi a w ha hw b (.inLoop body :: k) cs
      cases e with
      | normal =>
        obtain ⟨j, ⟨hpj, hlt⟩, hf, hr⟩ := hq
        obtain ⟨e₂, a₂, w₂, hq₂, harr₂⟩ := ih (m j) (hn ▸ hlt) j rfl hpj a₁ w₁ hf hr
        exact ⟨e₂, a₂, w₂, hq₂, .of_steps (Steps.trans harr (.one step_inLoop)) harr₂⟩
      | exit id => exact ⟨_, a₁, w₁, hq, .pass (x := .inLoop body) rfl (fun _ _ => .inl (by simp)) harr⟩
      | goto l => exact ⟨_, a₁, w₁, hq, .pass (x := .inLoop body) rfl (fun _ _ => .inl (by simp)) harr⟩
      | ret => exact ⟨_, a₁, w₁, hq, .pass (x := .inLoop body) rfl (fun _ _ => .inl (by simp)) harr⟩
      | panic ch => exact ⟨_, a₁, w₁, hq, .pass (x := .inLoop body) rfl (fun _ _ => .inl (by simp)) harr⟩
      | outgrown => exact ⟨_, a₁, w₁, hq, .pass (x := .inLoop body) rfl (fun _ _ => .inl (by simp)) harr⟩
  obtain ⟨e, a', w', hq, harr⟩ := key _ i0 rfl hp a w (ha.sub hs) (hh ▸ hw.sub hb)
  exact ⟨e, a', w', hq, .of_steps (.one step_loop) harr⟩
end
end Go.Proofs.Ytdglignjoojimaa

/- One lemma an operation, for those that leave the world alone. No conditions. -/
set_option linter.unusedVariables false
set_option linter.unusedSimpArgs false
namespace Go.Proofs.Ytdglignjoojimaa

def wantd (ops : Array Oper) (σ : List (Nat × Value)) (o : Oper) : Option Bool :=
  match o.guard with
  | none => some true
  | some (j, want) =>
    match (ops[j]?).bind (·.dst) with
    | none => some false
    | some t =>
      match look σ t with
      | some (.bool b) => some (b == want)
      | some (.tuple _) => some false
      | _ => none

theorem wanted_of {N : Nat} {ops : Array Oper} {σ : List (Nat × Value)} {o : Oper} {a : Act} {t : Bool} (ha : Fr N σ a) (h : wantd ops σ o = some t) :
    Region.wanted o (yielded ops a.tmps) = t := by
  unfold wantd at h
  unfold Region.wanted
  cases hg : o.guard with
  | none => simp only [hg] at h ⊢; exact Option.some.inj h
  | some p =>
    obtain ⟨j, want⟩ := p
    simp only [hg] at h ⊢
    unfold yielded
    cases hd : (ops[j]?).bind (·.dst) with
    | none =>
      simp only [hd, Option.bind_none] at h ⊢
      have := Option.some.inj h
      subst this
      simp
    | some s =>
      simp only [hd, Option.bind_some] at h ⊢
      cases hl : look σ s with
      | none => simp [hl] at h
      | some u =>
        have hu := ha.at_ s u hl
        rw [hu]
        cases u <;> simp only [hl] at h <;> first | (have h := Option.some.inj h; subst h; simp; done) | cases h

/-- The operation yields v and leaves the world alone, in whatever world these things are known. -/
def Still (P : Program) (N : Nat) (σ : List (Nat × Value)) (h : Hp) (bl : Bl) (o : Oper) (v : Value) : Prop :=
  ∀ a w, Fr N σ a → Knows h bl w → (execOp a.eval o).run P w = .ok (.value v) w

section
variable {X : Cx} {P : Program} {N : Nat} {ops : Array Oper} {Q : Exit → Act → World → Prop} {σ : List (Nat × Value)} {h : Hp} {bl : Bl} {rest : List Oper}

theorem wpList_run {o : Oper} {a : Act} {w : World} (hw : Region.wanted o (yielded ops a.tmps) = true) (k : o.wp P a w (wpList P ops Q rest) Q) : wpList P ops Q (o :: rest) a w := by
  unfold wpList
  rw [if_pos hw]
  exact .inl k

theorem VL_still {o : Oper} {d : Nat} {v : Value} (hw : wantd ops σ o = some true) (hd : o.dst = some d) (hlt : Nat.blt d N = true) (hs : Still P N σ h bl o v)
    (k : VL X P N ops Q rest ((d, v) :: σ) h bl) : VL X P N ops Q (o :: rest) σ h bl := by
  intro a w ha hr
  refine wpList_run (wanted_of ha hw) ?_
  rw [Oper.wp, hs a w ha hr.knows, Oper.upon_value, hd]
  exact k _ _ (ha.put (Nat.le_of_ble_eq_true hlt) v) hr

/-- The same for an operation whose value goes nowhere. -/
theorem VL_still0 {o : Oper} {v : Value} (hw : wantd ops σ o = some true) (hd : o.dst = none) (hs : Still P N σ h bl o v)
    (k : VL X P N ops Q rest σ h bl) : VL X P N ops Q (o :: rest) σ h bl := by
  intro a w ha hr
  refine wpList_run (wanted_of ha hw) ?_
  rw [Oper.wp, hs a w ha hr.knows, Oper.upon_value, hd]
  exact k _ _ (ha.put_none v) hr

theorem VL_skip {o : Oper} {d : Nat} (hw : wantd ops σ o = some false) (hd : o.dst = some d) (hlt : Nat.blt d N = true)
    (k : VL X P N ops Q rest ((d, undef) :: σ) h bl) : VL X P N ops Q (o :: rest) σ h bl := by
  intro a w ha hr
  unfold wpList
  rw [if_neg (by rw [wanted_of ha hw]; simp), hd]
  exact k _ _ (ha.put (Nat.le_of_ble_eq_true hlt) _) hr

theorem VL_skip0 {o : Oper} (hw : wantd ops σ o = some false) (hd : o.dst = none)
    (k : VL X P N ops Q rest σ h bl) : VL X P N ops Q (o :: rest) σ h bl := by
  intro a w ha hr
  unfold wpList
  rw [if_neg (by rw [wanted_of ha hw]; simp), hd]
  exact k _ _ ha hr

/-- A bool in a slot is decided. -/
theorem VL_bool {l : List Oper} (t : Nat) {b : Bool} (ht : look σ t = some (.bool b)) (k1 : b = true → VL X P N ops Q l ((t, .bool true) :: σ) h bl)
    (k2 : b = false → VL X P N ops Q l ((t, .bool false) :: σ) h bl) : VL X P N ops Q l σ h bl := by
  intro a w ha hr
  have key : ∀ c, b = c → Fr N ((t, .bool c) :: σ) a := by
    rintro c rfl
    refine ⟨ha.defers, ha.size, fun s u hs => ?_⟩
    rw [look_cons] at hs
    split at hs
    · rename_i e; subst e; cases hs; exact ha.at_ _ _ ht
    · exact ha.at_ _ _ hs
  cases hb : b with
  | true => exact k1 hb a w (key _ hb) hr
  | false => exact k2 hb a w (key _ hb) hr

variable {dst : Option Tmp} {ty : TypeId} {pos : String} {aft : Array Edge} {g : Option (Nat × Bool)}

theorem S_move {x : Operand} {v : Value} (hx : ev σ x = some v) : Still P N σ h bl ⟨dst, .move x, ty, pos, aft, g⟩ v := by
  intro a w ha _
  simp only [execOp, ha.eval hx]; rfl
theorem S_assign {x : Operand} {v : Value} (hx : ev σ x = some v) : Still P N σ h bl ⟨dst, .assign x, ty, pos, aft, g⟩ v := by
  intro a w ha _
  simp only [execOp, ha.eval hx]; rfl
theorem S_pick {c x y : Operand} {b : Bool} {u v : Value} (hc : ev σ c = some (.bool b)) (hx : b = true → ev σ x = some u) (hy : b = false → ev σ y = some v) :
    Still P N σ h bl ⟨dst, .pick c x y, ty, pos, aft, g⟩ (bif b then u else v) := by
  intro a w ha _
  cases b with
  | true => simp only [execOp, ha.eval hc, ha.eval (hx rfl)]; rfl
  | false => simp only [execOp, ha.eval hc, ha.eval (hy rfl)]; rfl

section ints
variable {x y : Operand} {t u : TypeId} {k : IntKind} {m n : Int}
theorem S_add (hx : ev σ x = some (.int k m)) (hy : ev σ y = some (.int k n)) : Still P N σ h bl ⟨dst, .binOp .add t x y u, ty, pos, aft, g⟩ (.int k (k.wrap (m + n))) := by
  intro a w ha _
  simp only [execOp, ha.eval hx, ha.eval hy, binOp, Op.intArith, ne_eq, not_true_eq_false, if_false]; rfl
theorem S_sub (hx : ev σ x = some (.int k m)) (hy : ev σ y = some (.int k n)) : Still P N σ h bl ⟨dst, .binOp .sub t x y u, ty, pos, aft, g⟩ (.int k (k.wrap (m - n))) := by
  intro a w ha _
  simp only [execOp, ha.eval hx, ha.eval hy, binOp, Op.intArith, ne_eq, not_true_eq_false, if_false]; rfl
theorem S_mul (hx : ev σ x = some (.int k m)) (hy : ev σ y = some (.int k n)) : Still P N σ h bl ⟨dst, .binOp .mul t x y u, ty, pos, aft, g⟩ (.int k (k.wrap (m * n))) := by
  intro a w ha _
  simp only [execOp, ha.eval hx, ha.eval hy, binOp, Op.intArith, ne_eq, not_true_eq_false, if_false]; rfl
theorem S_quo (hx : ev σ x = some (.int k m)) (hy : ev σ y = some (.int k n)) (hn : n ≠ 0) : Still P N σ h bl ⟨dst, .binOp .quo t x y u, ty, pos, aft, g⟩ (.int k (k.wrap (m.tdiv n))) := by
  intro a w ha _
  simp only [execOp, ha.eval hx, ha.eval hy, binOp, Op.intDiv, ne_eq, not_true_eq_false, if_false, hn]; rfl
theorem S_rem (hx : ev σ x = some (.int k m)) (hy : ev σ y = some (.int k n)) (hn : n ≠ 0) : Still P N σ h bl ⟨dst, .binOp .rem t x y u, ty, pos, aft, g⟩ (.int k (m.tmod n)) := by
  intro a w ha _
  simp only [execOp, ha.eval hx, ha.eval hy, binOp, Op.intDiv, ne_eq, not_true_eq_false, if_false, hn]; rfl
theorem S_shr {k' : IntKind} (hx : ev σ x = some (.int k m)) (hy : ev σ y = some (.int k' n)) (hn : 0 ≤ n) : Still P N σ h bl ⟨dst, .binOp .shr t x y u, ty, pos, aft, g⟩ (.int k (m.fdiv (2 ^ (min n.toNat k.bits)))) := by
  intro a w ha _
  simp only [execOp, ha.eval hx, ha.eval hy, binOp, Op.shift, if_neg (show ¬ n < 0 by omega)]; rfl
theorem S_shl {k' : IntKind} (hx : ev σ x = some (.int k m)) (hy : ev σ y = some (.int k' n)) (hn : 0 ≤ n) : Still P N σ h bl ⟨dst, .binOp .shl t x y u, ty, pos, aft, g⟩ (.int k (k.wrap (m * (2 ^ (min n.toNat k.bits))))) := by
  intro a w ha _
  simp only [execOp, ha.eval hx, ha.eval hy, binOp, Op.shift, if_neg (show ¬ n < 0 by omega)]; rfl
theorem S_eql (hx : ev σ x = some (.int k m)) (hy : ev σ y = some (.int k n)) : Still P N σ h bl ⟨dst, .binOp .eql t x y u, ty, pos, aft, g⟩ (.bool (decide (m = n))) := by
  intro a w ha _
  simp only [execOp, ha.eval hx, ha.eval hy, binOp, Op.intCmp, ne_eq, not_true_eq_false, if_false]; rfl
theorem S_neq (hx : ev σ x = some (.int k m)) (hy : ev σ y = some (.int k n)) : Still P N σ h bl ⟨dst, .binOp .neq t x y u, ty, pos, aft, g⟩ (.bool (!decide (m = n))) := by
  intro a w ha _
  simp only [execOp, ha.eval hx, ha.eval hy, binOp, Op.intCmp, ne_eq, not_true_eq_false, if_false]; rfl
theorem S_lss (hx : ev σ x = some (.int k m)) (hy : ev σ y = some (.int k n)) : Still P N σ h bl ⟨dst, .binOp .lss t x y u, ty, pos, aft, g⟩ (.bool (decide (m < n))) := by
  intro a w ha _
  simp only [execOp, ha.eval hx, ha.eval hy, binOp, Op.intCmp, ne_eq, not_true_eq_false, if_false]; rfl
theorem S_leq (hx : ev σ x = some (.int k m)) (hy : ev σ y = some (.int k n)) : Still P N σ h bl ⟨dst, .binOp .leq t x y u, ty, pos, aft, g⟩ (.bool (decide (m ≤ n))) := by
  intro a w ha _
  simp only [execOp, ha.eval hx, ha.eval hy, binOp, Op.intCmp, ne_eq, not_true_eq_false, if_false]; rfl
theorem S_gtr (hx : ev σ x = some (.int k m)) (hy : ev σ y = some (.int k n)) : Still P N σ h bl ⟨dst, .binOp .gtr t x y u, ty, pos, aft, g⟩ (.bool (decide (n < m))) := by
  intro a w ha _
  simp only [execOp, ha.eval hx, ha.eval hy, binOp, Op.intCmp, ne_eq, not_true_eq_false, if_false]; rfl
theorem S_geq (hx : ev σ x = some (.int k m)) (hy : ev σ y = some (.int k n)) : Still P N σ h bl ⟨dst, .binOp .geq t x y u, ty, pos, aft, g⟩ (.bool (decide (n ≤ m))) := by
  intro a w ha _
  simp only [execOp, ha.eval hx, ha.eval hy, binOp, Op.intCmp, ne_eq, not_true_eq_false, if_false]; rfl
theorem S_neg (hx : ev σ x = some (.int k m)) : Still P N σ h bl ⟨dst, .unOp .neg t x, ty, pos, aft, g⟩ (.int k (k.wrap (0 - m))) := by
  intro a w ha _
  simp only [execOp, ha.eval hx, Op.unary, Op.intArith]; rfl
theorem S_not {b : Bool} (hx : ev σ x = some (.bool b)) : Still P N σ h bl ⟨dst, .unOp .not t x, ty, pos, aft, g⟩ (.bool (!b)) := by
  intro a w ha _
  simp only [execOp, ha.eval hx, Op.unary]; rfl
theorem S_min (hx : ev σ x = some (.int k m)) (hy : ev σ y = some (.int k n)) {tys : Array TypeId} : Still P N σ h bl ⟨dst, .call { callee := .builtin .min, args := #[x, y], argTypes := tys }, ty, pos, aft, g⟩ (.int k (if n < m then n else m)) := by
  intro a w ha _
  simp only [execOp, resolve, invoke, builtin, Builtin.min_, List.map_toArray, List.map_cons, List.map_nil, ha.eval hx, ha.eval hy]; rfl
theorem S_max (hx : ev σ x = some (.int k m)) (hy : ev σ y = some (.int k n)) {tys : Array TypeId} : Still P N σ h bl ⟨dst, .call { callee := .builtin .max, args := #[x, y], argTypes := tys }, ty, pos, aft, g⟩ (.int k (if m < n then n else m)) := by
  intro a w ha _
  simp only [execOp, resolve, invoke, builtin, Builtin.max_, List.map_toArray, List.map_cons, List.map_nil, ha.eval hx, ha.eval hy]; rfl
end ints

theorem S_nil {x : Operand} {p : Addr} (hx : ev σ x = some (.pointer (some p))) : Still P N σ h bl ⟨dst, .nilCheck x, ty, pos, aft, g⟩ (.pointer (some p)) := by
  intro a w ha _
  simp only [execOp, ha.eval hx]; rfl

theorem run_under {d : TypeDesc} {t : TypeId} (w : World) (hu : P.underlying t = some d) : (underlying t).run P w = .ok d w := by
  simp [underlying, program, hu, Sem.run, pure, bind, Sem.bind]
theorem run_tinfo {i : TypeInfo} {t : TypeId} (w : World) (hi : P.info? t = some i) : (typeInfo t).run P w = .ok i w := by
  simp [typeInfo, program, hi, Sem.run, pure, bind, Sem.bind]
theorem run_size {i : TypeInfo} {t : TypeId} (w : World) (hi : P.info? t = some i) : (sizeOf t).run P w = .ok i.size w := by
  simp [sizeOf, typeInfo, program, hi, Sem.run, pure, bind, Sem.bind]

theorem S_field {s : TypeId} {x : Operand} {f k : Nat} {fs : Array Field} {fd : Field} {i : TypeInfo} {b off : Nat} (hu : P.underlying s = some (.struct fs)) (hf : fs[f]? = some fd) (ho : fd.offset = k)
    (hi : P.info? fd.type = some i) (hz : (Nat.beq i.size 0) = false) (hx : ev σ x = some (.pointer (some ⟨b, off, none⟩))) :
    Still P N σ h bl ⟨dst, .fieldAddr s x f, ty, pos, aft, g⟩ (.pointer (some ⟨b, off + k, none⟩)) := by
  intro a w ha _
  subst ho
  have hz' : ¬ i.size = 0 := fun e => by rw [e] at hz; cases hz
  have hp : (fieldPlace ⟨b, off, none⟩ fd).run P w = .ok ⟨b, off + fd.offset, none⟩ w := by
    simp only [fieldPlace, Sem.run_bind, run_size w hi, Result.andThen_ok, if_neg hz', Addr.add]
    split
    · rename_i e; rw [e]; rfl
    · rfl
  simp only [execOp, ha.eval hx, Instr.fieldAt, Sem.run_bind, run_under w hu, Result.andThen_ok, hf, Instr.sureAddr, Sem.run_pure, hp]

/-! ### Loads -/
def Cell (h : Hp) (bl : Bl) (b off : Nat) (v : Value) : Prop := ∃ cs T fz, (h b = some (.cells cs T fz) ∨ (b, .cells cs T fz) ∈ bl.flatten) ∧ cs[off]? = some v
theorem Cell.trk {b off : Nat} {v : Value} {l : List Value} {T : TypeId} {fz : Nat × Nat} (hb : Has bl b (.cells l.toArray T fz)) (hv : l[off]? = some v) : Cell h bl b off v :=
  ⟨_, T, fz, .inr hb.mem, by simpa using hv⟩
theorem Cell.at_ {b off : Nat} {v : Value} {w : World} (c : Cell h bl b off v) (k : Knows h bl w) : w.cell? ⟨b, off, none⟩ = some v := by
  obtain ⟨cs, T, fz, hb, hv⟩ := c
  have : w.heap[b]? = some (.cells cs T fz) := by
    rcases hb with hb | hb
    · exact k.1 _ _ hb
    · exact k.2 _ hb
  simp [World.cell?, this, hv]
def Cells (h : Hp) (bl : Bl) (b : Nat) : Nat → List Value → Prop
  | _, [] => True
  | off, v :: vs => Cell h bl b off v ∧ Cells h bl b (off + 1) vs

def aggd : TypeDesc → Bool
  | .struct _ | .array _ _ => true
  | _ => false
theorem run_isAgg {d : TypeDesc} {t : TypeId} (w : World) (hu : P.underlying t = some d) : (isAgg t).run P w = .ok (aggd d) w := by
  simp only [isAgg, Sem.run_bind, run_under w hu, Result.andThen_ok]
  cases d <;> rfl
theorem run_load {b off : Nat} {v : Value} {w : World} (hc : w.cell? ⟨b, off, none⟩ = some v) : (load ⟨b, off, none⟩).run P w = .ok v w := by
  simp [load, Sem.run, hc]
theorem S_load {t : TypeId} {x : Operand} {d : TypeDesc} {b off : Nat} {v : Value} (hu : P.underlying t = some d) (hd : aggd d = false) (hx : ev σ x = some (.pointer (some ⟨b, off, none⟩)))
    (hc : Cell h bl b off v) : Still P N σ h bl ⟨dst, .load t x, ty, pos, aft, g⟩ v := by
  intro a w ha hk
  simp only [execOp, ha.eval hx, Instr.loadAt, Instr.sureAddr, loadVar, Sem.run_bind, Sem.run_pure, run_isAgg w hu, hd, Result.andThen_ok, run_load (hc.at_ hk), Bool.false_eq_true, if_false]

theorem add_none (b off i : Nat) : (⟨b, off, none⟩ : Addr).add i = ⟨b, off + i, none⟩ := by
  unfold Addr.add; split <;> simp_all
theorem run_loadCells {b : Nat} {w : World} : ∀ (vs : List Value) (off i : Nat) (acc : Array Value), (∀ j (hj : j < vs.length), w.cell? ⟨b, off + i + j, none⟩ = some vs[j]) →
    (loadCellsFrom ⟨b, off, none⟩ i vs.length acc).run P w = .ok (acc ++ vs.toArray) w
  | [], off, i, acc, _ => by simp [loadCellsFrom]
  | v :: vs, off, i, acc, hc => by
    have h0 := hc 0 (by simp)
    simp only [Nat.add_zero, List.getElem_cons_zero] at h0
    have ih := run_loadCells vs off (i + 1) (acc.push v) (fun j hj => by
      have := hc (j + 1) (by simpa using hj)
      simpa [Nat.add_assoc, Nat.add_comm 1 j, Nat.add_left_comm] using this)
    simp only [List.length_cons, loadCellsFrom, Sem.run_bind, add_none, run_load h0, Result.andThen_ok, ih]
    simp
theorem Cells.at_ {b : Nat} {w : World} : ∀ {vs : List Value} {off : Nat}, Cells h bl b off vs → Knows h bl w → ∀ j (hj : j < vs.length), w.cell? ⟨b, off + j, none⟩ = some vs[j]
  | v :: vs, off, c, k, 0, _ => c.1.at_ k
  | v :: vs, off, c, k, j + 1, hj => by
    have := Cells.at_ c.2 k j (by simpa using hj)
    simpa [Nat.add_assoc, Nat.add_comm 1 j] using this
theorem S_loads {t : TypeId} {x : Operand} {d : TypeDesc} {b off : Nat} {vs : List Value} {i : TypeInfo} (hu : P.underlying t = some d) (hd : aggd d = true) (hi : P.info? t = some i) (hs : i.size = vs.length)
    (hx : ev σ x = some (.pointer (some ⟨b, off, none⟩))) (hc : Cells h bl b off vs) : Still P N σ h bl ⟨dst, .load t x, ty, pos, aft, g⟩ (.agg vs.toArray) := by
  intro a w ha hk
  have := run_loadCells (P := P) vs off 0 #[] (by simpa using hc.at_ hk)
  simp only [execOp, ha.eval hx, Instr.loadAt, Instr.sureAddr, loadVar, Sem.run_bind, Sem.run_pure, run_isAgg w hu, hd, Result.andThen_ok, if_true, run_size w hi, hs, loadCells, this]
  simp

/-! ### Slices -/
theorem S_index {t e : TypeId} {x y : Operand} {i : TypeInfo} {b off len cap : Nat} {k : IntKind} {n : Int} (hu : P.underlying t = some (.slice e)) (hi : P.info? e = some i)
    (hx : ev σ x = some (.slice (some ⟨b, off, none⟩) len cap)) (hy : ev σ y = some (.int k n)) (h0 : 0 ≤ n) (h1 : n < len) :
    Still P N σ h bl ⟨dst, .indexAddr t x y, ty, pos, aft, g⟩ (.pointer (some ⟨b, off + n.toNat * i.size, none⟩)) := by
  intro a w ha _
  simp only [execOp, ha.eval hx, ha.eval hy, Instr.indexAt, asIntOf, Sem.run_bind, Sem.run_pure, run_under w hu, Result.andThen_ok, run_size w hi]
  simp [h0, h1, run_size w hi, add_none]

theorem S_len {t e : TypeId} {x : Operand} {A : Option Addr} {len cap : Nat} (hu : P.underlying t = some (.slice e)) (hx : ev σ x = some (.slice A len cap)) :
    Still P N σ h bl ⟨dst, .call { callee := .builtin .len, args := #[x], argTypes := #[t] }, ty, pos, aft, g⟩ (.int .i64 len) := by
  intro a w ha _
  simp only [execOp, resolve, invoke, builtin, Builtin.len_, List.map_toArray, List.map_cons, List.map_nil, ha.eval hx, Sem.run_bind, Sem.run_pure, run_under w hu, Result.andThen_ok]
  simp [run_under w hu, goInt]
theorem S_cap {t e : TypeId} {x : Operand} {A : Option Addr} {len cap : Nat} (hu : P.underlying t = some (.slice e)) (hx : ev σ x = some (.slice A len cap)) :
    Still P N σ h bl ⟨dst, .call { callee := .builtin .cap, args := #[x], argTypes := #[t] }, ty, pos, aft, g⟩ (.int .i64 cap) := by
  intro a w ha _
  simp only [execOp, resolve, invoke, builtin, Builtin.cap_, List.map_toArray, List.map_cons, List.map_nil, ha.eval hx, Sem.run_bind, Sem.run_pure, run_under w hu, Result.andThen_ok]
  simp [run_under w hu, goInt]
theorem S_slen {t : TypeId} {x : Operand} {s : ByteArray} (hu : P.underlying t = some .string) (hx : ev σ x = some (.string s)) :
    Still P N σ h bl ⟨dst, .call { callee := .builtin .len, args := #[x], argTypes := #[t] }, ty, pos, aft, g⟩ (.int .i64 s.size) := by
  intro a w ha _
  simp only [execOp, resolve, invoke, builtin, Builtin.len_, List.map_toArray, List.map_cons, List.map_nil, ha.eval hx, Sem.run_bind, Sem.run_pure, run_under w hu, Result.andThen_ok]
  simp [run_under w hu, goInt]

/-- x[l:hi:m] of a slice, l ≤ hi ≤ m. -/
def cut3 (A : Option Addr) (cap size l hi m : Nat) : Value := .slice (if m = l then A else A.map (·.add (l * size))) (hi - l) (m - l)

theorem run_bound {v : Value} {k : IntKind} {n : Int} {y : Nat} {c : BoundsCode} (w : World) (hv : v = .int k n) (h0 : 0 ≤ n) (h1 : n ≤ y) : (Instr.sliceBound v y c).run P w = .ok n.toNat w := by
  subst hv
  simp [Instr.sliceBound, asIntOf, h0, h1]

/-- What a bound that may be left out comes to. -/
def bnd (σ : List (Nat × Value)) (d : Nat) : Option Operand → Option Int
  | none => some d
  | some x => match ev σ x with | some (.int _ n) => some n | _ => none

theorem S_slice {t e : TypeId} {x : Operand} {lo hi : Option Operand} {i : TypeInfo} {A : Option Addr} {len cap : Nat} {l m : Int} (hu : P.underlying t = some (.slice e)) (hi' : P.info? e = some i)
    (hx : ev σ x = some (.slice A len cap)) (hl : bnd σ 0 lo = some l) (hm : bnd σ len hi = some m) (h0 : 0 ≤ l) (h1 : l ≤ m) (h2 : m ≤ cap) :
    Still P N σ h bl ⟨dst, .slice t x lo hi none, ty, pos, aft, g⟩ (cut3 A cap i.size l.toNat m.toNat cap) := by
  intro a w ha _
  have hH : (match hi.map a.eval with | some v => Instr.sliceBound v cap .sliceAcap | none => (pure len : Sem Nat)).run P w = .ok m.toNat w := by
    cases hi with
    | none => simp only [bnd, Option.some.injEq] at hm; subst hm; simp
    | some y =>
      simp only [bnd] at hm
      split at hm
      · rename_i k n hy
        cases hm
        simp only [Option.map_some, ha.eval hy]
        exact run_bound w rfl (by omega) h2
      · cases hm
  have hL : (match lo.map a.eval with | some v => Instr.sliceBound v m.toNat .sliceB | none => (pure 0 : Sem Nat)).run P w = .ok l.toNat w := by
    cases lo with
    | none => simp only [bnd, Option.some.injEq] at hl; subst hl; simp
    | some y =>
      simp only [bnd] at hl
      split at hl
      · rename_i k n hy
        cases hl
        simp only [Option.map_some, ha.eval hy]
        exact run_bound w rfl h0 (by omega)
      · cases hl
  have hS : (Instr.sliceBounds true len cap (lo.map a.eval) (hi.map a.eval) none).run P w = .ok (l.toNat, m.toNat, cap) w := by
    unfold Instr.sliceBounds
    simp only [Sem.run_bind, Sem.run_pure, Result.andThen_ok]
    cases hi with
    | none =>
      simp only [Option.map_none] at hH ⊢
      simp only [Sem.run_pure, Result.ok.injEq, and_true] at hH
      rw [Sem.run_bind, Sem.run_pure, Result.andThen_ok]
      cases lo with
      | none => simp only [Option.map_none, Sem.run_pure, Result.ok.injEq, and_true] at hL ⊢; rw [← hH, ← hL]; rfl
      | some z =>
        simp only [Option.map_some] at hL ⊢
        simp only [Option.isSome_none, Bool.false_eq_true, if_false]
        rw [hH, Sem.run_bind, hL]; rfl
    | some y =>
      simp only [Option.map_some] at hH ⊢
      simp only [if_true]
      rw [Sem.run_bind, hH, Result.andThen_ok]
      cases lo with
      | none => simp only [Option.map_none, Sem.run_pure, Result.ok.injEq, and_true] at hL ⊢; rw [← hL]; rfl
      | some z =>
        simp only [Option.map_some] at hL ⊢
        simp only [Option.isSome_none, Bool.false_eq_true, if_false]
        rw [Sem.run_bind, hL]; rfl
  simp only [execOp, Option.map_none, ha.eval hx, Instr.sliceAt, Sem.run_bind, run_under w hu, Result.andThen_ok, Instr.slice, hS, run_size w hi', Sem.run_pure, cut3]

theorem S_extract {x : Operand} {n : Nat} {vs : List Value} {v : Value} (hx : ev σ x = some (.tuple vs.toArray)) (hv : vs[n]? = some v) : Still P N σ h bl ⟨dst, .extract x n, ty, pos, aft, g⟩ v := by
  intro a w ha _
  have : vs.toArray[n]? = some v := by simpa using hv
  simp only [execOp, ha.eval hx, Instr.extract, this]; rfl
theorem S_func {fn : Fn} {first captured : List Operand} {fs cs : List Value} (h1 : first.mapM (ev σ) = some fs) (h2 : captured.mapM (ev σ) = some cs) :
    Still P N σ h bl ⟨dst, .makeFunc fn first.toArray captured.toArray, ty, pos, aft, g⟩ (.func fn fs.toArray cs.toArray) := by
  have aux : ∀ (a : Act), Fr N σ a → ∀ (l : List Operand) (vs : List Value), l.mapM (ev σ) = some vs → l.map a.eval = vs := by
    intro a ha l
    induction l with
    | nil => intro vs hv; simp at hv; simp [hv]
    | cons x l ih =>
      intro vs hv
      simp only [List.mapM_cons] at hv
      cases hx : ev σ x with
      | none => simp [hx] at hv
      | some u =>
        cases hl : l.mapM (ev σ) with
        | none => simp [hx, hl] at hv
        | some us =>
          simp [hx, hl] at hv
          subst hv
          simp [ha.eval hx, ih us hl]
  intro a w ha _
  simp only [execOp, Instr.makeFunc, List.map_toArray, aux a ha _ _ h1, aux a ha _ _ h2]; rfl

/-- The parts of a struct or a slice that is built. -/
def parts (σ : List (Nat × Value)) : List (Nat × Operand) → Option (List (Nat × Value))
  | [] => some []
  | (i, x) :: r => match ev σ x, parts σ r with | some v, some vs => some ((i, v) :: vs) | _, _ => none
theorem parts_map {a : Act} (ha : Fr N σ a) : ∀ {l : List (Nat × Operand)} {vs : List (Nat × Value)}, parts σ l = some vs → l.map (fun (i, x) => (i, a.eval x)) = vs
  | [], vs, h => by simp [parts] at h; simp [h]
  | (i, x) :: r, vs, h => by
    simp only [parts] at h
    split at h
    · rename_i v us hx hr
      cases h
      simp [ha.eval hx, parts_map ha hr]
    · cases h
theorem S_build {t : TypeId} {ps : List (Nat × Operand)} {vs : List (Nat × Value)} {v : Value} (hp : parts σ ps = some vs) (hb : ∀ w, (Instr.build t vs.toArray).run P w = .ok v w) :
    Still P N σ h bl ⟨dst, .build t ps.toArray, ty, pos, aft, g⟩ v := by
  intro a w ha _
  simp only [execOp, List.map_toArray, parts_map ha hp, Sem.run_bind, hb w, Result.andThen_ok, Sem.run_pure]
theorem S_iface {t : TypeId} {x : Operand} {d : TypeDesc} {v : Value} (hu : P.underlying t = some d) (hd : (match d with | .interface _ => true | _ => false) = false) (hx : ev σ x = some v) :
    Still P N σ h bl ⟨dst, .makeInterface t x, ty, pos, aft, g⟩ (.iface t v) := by
  intro a w ha _
  simp only [execOp, ha.eval hx, Instr.makeInterface, Sem.run_bind, run_under w hu, Result.andThen_ok]
  cases d <;> simp at hd ⊢
theorem S_conv {t u : TypeId} {x : Operand} {k k' : IntKind} {n : Int} {d : TypeDesc} (hu : P.underlying t = some d) (hu' : P.underlying u = some (.int k)) (hx : ev σ x = some (.int k' n)) :
    Still P N σ h bl ⟨dst, .convert t u x, ty, pos, aft, g⟩ (.int k (k.wrap n)) := by
  intro a w ha _
  simp only [execOp, ha.eval hx, convert, Sem.run_bind, run_under w hu, run_under w hu', Result.andThen_ok, Conv.intToInt, Sem.run_pure]
end
end Go.Proofs.Ytdglignjoojimaa

/- One lemma for each operation that turns the world; calls, the begin and the end of a function. No conditions. -/
set_option linter.unusedVariables false
set_option linter.unusedSimpArgs false
namespace Go.Proofs.Ytdglignjoojimaa

section
variable {X : Cx} {P : Program} {N : Nat} {ops : Array Oper} {Q : Exit → Act → World → Prop} {σ : List (Nat × Value)} {h : Hp} {bl bl' : Bl} {rest : List Oper}
variable {dst : Option Tmp} {d : Nat} {ty : TypeId} {pos : String} {aft : Array Edge} {g : Option (Nat × Bool)}

theorem run_new (w : World) (cs : Array Value) (e : TypeId) : (newRow e cs).run P w = .ok ⟨w.heap.size, 0, none⟩ { w with heap := w.heap.push (.cells cs e) } := by
  simp [newRow, newObj, Sem.run, pure, bind, Sem.bind]

def Bot : Exit → Act → World → Prop := fun _ _ _ => False

/-- The operation acts: it leads from this state to one of those. -/
def Eff (X : Cx) (P : Program) (N : Nat) (o : Oper) (σ : List (Nat × Value)) (h : Hp) (bl : Bl) (Post : List (Nat × Value) → Hp → Bl → Prop) : Prop :=
  ∀ a w, Fr N σ a → Rel X h bl w → o.wp P a w (fun a' w' => ∃ σ' h' bl', Post σ' h' bl' ∧ Fr N σ' a' ∧ Rel X h' bl' w') Bot

theorem wp_exits {o : Oper} {a : Act} {w : World} {K K' : Act → World → Prop} {Q : Exit → Act → World → Prop} (hk : ∀ a w, K a w → K' a w) (h : o.wp P a w K Bot) : o.wp P a w K' Q := by
  unfold Oper.wp at h ⊢
  generalize (execOp a.eval o).run P w = r at h
  cases r with
  | ok nx w' =>
    cases nx <;> simp only [Oper.upon] at h ⊢
    case value u => exact hk _ _ h
    case skip => exact hk _ _ h
    case defer d => exact hk _ _ h
    case enter f args =>
      refine Calls.mono h fun e w'' he => ?_
      cases e with
      | returned u => exact hk _ _ he
      | panicked c => exact he.elim
      | outgrown => obtain ⟨_, _, hf⟩ := he; exact hf.elim
    case row row args => exact Rows.mono h fun u w'' he => hk _ _ he
  | halt x w' => cases x <;> simp only [Oper.upon] at h ⊢; exact h.elim

theorem VL_eff {o : Oper} {Post : List (Nat × Value) → Hp → Bl → Prop} (hw : wantd ops σ o = some true) (he : Eff X P N o σ h bl Post)
    (k : ∀ σ' h' bl', Post σ' h' bl' → VL X P N ops Q rest σ' h' bl') : VL X P N ops Q (o :: rest) σ h bl :=
  fun a w ha hr => wpList_run (wanted_of ha hw) (wp_exits (fun a' w' ⟨σ', h', bl', hp, hf, hr'⟩ => k σ' h' bl' hp a' w' hf hr') (he a w ha hr))

def PNew (X : Cx) (σ : List (Nat × Value)) (h : Hp) (bl : Bl) (d : Nat) (u : Nat → Value) (ob : Obj) (σ' : List (Nat × Value)) (h' : Hp) (bl' : Bl) : Prop :=
  ∃ b, X.w0.heap.size ≤ b ∧ σ' = (d, u b) :: σ ∧ h = h' ∧ bl' = [(b, ob)] :: bl

theorem E_new {o : Oper} (hd : o.dst = some d) (hlt : Nat.blt d N = true) {u : Nat → Value} {ob : Obj}
    (hs : ∀ a w, Fr N σ a → Knows h bl w → (execOp a.eval o).run P w = .ok (.value (u w.heap.size)) { w with heap := w.heap.push ob }) : Eff X P N o σ h bl (PNew X σ h bl d u ob) := by
  intro a w ha hr
  rw [Oper.wp, hs a w ha hr.knows, Oper.upon_value, hd]
  exact ⟨_, _, _, ⟨_, hr.size, rfl, rfl, rfl⟩, ha.put (Nat.le_of_ble_eq_true hlt) _, hr.alloc ob⟩

theorem E_alloc {e : TypeId} {cs : List Value} (hlt : Nat.blt d N = true)
    (hz : ((P.info? e).bind (·.zero)).map (·.cells) = some cs.toArray) :
    Eff X P N ⟨some d, .alloc e, ty, pos, aft, g⟩ σ h bl (PNew X σ h bl d (fun b => .pointer (some ⟨b, 0, none⟩)) (.cells cs.toArray e (0, 0))) := by
  refine E_new rfl hlt (fun a w ha hk => ?_)
  obtain ⟨i, hi, hz⟩ := Option.map_eq_some_iff.1 hz
  obtain ⟨i', hi, hz'⟩ := Option.bind_eq_some_iff.1 hi
  simp only [execOp, Instr.alloc, zeroValue, Sem.run_bind, run_tinfo w hi, Result.andThen_ok, hz', Sem.run_pure, newVar, hz, run_new]

theorem E_box {e : TypeId} {x : Operand} {v : Value} {cs : List Value} (hlt : Nat.blt d N = true)
    (hx : ev σ x = some v) (hz : v.cells = cs.toArray) :
    Eff X P N ⟨some d, .box e x, ty, pos, aft, g⟩ σ h bl (PNew X σ h bl d (fun b => .pointer (some ⟨b, 0, none⟩)) (.cells cs.toArray e (0, 0))) := by
  refine E_new rfl hlt (fun a w ha hk => ?_)
  simp only [execOp, Instr.box, ha.eval hx, Sem.run_bind, newVar, hz, run_new, Result.andThen_ok, Sem.run_pure]

theorem E_bslice {t e : TypeId} {n : Nat} {ps : List (Nat × Operand)} {vs : List (Nat × Value)} {cs : List Value} (hlt : Nat.blt d N = true)
    (hp : parts σ ps = some vs)
    (hb : ∀ w, (Instr.buildSlice t n vs.toArray).run P w = .ok (.slice (some ⟨w.heap.size, 0, none⟩) n n) { w with heap := w.heap.push (.cells cs.toArray e) }) :
    Eff X P N ⟨some d, .buildSlice t n ps.toArray, ty, pos, aft, g⟩ σ h bl (PNew X σ h bl d (fun b => .slice (some ⟨b, 0, none⟩) n n) (.cells cs.toArray e (0, 0))) := by
  refine E_new rfl hlt (fun a w ha hk => ?_)
  simp only [execOp, List.map_toArray, parts_map ha hp, Sem.run_bind, hb w, Result.andThen_ok, Sem.run_pure]

/-! ### Stores -/
def ones : List Value → Bool
  | [] => true
  | .agg _ :: _ => false
  | .tuple _ :: _ => false
  | _ :: r => ones r

/-- One place of a list is written. -/
inductive SetL : List Value → Nat → Value → List Value → Prop
  | here {x v : Value} {l : List Value} : SetL (x :: l) 0 v (v :: l)
  | there {x v : Value} {l l' : List Value} {n : Nat} : SetL l n v l' → SetL (x :: l) (n + 1) v (x :: l')
theorem SetL.eq {l l' : List Value} {n : Nat} {v : Value} (s : SetL l n v l') : n < l.length ∧ l' = l.set n v := by
  induction s with
  | here => simp
  | there _ ih => obtain ⟨h1, h2⟩ := ih; subst h2; exact ⟨by simp; exact h1, by simp⟩
theorem SetL.of {v : Value} : ∀ {l : List Value} {n : Nat}, n < l.length → SetL l n v (l.set n v)
  | x :: l, 0, _ => .here
  | x :: l, n + 1, h => .there (SetL.of (by simpa using h))
inductive PutR : List Value → Nat → List Value → List Value → Prop
  | nil {l : List Value} {n : Nat} : PutR l n [] l
  | cons {l l1 l2 vs : List Value} {n : Nat} {v : Value} : SetL l n v l1 → PutR l1 (n + 1) vs l2 → PutR l n (v :: vs) l2

theorem run_store1 {b off : Nat} {v u : Value} {w : World} (h1 : ones [v] = true) (hc : w.cell? ⟨b, off, none⟩ = some u) (hf : w.frozen? ⟨b, off, none⟩ = false) :
    (store ⟨b, off, none⟩ v).run P w = .ok () (w.setCell ⟨b, off, none⟩ v) := by
  cases v <;> first | (simp [ones] at h1; done) | simp [store, Sem.run, hc, hf]

theorem run_storeCells (P : Program) {b : Nat} {T : TypeId} : ∀ {vs : List Value} {l l' : List Value} {off i : Nat} {w : World}, PutR l (off + i) vs l' → ones vs = true → w.heap[b]? = some (.cells l.toArray T (0, 0)) →
    ∃ w', (storeCells ⟨b, off, none⟩ vs i).run P w = .ok () w' ∧ w'.heap[b]? = some (.cells l'.toArray T (0, 0)) ∧ w'.heap.size = w.heap.size ∧ (∀ k, k ≠ b → w'.heap[k]? = w.heap[k]?) ∧
      w'.tape = w.tape ∧ w'.os = w.os ∧ w'.output = w.output
  | [], l, l', off, i, w, p, _, hb => by
    cases p
    exact ⟨w, by simp [storeCells], hb, rfl, fun _ _ => rfl, rfl, rfl, rfl⟩
  | v :: vs, l, l', off, i, w, .cons s p, h1, hb => by
    obtain ⟨hn, rfl⟩ := s.eq
    have hc : w.cell? ⟨b, off + i, none⟩ = some l[off + i] := by simp [World.cell?, hb, hn]
    have hf : w.frozen? ⟨b, off + i, none⟩ = false := by simp [World.frozen?, hb]
    have hone : ones [v] = true ∧ ones vs = true := by cases v <;> simp_all [ones]
    have hb' : (w.setCell ⟨b, off + i, none⟩ v).heap[b]? = some (.cells (l.set (off + i) v).toArray T (0, 0)) := by
      simp [World.setCell, Array.getElem?_modify, hb]
    obtain ⟨w', hr, hb2, hs, ho, r1, r2, r3⟩ := run_storeCells P (i := i + 1) (off := off) (by rw [← Nat.add_assoc]; exact p) hone.2 hb'
    refine ⟨w', ?_, hb2, ?_, fun k hk => ?_, r1, r2, r3⟩
    · simp only [storeCells, Sem.run_bind, add_none, run_store1 hone.1 hc hf, Result.andThen_ok, hr]
    · rw [hs]; simp [World.setCell]
    · rw [ho k hk]
      simp only [World.setCell, Array.getElem?_modify]
      rw [if_neg (by simpa using fun e => hk e.symm)]

def PSt (σ : List (Nat × Value)) (h : Hp) (bl : Bl) (σ' : List (Nat × Value)) (h' : Hp) (bl' : Bl) : Prop := σ' = σ ∧ h = h' ∧ bl' = bl

theorem E_store {t : TypeId} {p x : Operand} {i : TypeInfo} {b off : Nat} {v : Value} {vs l l' : List Value} {T : TypeId}
    (hi : P.info? t = some i) (hp : ev σ p = some (.pointer (some ⟨b, off, none⟩))) (hx : ev σ x = some v) (hc : v.cells = vs.toArray) (hs : i.size = vs.length) (h1 : ones vs = true)
    (hb : Has bl b (.cells l.toArray T (0, 0))) (hl : PutR l off vs l') (hu : UpdG bl [(b, .cells l.toArray T (0, 0))] [(b, .cells l'.toArray T (0, 0))] bl') :
    Eff X P N ⟨none, .store t p x, ty, pos, aft, g⟩ σ h bl (PSt σ h bl') := by
  intro a w ha hr
  obtain ⟨w', e, hb', hs', ho, r1, r2, r3⟩ := run_storeCells P (off := off) (i := 0) hl h1 (hr.knows.2 _ hb.mem)
  have hz : vs.length = i.size := hs.symm
  have : (execOp a.eval ⟨none, .store t p x, ty, pos, aft, g⟩).run P w = .ok .skip w' := by
    simp only [execOp, ha.eval hp, ha.eval hx, Instr.storeAt, Instr.sureAddr, storeVar, Sem.run_bind, Sem.run_pure, Result.andThen_ok, run_size w hi, hc, List.size_toArray, hz, ne_eq, not_true_eq_false, if_false]
    simp only [e, Result.andThen_ok, Sem.run_pure]
  rw [Oper.wp, this, Oper.upon_skip]
  exact ⟨_, _, _, ⟨rfl, rfl, rfl⟩, ha.put_none _, hr.write hu hb' hs' ho r1 r2 r3⟩

/-! ### Calls -/
/-- What a call hands back: a value, what is known then, and the groups that are its caller's. -/
def Ret (w : World) (blA : Bl) (h : Hp) (post : Value → Hp → Bl → Prop) (e : Ending) (w' : World) : Prop :=
  ∃ v h' nb, e = .returned v ∧ Rel ⟨w, fun b => b ∈ blA.flatten.map Prod.fst, h⟩ h' nb w' ∧ post v h' nb

/-- The contract of a function at some arguments. -/
def Con (P : Program) (f : FuncId) (args : List Value) (h : Hp) (blA : Bl) (post : Value → Hp → Bl → Prop) : Prop :=
  ∀ w, Rel ⟨w, fun b => b ∈ blA.flatten.map Prod.fst, h⟩ h blA w → Calls P f args.toArray w (Ret w blA h post)

theorem Con.mono {f : FuncId} {args : List Value} {blA : Bl} {post post' : Value → Hp → Bl → Prop} (c : Con P f args h blA post) (hp : ∀ v h' nb, post v h' nb → post' v h' nb) : Con P f args h blA post' :=
  fun w hw => (c w hw).mono fun e w' ⟨v, h', nb, he, hr, hq⟩ => ⟨v, h', nb, he, hr, hp _ _ _ hq⟩

theorem Rel.begin {blA blR : Bl} {w : World} (r : Rel X h bl w) (hs : Split bl blA blR) : Rel ⟨w, fun b => b ∈ blA.flatten.map Prod.fst, h⟩ h blA w := by
  have r1 := (r.perm hs.perm).left
  exact ⟨Nat.le_refl _, fun _ _ _ => rfl, rfl, rfl, rfl, fun _ _ k => k, fun _ _ k => .inl k, r.know, fun p hp => ⟨(r1.trk p hp).1, (r1.trk p hp).2.1, .inl (List.mem_map.2 ⟨p, hp, rfl⟩)⟩, r1.nodup⟩

def PCall (σ : List (Nat × Value)) (h : Hp) (blR : Bl) (d : Nat) (post : Value → Hp → Bl → Prop) (σ' : List (Nat × Value)) (h' : Hp) (bl' : Bl) : Prop :=
  ∃ v nb, post v h' nb ∧ Sub h h' ∧ σ' = (d, v) :: σ ∧ bl' = nb ++ blR
def PCall0 (σ : List (Nat × Value)) (h : Hp) (blR : Bl) (post : Value → Hp → Bl → Prop) (σ' : List (Nat × Value)) (h' : Hp) (bl' : Bl) : Prop :=
  ∃ v nb, post v h' nb ∧ Sub h h' ∧ σ' = σ ∧ bl' = nb ++ blR

theorem E_enter {o : Oper} {f : FuncId} {args : List Value} {blA blR : Bl} {post : Value → Hp → Bl → Prop} (hd : o.dst = some d) (hlt : Nat.blt d N = true)
    (hs : ∀ a w, Fr N σ a → Knows h bl w → (execOp a.eval o).run P w = .ok (.enter f args.toArray) w)
    (hC : Con P f args h blA post) (hsp : Split bl blA blR) : Eff X P N o σ h bl (PCall σ h blR d post) := by
  intro a w ha hr
  rw [Oper.wp, hs a w ha hr.knows, Oper.upon_enter]
  refine (hC w (hr.begin hsp)).mono ?_
  rintro e w' ⟨v, h', nb, rfl, hr', hp⟩
  rw [hd]
  exact ⟨_, _, _, ⟨v, nb, hp, fun b o hb => hr'.old b o hb, rfl, rfl⟩, ha.put (Nat.le_of_ble_eq_true hlt) _, hr.call hsp hr'⟩

theorem E_enter0 {o : Oper} {f : FuncId} {args : List Value} {blA blR : Bl} {post : Value → Hp → Bl → Prop} (hd : o.dst = none)
    (hs : ∀ a w, Fr N σ a → Knows h bl w → (execOp a.eval o).run P w = .ok (.enter f args.toArray) w)
    (hC : Con P f args h blA post) (hsp : Split bl blA blR) : Eff X P N o σ h bl (PCall0 σ h blR post) := by
  intro a w ha hr
  rw [Oper.wp, hs a w ha hr.knows, Oper.upon_enter]
  refine (hC w (hr.begin hsp)).mono ?_
  rintro e w' ⟨v, h', nb, rfl, hr', hp⟩
  rw [hd]
  exact ⟨_, _, _, ⟨v, nb, hp, fun b o hb => hr'.old b o hb, rfl, rfl⟩, ha.put_none _, hr.call hsp hr'⟩

/-- Operands, all at once. -/
def evs (σ : List (Nat × Value)) : List Operand → Option (List Value)
  | [] => some []
  | x :: r => match ev σ x, evs σ r with | some v, some vs => some (v :: vs) | _, _ => none
theorem evs_map {a : Act} (ha : Fr N σ a) : ∀ {l : List Operand} {vs : List Value}, evs σ l = some vs → l.map a.eval = vs
  | [], vs, h => by simp [evs] at h; simp [h]
  | x :: r, vs, h => by
    simp only [evs] at h
    split at h
    · rename_i v us hx hr
      cases h
      simp [ha.eval hx, evs_map ha hr]
    · cases h

theorem run_call {f : FuncId} {fo : Operand} {as : List Operand} {tys : Array TypeId} {vs fs cs : List Value} (hf : ev σ fo = some (.func (.func f) fs.toArray cs.toArray)) (has : evs σ as = some vs)
    (hcf : ∀ args w, (callFunc f args).run P w = .ok (.enter f args) w) (a : Act) (w : World) (ha : Fr N σ a) :
    (execOp a.eval ⟨dst, .call { callee := .value fo, args := as.toArray, argTypes := tys }, ty, pos, aft, g⟩).run P w = .ok (.enter f (fs ++ vs ++ cs).toArray) w := by
  have hd : ∀ args : Array Value, (Deferred.ofValue (.func (.func f) fs.toArray cs.toArray) args).run P w = .ok { target := .fn (.func f) cs.toArray, args := fs.toArray ++ args } w := by
    intro args
    simp [Deferred.ofValue]
  simp only [execOp, resolve, List.map_toArray, evs_map ha has, ha.eval hf, Sem.run_bind, hd, Result.andThen_ok, invoke, hcf]
  simp

theorem E_call {f : FuncId} {fo : Operand} {as : List Operand} {tys : Array TypeId} {vs fs cs : List Value} {blA blR : Bl} {post : Value → Hp → Bl → Prop} (hlt : Nat.blt d N = true)
    (hf : ev σ fo = some (.func (.func f) fs.toArray cs.toArray)) (has : evs σ as = some vs) (hcf : ∀ args w, (callFunc f args).run P w = .ok (.enter f args) w)
    (hC : Con P f (fs ++ vs ++ cs) h blA post) (hsp : Split bl blA blR) :
    Eff X P N ⟨some d, .call { callee := .value fo, args := as.toArray, argTypes := tys }, ty, pos, aft, g⟩ σ h bl (PCall σ h blR d post) :=
  E_enter rfl hlt (fun a w ha _ => run_call hf has hcf a w ha) hC hsp
theorem E_call0 {f : FuncId} {fo : Operand} {as : List Operand} {tys : Array TypeId} {vs fs cs : List Value} {blA blR : Bl} {post : Value → Hp → Bl → Prop}
    (hf : ev σ fo = some (.func (.func f) fs.toArray cs.toArray)) (has : evs σ as = some vs) (hcf : ∀ args w, (callFunc f args).run P w = .ok (.enter f args) w)
    (hC : Con P f (fs ++ vs ++ cs) h blA post) (hsp : Split bl blA blR) :
    Eff X P N ⟨none, .call { callee := .value fo, args := as.toArray, argTypes := tys }, ty, pos, aft, g⟩ σ h bl (PCall0 σ h blR post) :=
  E_enter0 rfl (fun a w ha _ => run_call hf has hcf a w ha) hC hsp

/-! ### A function's begin and end -/
def argF : Nat → List Value → List (Nat × Value)
  | _, [] => []
  | i, v :: r => (i, v) :: argF (i + 1) r
theorem look_argF : ∀ {args : List Value} {i t : Nat} {v : Value}, look (argF i args) t = some v → i ≤ t ∧ args[t - i]? = some v
  | [], i, t, v, h => by simp [argF, look] at h
  | u :: r, i, t, v, h => by
    simp only [argF] at h
    rw [look_cons] at h
    split at h
    · rename_i e; subst e; simpa using h
    · obtain ⟨h1, h2⟩ := look_argF h
      refine ⟨by omega, ?_⟩
      rw [show t - i = t - (i + 1) + 1 by omega]
      simpa using h2

theorem Con_of {f : FuncId} {fn : Func} {c : Code} {args : List Value} {blA : Bl} {post : Value → Hp → Bl → Prop} (hf : P.funcs[f]? = some fn) (hb : fn.body = some c) (hN : fn.ntmps = N) (hle : args.length ≤ N)
    (k : ∀ w, V ⟨w, fun b => b ∈ blA.flatten.map Prod.fst, h⟩ P N (bodyPost P fn (Ret w blA h post)) c (argF 0 args) h blA) : Con P f args h blA post := by
  intro w hw
  refine calls_of_wp hf hb (k w _ w ⟨rfl, ?_, fun t v ht => ?_⟩ hw)
  · simp [hN]; omega
  · obtain ⟨_, h2⟩ := look_argF ht
    simp only [Nat.sub_zero] at h2
    have hlt : t < args.length := by
      rcases Nat.lt_or_ge t args.length with h' | h'
      · exact h'
      · simp [List.getElem?_eq_none h'] at h2
    rw [Array.getElem?_append_left (by simpa using hlt)]
    simpa using h2

/-- One result. -/
def RV (P : Program) (N : Nat) (σ : List (Nat × Value)) (h : Hp) (bl : Bl) (r : ResultVar) (v : Value) : Prop :=
  ∀ a w, Fr N σ a → Knows h bl w → (match r with | .tmp t => (pure (a.tmps.getD t undef) : Sem Value) | .cell p t => do loadVar t (← asAddr (a.tmps.getD p undef))).run P w = .ok v w
theorem getD_of {a : Act} {t : Nat} {v : Value} (ha : Fr N σ a) (ht : look σ t = some v) : a.tmps.getD t undef = v := by
  simp [Array.getD_eq_getD_getElem?, ha.at_ t v ht]
theorem RV_tmp {t : Nat} {v : Value} (ht : look σ t = some v) : RV P N σ h bl (.tmp t) v := by
  intro a w ha _
  simp [getD_of ha ht]
theorem RV_cell {p : Nat} {t : TypeId} {D : TypeDesc} {b off : Nat} {v : Value} (hu : P.underlying t = some D) (hd : aggd D = false) (hp : look σ p = some (.pointer (some ⟨b, off, none⟩))) (hc : Cell h bl b off v) :
    RV P N σ h bl (.cell p t) v := by
  intro a w ha hk
  simp only [getD_of ha hp, asAddr, loadVar, Sem.run_bind, Sem.run_pure, Result.andThen_ok, run_isAgg w hu, hd, Bool.false_eq_true, if_false, run_load (hc.at_ hk)]
theorem RV_cells {p : Nat} {t : TypeId} {D : TypeDesc} {b off : Nat} {vs : List Value} {i : TypeInfo} (hu : P.underlying t = some D) (hd : aggd D = true) (hi : P.info? t = some i) (hs : i.size = vs.length)
    (hp : look σ p = some (.pointer (some ⟨b, off, none⟩))) (hc : Cells h bl b off vs) : RV P N σ h bl (.cell p t) (.agg vs.toArray) := by
  intro a w ha hk
  have := run_loadCells (P := P) vs off 0 #[] (by simpa using hc.at_ hk)
  simp only [getD_of ha hp, asAddr, loadVar, Sem.run_bind, Sem.run_pure, Result.andThen_ok, run_isAgg w hu, hd, if_true, run_size w hi, hs, loadCells, this]
  simp

theorem andThen_of {α β : Type} {x : Result α} {f : α → World → Result β} {v : β} {w : World} (e : x.andThen f = .ok v w) : ∃ a w1, x = .ok a w1 ∧ f a w1 = .ok v w := by
  cases x with
  | ok a w' => exact ⟨a, w', rfl, by simpa using e⟩
  | halt a w' => cases e

theorem RV.run {p : Nat} {t : TypeId} {v : Value} {a : Act} {w : World} (k : RV P N σ h bl (.cell p t) v) (ha : Fr N σ a) (hk : Knows h bl w) :
    ∃ q w1, (asAddr (a.tmps[p]?.getD undef)).run P w = .ok q w1 ∧ (loadVar t q).run P w1 = .ok v w := by
  have := k a w ha hk
  simp only [Sem.run_bind, Array.getD_eq_getD_getElem?] at this
  exact andThen_of this
theorem RV.tmp {t : Nat} {v : Value} {a : Act} {w : World} (k : RV P N σ h bl (.tmp t) v) (ha : Fr N σ a) (hk : Knows h bl w) : a.tmps[t]?.getD undef = v := by
  simpa using k a w ha hk

theorem bodyPost_of {fn : Func} {R : Ending → World → Prop} {e : Exit} (he : e = .normal ∨ e = .ret) {v : Value}
    (hres : ∀ a w, Fr N σ a → Knows h bl w → (results fn a.tmps).run P w = .ok v w) (hR : ∀ w, Rel X h bl w → R (.returned v) w) : VQ X N (bodyPost P fn R) e σ h bl := by
  intro a w ha hr
  rcases he with rfl | rfl <;> exact ⟨ha.defers, v, hres a w ha hr.knows, hR w hr⟩

theorem Ret_of {w0 : World} {blA nb : Bl} {h0 : Hp} {post : Value → Hp → Bl → Prop} {v : Value} (hb : SubB bl nb) (hp : post v h nb) :
    ∀ w, Rel ⟨w0, fun b => b ∈ blA.flatten.map Prod.fst, h0⟩ h bl w → Ret w0 blA h0 post (.returned v) w :=
  fun w hr => ⟨v, h, nb, rfl, hr.sub hb, hp⟩

section ends
variable {w0 : World} {blA nb : Bl} {h0 : Hp} {post : Value → Hp → Bl → Prop} {fn : Func} {e : Exit}
theorem VQ_fin0 (he : e = .normal ∨ e = .ret) (hr : fn.results = #[]) (hb : SubB bl nb) (hp : post (.tuple #[]) h nb) :
    VQ ⟨w0, fun b => b ∈ blA.flatten.map Prod.fst, h0⟩ N (bodyPost P fn (Ret w0 blA h0 post)) e σ h bl :=
  bodyPost_of he (fun a w _ _ => results_none hr _ _ _) (Ret_of hb hp)
theorem VQ_fin1 {r : ResultVar} {v : Value} (he : e = .normal ∨ e = .ret) (hr : fn.results = #[r]) (h1 : RV P N σ h bl r v) (hb : SubB bl nb) (hp : post v h nb) :
    VQ ⟨w0, fun b => b ∈ blA.flatten.map Prod.fst, h0⟩ N (bodyPost P fn (Ret w0 blA h0 post)) e σ h bl := by
  refine bodyPost_of he (fun a w ha hk => ?_) (Ret_of hb hp)
  cases r with
  | tmp t => have k1 := h1.tmp ha hk; simp [results, hr, k1]
  | cell p t =>
    obtain ⟨q, w1, e1, e2⟩ := h1.run ha hk
    simp [results, hr, e1, e2]
theorem VQ_fin2 {r s : ResultVar} {v u : Value} (he : e = .normal ∨ e = .ret) (hr : fn.results = #[r, s]) (h1 : RV P N σ h bl r v) (h2 : RV P N σ h bl s u) (hb : SubB bl nb) (hp : post (.tuple #[v, u]) h nb) :
    VQ ⟨w0, fun b => b ∈ blA.flatten.map Prod.fst, h0⟩ N (bodyPost P fn (Ret w0 blA h0 post)) e σ h bl := by
  refine bodyPost_of he (fun a w ha hk => ?_) (Ret_of hb hp)
  cases r <;> cases s <;> (first | have k1 := h1.tmp ha hk | obtain ⟨q1, w1, e1, e1'⟩ := h1.run ha hk) <;> (first | have k2 := h2.tmp ha hk | obtain ⟨q2, w2, e2, e2'⟩ := h2.run ha hk) <;> simp_all [results]
theorem VQ_fin3 {r s q : ResultVar} {v u x : Value} (he : e = .normal ∨ e = .ret) (hr : fn.results = #[r, s, q]) (h1 : RV P N σ h bl r v) (h2 : RV P N σ h bl s u) (h3 : RV P N σ h bl q x) (hb : SubB bl nb)
    (hp : post (.tuple #[v, u, x]) h nb) : VQ ⟨w0, fun b => b ∈ blA.flatten.map Prod.fst, h0⟩ N (bodyPost P fn (Ret w0 blA h0 post)) e σ h bl := by
  refine bodyPost_of he (fun a w ha hk => ?_) (Ret_of hb hp)
  cases r <;> cases s <;> cases q <;> (first | have k1 := h1.tmp ha hk | obtain ⟨q1, w1, e1, e1'⟩ := h1.run ha hk) <;> (first | have k2 := h2.tmp ha hk | obtain ⟨q2, w2, e2, e2'⟩ := h2.run ha hk) <;>
    (first | have k3 := h3.tmp ha hk | obtain ⟨q3, w3, e3, e3'⟩ := h3.run ha hk) <;> simp_all [results]
end ends
end
end Go.Proofs.Ytdglignjoojimaa

/- A region that draws its order may be walked in the order of its text, where what is unordered commutes. No conditions. -/
set_option linter.unusedVariables false
set_option linter.unusedSimpArgs false
namespace Go.Proofs.Ytdglignjoojimaa

section
variable {P : Program} {ops : Array Oper} {S : World → Prop} {E : Nat} {F : Act → World → Prop}

/-- One operation: it acts, or it yields something that S alone decides. -/
def Gs (P : Program) (ops : Array Oper) (S : World → Prop) (E : Nat) (i : Nat) (K : Act → World → Prop) (a : Act) (w : World) : Prop :=
  S w ∧ ∃ o, ops[i]? = some o ∧
    if Region.wanted o (yielded ops a.tmps) then
      if E.testBit i then o.wp P a w K Bot
      else ∃ v, (∀ w', S w' → (execOp a.eval o).run P w' = .ok (.value v) w') ∧ K (a.put o.dst v) w
    else K (a.put o.dst undef) w
def G (P : Program) (ops : Array Oper) (S : World → Prop) (E : Nat) (F : Act → World → Prop) : List Nat → Act → World → Prop
  | [], a, w => F a w
  | i :: rest, a, w => Gs P ops S E i (G P ops S E F rest) a w

theorem G.S_ {l : List Nat} {a : Act} {w : World} (hl : l ≠ []) (h : G P ops S E F l a w) : S w := by
  cases l with
  | nil => exact absurd rfl hl
  | cons i l => exact h.1

theorem Gs.mono {i : Nat} {K K' : Act → World → Prop} {a : Act} {w : World} (h : Gs P ops S E i K a w) (hk : ∀ a w, K a w → K' a w) : Gs P ops S E i K' a w := by
  obtain ⟨hs, o, ho, h⟩ := h
  refine ⟨hs, o, ho, ?_⟩
  split
  · rename_i hw
    rw [if_pos hw] at h
    split
    · rename_i he; rw [if_pos he] at h; exact Oper.wp_mono hk h
    · rename_i he
      rw [if_neg he] at h
      obtain ⟨v, h1, h2⟩ := h
      exact ⟨v, h1, hk _ _ h2⟩
  · rename_i hw; rw [if_neg hw] at h; exact hk _ _ h

/-- The operation yields v, whatever else happens while S holds. -/
def SY (P : Program) (ops : Array Oper) (S : World → Prop) (o : Oper) (v : Value) (a : Act) : Prop :=
  (Region.wanted o (yielded ops a.tmps) = true ∧ ∀ w, S w → (execOp a.eval o).run P w = .ok (.value v) w) ∨
  (Region.wanted o (yielded ops a.tmps) = false ∧ v = undef)
theorem SY.same {o : Oper} {v : Value} {a a' : Act} (hy : SY P ops S o v a) (he : execOp a'.eval o = execOp a.eval o)
    (hw : Region.wanted o (yielded ops a'.tmps) = Region.wanted o (yielded ops a.tmps)) : SY P ops S o v a' := by
  unfold SY at *
  rw [he, hw]
  exact hy
theorem SY.inj {o : Oper} {v u : Value} {a : Act} {w : World} (hs : S w) (h : SY P ops S o v a) (k : SY P ops S o u a) : v = u := by
  rcases h with ⟨h1, h2⟩ | ⟨h1, h2⟩ <;> rcases k with ⟨k1, k2⟩ | ⟨k1, k2⟩
  · have := (h2 w hs).symm.trans (k2 w hs); cases this; rfl
  · rw [h1] at k1; cases k1
  · rw [h1] at k1; cases k1
  · rw [h2, k2]

/-- Either it yields, or it acts. -/
theorem Gs.cases {i : Nat} {K : Act → World → Prop} {a : Act} {w : World} {o : Oper} (ho : ops[i]? = some o) (h : Gs P ops S E i K a w) :
    (∃ v, SY P ops S o v a ∧ (E.testBit i = false ∨ Region.wanted o (yielded ops a.tmps) = false) ∧ K (a.put o.dst v) w) ∨ (Region.wanted o (yielded ops a.tmps) = true ∧ E.testBit i = true ∧ o.wp P a w K Bot) := by
  obtain ⟨hs, o', ho', h⟩ := h
  rw [ho] at ho'; cases ho'
  by_cases hw : Region.wanted o (yielded ops a.tmps) = true
  · rw [if_pos hw] at h
    by_cases he : E.testBit i = true
    · rw [if_pos he] at h; exact .inr ⟨hw, he, h⟩
    · rw [if_neg he] at h
      obtain ⟨v, h1, h2⟩ := h
      exact .inl ⟨v, .inl ⟨hw, h1⟩, .inl (by simpa using he), h2⟩
  · rw [if_neg hw] at h
    exact .inl ⟨undef, .inr ⟨by simpa using hw, rfl⟩, .inr (by simpa using hw), h⟩
theorem Gs.yield {i : Nat} {K : Act → World → Prop} {a : Act} {w : World} {o : Oper} {v : Value} (ho : ops[i]? = some o) (hs : S w) (hy : SY P ops S o v a)
    (he : E.testBit i = false ∨ Region.wanted o (yielded ops a.tmps) = false) (k : K (a.put o.dst v) w) : Gs P ops S E i K a w := by
  refine ⟨hs, o, ho, ?_⟩
  rcases hy with ⟨hw, hv⟩ | ⟨hw, rfl⟩
  · rw [if_pos hw]
    rcases he with he | he
    · rw [if_neg (by rw [he]; simp)]; exact ⟨v, hv, k⟩
    · rw [he] at hw; cases hw
  · rw [if_neg (by rw [hw]; simp)]; exact k
theorem Gs.act {i : Nat} {K : Act → World → Prop} {a : Act} {w : World} {o : Oper} (ho : ops[i]? = some o) (hs : S w) (hw : Region.wanted o (yielded ops a.tmps) = true) (he : E.testBit i = true)
    (k : o.wp P a w K Bot) : Gs P ops S E i K a w := by
  refine ⟨hs, o, ho, ?_⟩
  rw [if_pos hw, if_pos he]; exact k

theorem not_letsOut : ¬ LetsOut Bot := fun ⟨_, _, h⟩ => h

/-- What acts comes to something. -/
theorem wp_some {o : Oper} {a : Act} {w : World} {K : Act → World → Prop} (h : o.wp P a w K Bot) : ∃ u w' ds, K ({ a with defers := ds }.put o.dst u) w' := by
  unfold Oper.wp at h
  generalize (execOp a.eval o).run P w = r at h
  cases r with
  | ok n w' =>
    cases n <;> simp only [Oper.upon] at h
    case value u => exact ⟨u, w', a.defers, h⟩
    case skip => exact ⟨undef, w', a.defers, h⟩
    case defer d => exact ⟨undef, w', d :: a.defers, h⟩
    case enter f args =>
      obtain ⟨e, w'', fr, he, _⟩ := h []
      cases e with
      | returned v => exact ⟨v, w'', a.defers, he⟩
      | panicked c => exact he.elim
      | outgrown => exact absurd he not_letsOut
    case row row args =>
      obtain ⟨v, w'', hr, _⟩ := h default []
      exact ⟨v, w'', a.defers, hr⟩
  | halt x w' =>
    cases x <;> simp only [Oper.upon] at h
    case panic v => exact h.elim

/-- What acts, acts the same in a frame that has one slot more. -/
theorem wp_put {o : Oper} {a : Act} {w : World} {K K' : Act → World → Prop} {dx : Option Tmp} {v : Value} (hs : ∀ cs b, o.op ≠ .select cs b) (h1 : ∀ d, dx = some d → d ∉ o.looksAt ops) 
    (h : o.wp P a w K Bot) (hk : ∀ u ds w', K ({ a with defers := ds }.put o.dst u) w' → K' (({ a with defers := ds }.put dx v).put o.dst u) w') : o.wp P (a.put dx v) w K' Bot := by
  unfold Oper.wp at *
  rw [execOp_put o hs a dx v h1]
  have hd : ∀ ds, ({ a.put dx v with defers := ds } : Act) = { a with defers := ds }.put dx v := by cases dx <;> intro ds <;> rfl
  have hd0 : (a.put dx v).defers = a.defers := by cases dx <;> rfl
  generalize (execOp a.eval o).run P w = r at *
  cases r with
  | ok n w' =>
    cases n <;> simp only [Oper.upon] at h ⊢
    case value u => exact hk u a.defers w' h
    case skip => exact hk undef a.defers w' h
    case defer d => rw [hd0, hd]; exact hk undef _ w' h
    case enter f args =>
      refine Calls.mono h fun e w'' he => ?_
      cases e with
      | returned u => exact hk u a.defers w'' he
      | panicked c => exact he
      | outgrown => exact he
    case row row args => exact Rows.mono h fun u w'' he => hk u a.defers w'' he
  | halt x w' => cases x <;> simp only [Oper.upon] at h ⊢; exact h

theorem wp_unput {o : Oper} {a : Act} {w : World} {K K' : Act → World → Prop} {dx : Option Tmp} {v : Value} (hs : ∀ cs b, o.op ≠ .select cs b) (h1 : ∀ d, dx = some d → d ∉ o.looksAt ops) 
    (h : o.wp P (a.put dx v) w K Bot) (hk : ∀ u ds w', K (({ a with defers := ds }.put dx v).put o.dst u) w' → K' ({ a with defers := ds }.put o.dst u) w') : o.wp P a w K' Bot := by
  unfold Oper.wp at *
  rw [execOp_put o hs a dx v h1] at h
  have hd : ∀ ds, ({ a.put dx v with defers := ds } : Act) = { a with defers := ds }.put dx v := by cases dx <;> intro ds <;> rfl
  have hd0 : (a.put dx v).defers = a.defers := by cases dx <;> rfl
  generalize (execOp a.eval o).run P w = r at *
  cases r with
  | ok n w' =>
    cases n <;> simp only [Oper.upon] at h ⊢
    case value u => exact hk u a.defers w' h
    case skip => exact hk undef a.defers w' h
    case defer d => rw [hd0, hd] at h; exact hk undef _ w' h
    case enter f args =>
      refine Calls.mono h fun e w'' he => ?_
      cases e with
      | returned u => exact hk u a.defers w'' he
      | panicked c => exact he
      | outgrown => exact he
    case row row args => exact Rows.mono h fun u w'' he => hk u a.defers w'' he
  | halt x w' => cases x <;> simp only [Oper.upon] at h ⊢; exact h

theorem apart_symm {x y : Oper} (h : x.apart ops y = true) : y.apart ops x = true := by
  obtain ⟨h1, h2, h3⟩ := Oper.apart_spec h
  unfold Oper.apart
  cases hy : y.dst with
  | none =>
    cases hx : x.dst with
    | none => rfl
    | some d => have := h1 d hx; simp [this]
  | some e =>
    have k3 := h3 e hy
    cases hx : x.dst with
    | none => simp [k3]
    | some d =>
      have k1 := h1 d hx
      have k2 := h2 d hx
      rw [hy] at k2
      have : d ≠ e := fun he => k2 (by rw [he])
      simp [k1, k3, this]

theorem Gs.swap {i j : Nat} {oi oj : Oper} {K : Act → World → Prop} {a : Act} {w : World} (hsel : Region.noSelect ops = true) (hi : ops[i]? = some oi) (hj : ops[j]? = some oj) (hap : oi.apart ops oj = true)
    (hE : E.testBit i = false ∨ E.testBit j = false) (hK : E.testBit j = true → ∀ a w, K a w → S w) (h : Gs P ops S E i (Gs P ops S E j K) a w) : Gs P ops S E j (Gs P ops S E i K) a w := by
  obtain ⟨h1, h2, h3⟩ := Oper.apart_spec hap
  have hsi : ∀ cs b, oi.op ≠ .select cs b := fun cs b => Region.noSelect_spec hsel i oi cs b hi
  have hsj : ∀ cs b, oj.op ≠ .select cs b := fun cs b => Region.noSelect_spec hsel j oj cs b hj
  have h2' : ∀ d, oj.dst = some d → oi.dst ≠ some d := fun d hd hd' => h2 d hd' hd
  have toI : ∀ (a : Act) (u v : Value), SY P ops S oi v (a.put oj.dst u) ↔ SY P ops S oi v a := fun a u v =>
    ⟨fun k => k.same (execOp_put oi hsi a oj.dst u h3).symm (wanted_put oi a oj.dst u h3).symm, fun k => k.same (execOp_put oi hsi a oj.dst u h3) (wanted_put oi a oj.dst u h3)⟩
  have toJ : ∀ (a : Act) (u v : Value), SY P ops S oj v (a.put oi.dst u) ↔ SY P ops S oj v a := fun a u v =>
    ⟨fun k => k.same (execOp_put oj hsj a oi.dst u h1).symm (wanted_put oj a oi.dst u h1).symm, fun k => k.same (execOp_put oj hsj a oi.dst u h1) (wanted_put oj a oi.dst u h1)⟩
  have toD : ∀ (o : Oper) (a : Act) (ds : List Deferred) (v : Value), SY P ops S o v { a with defers := ds } ↔ SY P ops S o v a := fun o a ds v => ⟨fun k => k.same rfl rfl, fun k => k.same rfl rfl⟩
  have hs := h.1
  have wI : ∀ (a : Act) (u : Value), Region.wanted oi (yielded ops (a.put oj.dst u).tmps) = Region.wanted oi (yielded ops a.tmps) := fun a u => wanted_put oi a oj.dst u h3
  have wJ : ∀ (a : Act) (u : Value), Region.wanted oj (yielded ops (a.put oi.dst u).tmps) = Region.wanted oj (yielded ops a.tmps) := fun a u => wanted_put oj a oi.dst u h1
  rcases h.cases hi with ⟨v, hy, hei, h⟩ | ⟨hw, he, h⟩
  · rcases h.cases hj with ⟨u, hy', hej, h'⟩ | ⟨hw', he', h'⟩
    · -- both yield
      refine Gs.yield hj hs ((toJ a v u).1 hy') (by rw [wJ] at hej; exact hej) ?_
      refine Gs.yield hi hs ((toI a u v).2 hy) (by rw [wI]; exact hei) ?_
      rw [← Act.put_comm a v u h2]; exact h'
    · -- the second acts
      refine Gs.act hj hs (by rw [wJ] at hw'; exact hw') he' ?_
      refine wp_unput hsj h1 h' fun u ds w' hk => ?_
      refine Gs.yield hi (hK he' _ _ hk) ((toI _ u v).2 ((toD oi a ds v).2 hy)) (by rw [wI]; exact hei) ?_
      rw [← Act.put_comm _ v u h2]; exact hk
  · -- the first acts: the second yields
    have hEj : E.testBit j = false := hE.resolve_left (by rw [he]; simp)
    obtain ⟨u0, w0, ds0, h0⟩ := wp_some h
    have key : ∀ u ds w', Gs P ops S E j K ({ a with defers := ds }.put oi.dst u) w' → ∃ v, SY P ops S oj v a ∧ K (({ a with defers := ds }.put oi.dst u).put oj.dst v) w' := by
      intro u ds w' hk
      rcases hk.cases hj with ⟨v, hy, _, hk'⟩ | ⟨_, he', _⟩
      · exact ⟨v, (toD oj a ds v).1 ((toJ _ u v).1 hy), hk'⟩
      · rw [hEj] at he'; cases he'
    obtain ⟨v, hv, _⟩ := key u0 ds0 w0 h0
    refine Gs.yield hj hs hv (.inl hEj) ?_
    refine Gs.act hi hs (by rw [wI]; exact hw) he ?_
    refine wp_put hsi h3 h fun u ds w' hk => ?_
    obtain ⟨v', hv', hk'⟩ := key u ds w' hk
    have := SY.inj hs hv hv'
    subst this
    rw [Act.put_comm _ v u h2']; exact hk'

/-- What is not ordered comes to the front. -/
theorem G.front {F : Act → World → Prop} {j : Nat} {oj : Oper} (hsel : Region.noSelect ops = true) (hj : ops[j]? = some oj) : ∀ (p q : List Nat) (a : Act) (w : World),
    (∀ i ∈ p, ∃ oi, ops[i]? = some oi ∧ oi.apart ops oj = true ∧ (E.testBit i = false ∨ E.testBit j = false)) → ((∀ a w, F a w → S w) ∨ (E.testBit j = true → p ≠ [] → q ≠ [])) → G P ops S E F (p ++ j :: q) a w → G P ops S E F (j :: (p ++ q)) a w
  | [], q, a, w, _, _, h => h
  | i :: p, q, a, w, hp, hF, h => by
    obtain ⟨oi, hi, hap, hE⟩ := hp i (by simp)
    have h' : Gs P ops S E i (G P ops S E F (j :: (p ++ q))) a w := Gs.mono h fun a w k => G.front hsel hj p q a w (fun i hi => hp i (by simp [hi])) (hF.imp id (fun f he _ => f he (by simp))) k
    refine Gs.swap hsel hi hj hap hE (fun he a w k => ?_) h'
    replace k : G P ops S E F (p ++ q) a w := k
    rcases hF with hF | hF
    · cases hpq : p ++ q with
      | nil => rw [hpq] at k; exact hF _ _ k
      | cons x l => exact G.S_ (l := p ++ q) (by rw [hpq]; simp) k
    · exact G.S_ (l := p ++ q) (fun e => hF he (by simp) (List.append_eq_nil_iff.1 e).2) k

/-- The bits of what comes ahead of an operation: those that it names, and those ahead of them. -/
def ahead (B : List Nat) (es : List Edge) : Nat := es.foldl (fun s e => if Region.binds .any e then s ||| 2 ^ e.on ||| B.getD e.on 0 else s) 0

def chkOne (ops : Array Oper) (B : List Nat) (E : Nat) (j : Nat) (oj : Oper) : Bool :=
  oj.after.toList.all (fun e => !(Region.binds .any e) || Nat.blt e.on j) && Nat.beq (B.getD j 0 ||| ahead B oj.after.toList) (ahead B oj.after.toList) &&
  (List.range j).all fun i => (B.getD j 0).testBit i || (match ops[i]? with
    | some oi => !(E.testBit i && E.testBit j) && oi.apart ops oj
    | none => false)
def chkFrom (ops : Array Oper) (B : List Nat) (E : Nat) : Nat → List Oper → Bool
  | _, [] => true
  | j, o :: r => chkOne ops B E j o && chkFrom ops B E (j + 1) r
def chk (ops : Array Oper) (B : List Nat) (E : Nat) : Bool := Region.noSelect ops && chkFrom ops B E 0 ops.toList

theorem chkFrom_at {ops : Array Oper} {B : List Nat} {E : Nat} (l : List Oper) : ∀ (k : Nat), chkFrom ops B E k l = true → ∀ (i : Nat) (o : Oper), l[i]? = some o → chkOne ops B E (k + i) o = true := by
  induction l with
  | nil => intro k _ i o ho; simp at ho
  | cons x r ih =>
    intro k h i o ho
    rw [chkFrom, Bool.and_eq_true] at h
    cases i with
    | zero =>
      have : x = o := by simpa using ho
      subst this
      exact h.1
    | succ i =>
      have := ih (k + 1) h.2 i o (by simpa using ho)
      rw [show k + (i + 1) = k + 1 + i by omega]; exact this

theorem ahead_bit {B : List Nat} {i : Nat} : ∀ {es : List Edge} {s : Nat}, (es.foldl (fun s e => if Region.binds .any e then s ||| 2 ^ e.on ||| B.getD e.on 0 else s) s).testBit i = true →
    s.testBit i = true ∨ ∃ e ∈ es, Region.binds .any e = true ∧ (e.on = i ∨ (B.getD e.on 0).testBit i = true)
  | [], s, h => .inl h
  | e :: es, s, h => by
    simp only [List.foldl_cons] at h
    rcases ahead_bit h with h | ⟨e', he', hb, h⟩
    · by_cases hb : Region.binds .any e = true
      · rw [if_pos hb] at h
        simp only [Nat.testBit_or, Bool.or_eq_true, Nat.testBit_two_pow, decide_eq_true_eq] at h
        rcases h with (h | h) | h
        · exact .inl h
        · exact .inr ⟨e, by simp, hb, .inl h⟩
        · exact .inr ⟨e, by simp, hb, .inr h⟩
      · rw [if_neg hb] at h; exact .inl h
    · exact .inr ⟨e', by simp [he'], hb, h⟩

theorem chk_spec {ops : Array Oper} {B : List Nat} {E : Nat} (h : chk ops B E = true) : Region.noSelect ops = true ∧ ∀ j oj, ops[j]? = some oj →
    (∀ e ∈ oj.after, Region.binds .any e = true → e.on < j) ∧ (∀ i, (B.getD j 0).testBit i = true → ∃ e ∈ oj.after, Region.binds .any e = true ∧ (e.on = i ∨ (B.getD e.on 0).testBit i = true)) ∧
    (∀ i, i < j → (B.getD j 0).testBit i = true ∨ ∃ oi, ops[i]? = some oi ∧ oi.apart ops oj = true ∧ (E.testBit i = false ∨ E.testBit j = false)) := by
  simp only [chk, Bool.and_eq_true] at h
  refine ⟨h.1, fun j oj hj => ?_⟩
  have := chkFrom_at ops.toList 0 h.2 j oj (by simpa using hj)
  simp only [chkOne, Nat.zero_add, Bool.and_eq_true, List.all_eq_true] at this
  obtain ⟨⟨h1, h2⟩, h3⟩ := this
  refine ⟨fun e he hb => ?_, fun i hi => ?_, fun i hi => ?_⟩
  · have := h1 e (by simpa using he)
    simp [Nat.blt, hb] at this
    omega
  · have e2 := Nat.eq_of_beq_eq_true h2
    have : (ahead B oj.after.toList).testBit i = true := by
      rw [← e2, Nat.testBit_or, hi]; rfl
    rcases ahead_bit this with h | ⟨e, he, hb, h⟩
    · simp at h
    · exact ⟨e, by simpa using he, hb, h⟩
  · have := h3 i (List.mem_range.2 hi)
    rcases Bool.or_eq_true _ _ ▸ this with h | h
    · exact .inl h
    · right
      split at h
      · rename_i oi hoi
        simp only [Bool.and_eq_true, Bool.not_eq_true', Bool.and_eq_false_iff] at h
        exact ⟨oi, hoi, h.2, h.1⟩
      · cases h

/-- The last operation acts, and comes behind all others. -/
def finOk (ops : Array Oper) (B : List Nat) (E : Nat) : Bool := E.testBit (ops.size - 1) && (List.range (ops.size - 1)).all fun i => (B.getD (ops.size - 1) 0).testBit i

theorem getD_mark {listed : Array Bool} {i j : Nat} (hi : i < listed.size) : (listed.setIfInBounds i true).getD j true = if i = j then true else listed.getD j true := by
  by_cases h : i = j
  · subst h; simp [hi]
  · rw [if_neg h]; exact getD_set_ne true h

theorem wpAny_of_G {Q : Exit → Act → World → Prop} {B : List Nat} (hchk : chk ops B E = true) (hF : (∀ a w, Q .normal a w → S w) ∨ finOk ops B E = true) : ∀ (n : Nat) (L : List Nat) (listed : Array Bool) (a : Act) (w : World), L.length = n →
    (∀ i, i ∈ L ↔ i < ops.size ∧ listed.getD i true = false) → L.Pairwise (· < ·) → listed.size = ops.size →
    (∀ x y, x < ops.size → listed.getD x true = true → (B.getD x 0).testBit y = true → listed.getD y true = true) → G P ops S E (Q .normal) L a w → wpAny P .any ops Q n listed a w := by
  obtain ⟨hsel, hc⟩ := chk_spec hchk
  intro n
  induction n with
  | zero =>
    intro L listed a w hn hL _ _ _ hG
    have : L = [] := List.eq_nil_of_length_eq_zero hn
    subst this
    refine ⟨List.eq_nil_iff_forall_not_mem.2 fun j hj => ?_, hG⟩
    obtain ⟨h0, o, ho, _⟩ := mem_ready.1 hj
    have := (hL j).2 ⟨(Array.getElem?_eq_some_iff.1 ho).1, h0⟩
    cases this
  | succ n ih =>
    intro L listed a w hn hL hP hsz hcl hG
    refine ⟨fun hr => ?_, fun j hj => ?_⟩
    · -- the least that isn't listed is ready
      cases L with
      | nil => cases hn
      | cons i0 L =>
        obtain ⟨h1, h2⟩ := (hL i0).1 (by simp)
        obtain ⟨o, ho⟩ : ∃ o, ops[i0]? = some o := ⟨_, Array.getElem?_eq_getElem h1⟩
        have : i0 ∈ Region.ready .any ops listed := by
          refine mem_ready.2 ⟨h2, o, ho, fun e he hb0 => ?_⟩
          have hlt := (hc i0 o ho).1 e he hb0
          cases hb : listed.getD e.on true with
          | true =>
            have : e.on < listed.size := by omega
            simpa [this] using hb
          | false =>
            have hm := (hL e.on).2 ⟨by omega, hb⟩
            rcases List.mem_cons.1 hm with he' | hm
            · omega
            · have := List.rel_of_pairwise_cons hP hm
              omega
        rw [hr] at this; cases this
    · obtain ⟨h0, oj, hoj, hall⟩ := mem_ready.1 hj
      have hjlt : j < ops.size := (Array.getElem?_eq_some_iff.1 hoj).1
      have hjL : j ∈ L := (hL j).2 ⟨hjlt, h0⟩
      obtain ⟨p, q, rfl⟩ := List.append_of_mem hjL
      -- what is ahead of j is listed
      have hah : ∀ i, (B.getD j 0).testBit i = true → listed.getD i true = true := by
        intro i hi
        obtain ⟨e, he, hb, hi⟩ := (hc j oj hoj).2.1 i hi
        have hl := hall e he hb
        have hlt := (hc j oj hoj).1 e he hb
        have hl' : listed.getD e.on true = true := by
          have : e.on < listed.size := by omega
          simpa [this] using hl
        rcases hi with rfl | hi
        · exact hl'
        · exact hcl e.on i (by omega) hl' hi
      have hP' := List.pairwise_append.1 hP
      have hfront := G.front (P := P) (S := S) (E := E) (F := Q .normal) hsel hoj p q a w (fun i hi => by
        have hij : i < j := hP'.2.2 i hi j (by simp)
        rcases (hc j oj hoj).2.2 i hij with hb | h
        · have h1 := hah i hb
          have h2 := ((hL i).1 (List.mem_append.2 (.inl hi))).2
          rw [h1] at h2; cases h2
        · exact h) (hF.imp id fun hf he hp0 => by
          -- the last is there still
          simp only [finOk, Bool.and_eq_true, List.all_eq_true, List.mem_range] at hf
          have hlastL : ops.size - 1 ∈ p ++ j :: q := by
            refine (hL _).2 ⟨by omega, ?_⟩
            cases hb : listed.getD (ops.size - 1) true with
            | false => rfl
            | true =>
              by_cases hj1 : j = ops.size - 1
              · rw [hj1, hb] at h0; cases h0
              · have := hcl (ops.size - 1) j (by omega) hb (hf.2 j (by omega))
                rw [this] at h0; cases h0
          obtain ⟨i, hi⟩ := List.exists_mem_of_ne_nil p hp0
          have hij : i < j := hP'.2.2 i hi j (by simp)
          by_cases hj1 : j = ops.size - 1
          · -- then what is ahead of it is listed
            have h1 := hah i (by rw [hj1]; exact hf.2 i (by omega))
            have h2 := ((hL i).1 (List.mem_append.2 (.inl hi))).2
            rw [h1] at h2; cases h2
          · intro hq
            subst hq
            rcases List.mem_append.1 hlastL with h | h
            · have := hP'.2.2 _ h j (by simp); omega
            · simp at h; omega) hG
      have hjs : j < listed.size := by omega
      have ih' : ∀ a w, G P ops S E (Q .normal) (p ++ q) a w → wpAny P .any ops Q n (listed.setIfInBounds j true) a w := by
        intro a w h
        have hnd : j ∉ p ++ q := by
          intro hm
          rcases List.mem_append.1 hm with hm | hm
          · have := hP'.2.2 j hm j (by simp); omega
          · have := List.rel_of_pairwise_cons hP'.2.1 hm; omega
        refine ih (p ++ q) (listed.setIfInBounds j true) a w (by simp at hn ⊢; omega) (fun i => ?_) ?_ (by simpa using hsz) (fun x y hx hlx hb => ?_) h
        · rw [getD_mark hjs]
          by_cases hij : j = i
          · subst hij
            simp only [if_true, Bool.true_eq_false, and_false, iff_false]
            exact hnd
          · rw [if_neg hij, ← hL i]
            simp only [List.mem_append, List.mem_cons]
            constructor
            · rintro (h | h)
              · exact .inl h
              · exact .inr (.inr h)
            · rintro (h | h | h)
              · exact .inl h
              · exact absurd h.symm hij
              · exact .inr h
        · exact List.pairwise_append.2 ⟨hP'.1, (List.pairwise_cons.1 hP'.2.1).2, fun x hx y hy => hP'.2.2 x hx y (List.mem_cons_of_mem _ hy)⟩
        · rw [getD_mark hjs] at hlx ⊢
          split
          · rfl
          · rename_i hne
            split at hlx
            · rename_i hjx; subst hjx; exact hah y hb
            · exact hcl x y hx hlx hb
      -- one step
      have hst : Gs P ops S E j (wpAny P .any ops Q n (listed.setIfInBounds j true)) a w := Gs.mono hfront ih'
      unfold wpOp
      simp only [hoj]
      rcases hst.cases hoj with ⟨v, hy, _, hk⟩ | ⟨hw, _, hk⟩
      · rcases hy with ⟨hw, hv⟩ | ⟨hw, rfl⟩
        · rw [if_pos hw]
          left
          rw [Oper.wp, hv w hst.1, Oper.upon_value]; exact hk
        · rw [if_neg (by rw [hw]; simp)]; exact hk
      · rw [if_pos hw]
        left
        -- the weaker exits
        unfold Oper.wp at hk ⊢
        generalize (execOp a.eval oj).run P w = r at hk
        cases r with
        | ok nx w' =>
          cases nx <;> simp only [Oper.upon] at hk ⊢
          case value u => exact hk
          case skip => exact hk
          case defer d => exact hk
          case enter f args =>
            refine Calls.mono hk fun e w'' he => ?_
            cases e with
            | returned u => exact he
            | panicked c => exact he.elim
            | outgrown => exact absurd he not_letsOut
          case row row args => exact hk
        | halt x w' => cases x <;> simp only [Oper.upon] at hk ⊢; exact hk.elim

theorem wp_draw {Q : Exit → Act → World → Prop} {B : List Nat} {id : Nat} {a : Act} {w : World} (hm : P.follows .mixedOrders = true) (hchk : chk ops B E = true) (hF : (∀ a w, Q .normal a w → S w) ∨ finOk ops B E = true)
    (h : G P ops S E (Q .normal) (List.range ops.size) a { w with drawn := w.drawn + 1 }) : (Code.region id ops true).wp P Q a w := by
  refine wp_region_any hm (wpAny_of_G hchk hF ops.size (List.range ops.size) _ a _ (by simp) (fun i => ?_) ?_ (by simp) (fun x y hx hl _ => ?_) h)
  · simp only [List.mem_range]
    constructor
    · intro hi; exact ⟨hi, by simp [hi]⟩
    · exact fun h => h.1
  · exact List.pairwise_lt_range
  · simp [hx] at hl
end

def clos (l : List Oper) : List Nat := l.foldl (fun acc o => acc ++ [ahead acc o.after.toList]) []

/-- The judgement within a region that draws: S is what hS and blS tell. -/
def VD (X : Cx) (P : Program) (N : Nat) (ops : Array Oper) (hS : Hp) (blS : Bl) (E : Nat) (F : Act → World → Prop) (k : Nat) (l : List Oper) (σ : List (Nat × Value)) (h : Hp) (bl : Bl) : Prop :=
  ∀ a w, Fr N σ a → Rel X h bl w → Knows hS blS w → (∀ j, l[j]? = ops[k + j]?) → G P ops (Knows hS blS) E F (List.range' k l.length) a w

section
variable {X : Cx} {P : Program} {N : Nat} {ops : Array Oper} {hS h : Hp} {blS bl : Bl} {E k : Nat} {F : Act → World → Prop} {Q : Exit → Act → World → Prop} {σ : List (Nat × Value)} {rest : List Oper}

theorem SubB.knows {w : World} (r : Rel X h bl w) (h1 : Sub hS h) (h2 : SubB bl blS) : Knows hS blS w :=
  ⟨fun b o hb => r.know b o (h1 b o hb), fun p hp => ((r.sub h2).trk p hp).1⟩

theorem V_draw {id : Nat} {l : List Oper} (hS : Hp) (blS : Bl) (E : Nat) (hm : P.follows .mixedOrders = true) (hc : chk l.toArray (clos l) E = true) (h1 : Sub hS h) (h2 : SubB bl blS)
    (k : VD X P N l.toArray hS blS E (fun a w => Knows hS blS w ∧ Q .normal a w) 0 l σ h bl) : V X P N Q (.region id l.toArray true) σ h bl := by
  intro a w ha hr
  let Q' : Exit → Act → World → Prop := fun e a w => (e = .normal → Knows hS blS w) ∧ Q e a w
  refine Code.wp_mono (Q := Q') (fun e a w q => q.2) ?_
  refine wp_draw (S := Knows hS blS) hm hc (.inl fun a w q => q.1 rfl) ?_
  have hr' := hr.drew (w.drawn + 1)
  have := k a _ ha hr' (SubB.knows hr' h1 h2) (fun j => by simp)
  rw [List.range_eq_range']
  have e : (fun a w => Knows hS blS w ∧ Q .normal a w) = Q' .normal := by
    funext a w; simp [Q']
  rw [e] at this
  simpa using this

/-- The last operation acts behind all others: what is known need not hold behind it. -/
theorem V_drawL {id : Nat} {l : List Oper} (hS : Hp) (blS : Bl) (E : Nat) (hm : P.follows .mixedOrders = true) (hc : chk l.toArray (clos l) E = true) (hf : finOk l.toArray (clos l) E = true) (h1 : Sub hS h) (h2 : SubB bl blS)
    (k : VD X P N l.toArray hS blS E (Q .normal) 0 l σ h bl) : V X P N Q (.region id l.toArray true) σ h bl := by
  intro a w ha hr
  refine wp_draw (S := Knows hS blS) hm hc (.inr hf) ?_
  have hr' := hr.drew (w.drawn + 1)
  have := k a _ ha hr' (SubB.knows hr' h1 h2) (fun j => by simp)
  rw [List.range_eq_range']
  simpa using this

theorem VD_nil (q : VQ X N Q .normal σ h bl) : VD X P N ops hS blS E (fun a w => Knows hS blS w ∧ Q .normal a w) k [] σ h bl := fun a w ha hr hk _ => ⟨hk, q a w ha hr⟩

theorem VD_last {o : Oper} {Post : List (Nat × Value) → Hp → Bl → Prop} (hw : wantd ops σ o = some true) (hE : Nat.testBit E k = true) (he : Eff X P N o σ h bl Post)
    (q : ∀ σ' h' bl', Post σ' h' bl' → VQ X N Q .normal σ' h' bl') : VD X P N ops hS blS E (Q .normal) k [o] σ h bl := by
  intro a w ha hr hk ho
  have h0 : ops[k]? = some o := by simpa using (ho 0).symm
  show Gs _ _ _ _ _ (G _ _ _ _ _ []) _ _
  refine ⟨hk, o, h0, ?_⟩
  rw [if_pos (wanted_of ha hw), if_pos hE]
  exact wp_exits (fun a' w' ⟨σ', h', bl', hp, hf, hr'⟩ => q σ' h' bl' hp a' w' hf hr') (he a w ha hr)

theorem tail_ops {o : Oper} (h : ∀ j, (o :: rest)[j]? = ops[k + j]?) : ∀ j, rest[j]? = ops[k + 1 + j]? := fun j => by
  have := h (j + 1)
  rw [show k + 1 + j = k + (j + 1) by omega]
  simpa using this

theorem VD_still {o : Oper} {d : Nat} {v : Value} (hw : wantd ops σ o = some true) (hE : Nat.testBit E k = false) (hd : o.dst = some d) (hlt : Nat.blt d N = true) (hs : Still P N σ hS blS o v)
    (q : VD X P N ops hS blS E F (k + 1) rest ((d, v) :: σ) h bl) : VD X P N ops hS blS E F k (o :: rest) σ h bl := by
  intro a w ha hr hk ho
  have h0 : ops[k]? = some o := by simpa using (ho 0).symm
  show Gs _ _ _ _ _ (G _ _ _ _ _ (List.range' (k + 1) rest.length)) _ _
  refine ⟨hk, o, h0, ?_⟩
  rw [if_pos (wanted_of ha hw), if_neg (by rw [hE]; simp), hd]
  exact ⟨v, fun w' hw' => hs a w' ha hw', q _ _ (ha.put (Nat.le_of_ble_eq_true hlt) v) hr hk (tail_ops ho)⟩

theorem VD_skip {o : Oper} {d : Nat} (hw : wantd ops σ o = some false) (hd : o.dst = some d) (hlt : Nat.blt d N = true)
    (q : VD X P N ops hS blS E F (k + 1) rest ((d, undef) :: σ) h bl) : VD X P N ops hS blS E F k (o :: rest) σ h bl := by
  intro a w ha hr hk ho
  have h0 : ops[k]? = some o := by simpa using (ho 0).symm
  show Gs _ _ _ _ _ (G _ _ _ _ _ (List.range' (k + 1) rest.length)) _ _
  refine ⟨hk, o, h0, ?_⟩
  rw [if_neg (by rw [wanted_of ha hw]; simp), hd]
  exact q _ _ (ha.put (Nat.le_of_ble_eq_true hlt) _) hr hk (tail_ops ho)

theorem VD_skip0 {o : Oper} (hw : wantd ops σ o = some false) (hd : o.dst = none)
    (q : VD X P N ops hS blS E F (k + 1) rest σ h bl) : VD X P N ops hS blS E F k (o :: rest) σ h bl := by
  intro a w ha hr hk ho
  have h0 : ops[k]? = some o := by simpa using (ho 0).symm
  show Gs _ _ _ _ _ (G _ _ _ _ _ (List.range' (k + 1) rest.length)) _ _
  refine ⟨hk, o, h0, ?_⟩
  rw [if_neg (by rw [wanted_of ha hw]; simp), hd]
  exact q _ _ ha hr hk (tail_ops ho)

theorem VD_eff {o : Oper} {Post : List (Nat × Value) → Hp → Bl → Prop} (hw : wantd ops σ o = some true) (hE : Nat.testBit E k = true) (he : Eff X P N o σ h bl Post)
    (q : ∀ σ' h' bl', Post σ' h' bl' → (Sub hS h' ∧ SubB bl' blS) ∧ VD X P N ops hS blS E F (k + 1) rest σ' h' bl') : VD X P N ops hS blS E F k (o :: rest) σ h bl := by
  intro a w ha hr hk ho
  have h0 : ops[k]? = some o := by simpa using (ho 0).symm
  show Gs _ _ _ _ _ (G _ _ _ _ _ (List.range' (k + 1) rest.length)) _ _
  refine ⟨hk, o, h0, ?_⟩
  rw [if_pos (wanted_of ha hw), if_pos hE]
  exact wp_exits (fun a' w' ⟨σ', h', bl', hp, hf, hr'⟩ => (q σ' h' bl' hp).2 a' w' hf hr' (SubB.knows hr' (q σ' h' bl' hp).1.1 (q σ' h' bl' hp).1.2) (tail_ops ho)) (he a w ha hr)

/-- A bool in a slot is decided. -/
theorem VD_bool {l : List Oper} (t : Nat) {b : Bool} (ht : look σ t = some (.bool b)) (k1 : b = true → VD X P N ops hS blS E F k l ((t, .bool true) :: σ) h bl)
    (k2 : b = false → VD X P N ops hS blS E F k l ((t, .bool false) :: σ) h bl) : VD X P N ops hS blS E F k l σ h bl := by
  intro a w ha hr hk ho
  have key : ∀ c, b = c → Fr N ((t, .bool c) :: σ) a := by
    rintro c rfl
    refine ⟨ha.defers, ha.size, fun s u hs => ?_⟩
    rw [look_cons] at hs
    split at hs
    · rename_i e; subst e; cases hs; exact ha.at_ _ _ ht
    · exact ha.at_ _ _ hs
  cases hb : b with
  | true => exact k1 hb a w (key _ hb) hr hk ho
  | false => exact k2 hb a w (key _ hb) hr hk ho
end
end Go.Proofs.Ytdglignjoojimaa

/- More operations: comparisons with nil, parts of structs, slices that grow, copies. No conditions. -/
set_option linter.unusedVariables false
set_option linter.unusedSimpArgs false
namespace Go.Proofs.Ytdglignjoojimaa

section
variable {X : Cx} {P : Program} {N : Nat} {ops : Array Oper} {Q : Exit → Act → World → Prop} {σ : List (Nat × Value)} {h : Hp} {bl bl' : Bl} {rest : List Oper}
variable {dst : Option Tmp} {d : Nat} {ty : TypeId} {pos : String} {aft : Array Edge} {g : Option (Nat × Bool)}

theorem S_pick_t {c x y : Operand} {u : Value} (hc : ev σ c = some (.bool true)) (hx : ev σ x = some u) : Still P N σ h bl ⟨dst, .pick c x y, ty, pos, aft, g⟩ u := by
  intro a w ha _
  simp only [execOp, ha.eval hc, ha.eval hx]; rfl
theorem S_pick_f {c x y : Operand} {u : Value} (hc : ev σ c = some (.bool false)) (hy : ev σ y = some u) : Still P N σ h bl ⟨dst, .pick c x y, ty, pos, aft, g⟩ u := by
  intro a w ha _
  simp only [execOp, ha.eval hc, ha.eval hy]; rfl
theorem S_nilf {x : Operand} {f : FuncId} {fs cs : Array Value} (hx : ev σ x = some (.func (.func f) fs cs)) : Still P N σ h bl ⟨dst, .nilCheck x, ty, pos, aft, g⟩ (.func (.func f) fs cs) := by
  intro a w ha _
  simp only [execOp, ha.eval hx]; rfl
theorem S_fn {fn : Fn} {first captured : List Operand} {fs cs : List Value} (h1 : evs σ first = some fs) (h2 : evs σ captured = some cs) :
    Still P N σ h bl ⟨dst, .makeFunc fn first.toArray captured.toArray, ty, pos, aft, g⟩ (.func fn fs.toArray cs.toArray) := by
  intro a w ha _
  simp only [execOp, Instr.makeFunc, List.map_toArray, evs_map ha h1, evs_map ha h2]; rfl

theorem eq_slice {t e : TypeId} {A : Option Addr} {n c : Nat} (hu : P.underlying t = some (.slice e)) (w : World) : (Op.equal t (.slice A n c) (.slice none 0 0)).run P w = .ok A.isNone w := by
  have : ∀ d, (Op.equalIn (d + 1) t (.slice A n c) (.slice none 0 0)).run P w = .ok A.isNone w := fun d => by
    simp only [Op.equalIn, Sem.run_bind, run_under w hu, Result.andThen_ok]
    cases A <;> rfl
  exact this 9999
theorem eq_ptr {t e : TypeId} {A : Option Addr} (hu : P.underlying t = some (.pointer e)) (w : World) : (Op.equal t (.pointer A) (.pointer none)).run P w = .ok A.isNone w := by
  have : ∀ d, (Op.equalIn (d + 1) t (.pointer A) (.pointer none)).run P w = .ok A.isNone w := fun d => by
    simp only [Op.equalIn, Sem.run_bind, run_under w hu, Result.andThen_ok]
    cases A <;> rfl
  exact this 9999
theorem eq_bool {t : TypeId} {b c : Bool} (hu : P.underlying t = some .bool) (w : World) : (Op.equal t (.bool b) (.bool c)).run P w = .ok (b == c) w := by
  have : ∀ d, (Op.equalIn (d + 1) t (.bool b) (.bool c)).run P w = .ok (b == c) w := fun d => by
    simp only [Op.equalIn, Sem.run_bind, run_under w hu, Result.andThen_ok]; rfl
  exact this 9999
theorem S_eqnil {t u : TypeId} {e : TypeId} {x y : Operand} {A : Option Addr} {n c : Nat} (hu : P.underlying t = some (.slice e)) (hx : ev σ x = some (.slice A n c)) (hy : ev σ y = some (.slice none 0 0)) :
    Still P N σ h bl ⟨dst, .binOp .eql t x y u, ty, pos, aft, g⟩ (.bool (A.isNone)) := by
  intro a w ha _
  simp only [execOp, ha.eval hx, ha.eval hy, eqGuard, binOp, Sem.run_bind, eq_slice hu, Result.andThen_ok, Sem.run_pure]
  rfl
theorem S_nenil {t u : TypeId} {e : TypeId} {x y : Operand} {A : Option Addr} {n c : Nat} (hu : P.underlying t = some (.slice e)) (hx : ev σ x = some (.slice A n c)) (hy : ev σ y = some (.slice none 0 0)) :
    Still P N σ h bl ⟨dst, .binOp .neq t x y u, ty, pos, aft, g⟩ (.bool (!A.isNone)) := by
  intro a w ha _
  simp only [execOp, ha.eval hx, ha.eval hy, eqGuard, binOp, Sem.run_bind, eq_slice hu, Result.andThen_ok, Sem.run_pure]
  rfl
theorem S_peqnil {t u : TypeId} {e : TypeId} {x y : Operand} {A : Option Addr} (hu : P.underlying t = some (.pointer e)) (hx : ev σ x = some (.pointer A)) (hy : ev σ y = some (.pointer none)) :
    Still P N σ h bl ⟨dst, .binOp .eql t x y u, ty, pos, aft, g⟩ (.bool (A.isNone)) := by
  intro a w ha _
  simp only [execOp, ha.eval hx, ha.eval hy, eqGuard, binOp, Sem.run_bind, eq_ptr hu, Result.andThen_ok, Sem.run_pure]
  rfl
theorem S_pnenil {t u : TypeId} {e : TypeId} {x y : Operand} {A : Option Addr} (hu : P.underlying t = some (.pointer e)) (hx : ev σ x = some (.pointer A)) (hy : ev σ y = some (.pointer none)) :
    Still P N σ h bl ⟨dst, .binOp .neq t x y u, ty, pos, aft, g⟩ (.bool (!A.isNone)) := by
  intro a w ha _
  simp only [execOp, ha.eval hx, ha.eval hy, eqGuard, binOp, Sem.run_bind, eq_ptr hu, Result.andThen_ok, Sem.run_pure]
  rfl
theorem S_beq {t u : TypeId}  {x y : Operand} {b c : Bool} (hu : P.underlying t = some .bool) (hx : ev σ x = some (.bool b)) (hy : ev σ y = some (.bool c)) :
    Still P N σ h bl ⟨dst, .binOp .eql t x y u, ty, pos, aft, g⟩ (.bool (b == c)) := by
  intro a w ha _
  simp only [execOp, ha.eval hx, ha.eval hy, eqGuard, binOp, Sem.run_bind, eq_bool hu, Result.andThen_ok, Sem.run_pure]
  rfl
theorem S_bne {t u : TypeId}  {x y : Operand} {b c : Bool} (hu : P.underlying t = some .bool) (hx : ev σ x = some (.bool b)) (hy : ev σ y = some (.bool c)) :
    Still P N σ h bl ⟨dst, .binOp .neq t x y u, ty, pos, aft, g⟩ (.bool (!(b == c))) := by
  intro a w ha _
  simp only [execOp, ha.eval hx, ha.eval hy, eqGuard, binOp, Sem.run_bind, eq_bool hu, Result.andThen_ok, Sem.run_pure]
  rfl

/-- An operation that leaves the world alone, as one that acts. -/
def PVal (σ : List (Nat × Value)) (h : Hp) (bl : Bl) (d : Nat) (v : Value) (σ' : List (Nat × Value)) (h' : Hp) (bl' : Bl) : Prop := σ' = (d, v) :: σ ∧ h = h' ∧ bl' = bl
theorem E_still {op : Op} {v : Value} (hlt : Nat.blt d N = true) (hs : Still P N σ h bl ⟨some d, op, ty, pos, aft, g⟩ v) : Eff X P N ⟨some d, op, ty, pos, aft, g⟩ σ h bl (PVal σ h bl d v) := by
  intro a w ha hr
  rw [Oper.wp, hs a w ha hr.knows, Oper.upon_value]
  exact ⟨_, _, _, ⟨rfl, rfl, rfl⟩, ha.put (Nat.le_of_ble_eq_true hlt) v, hr⟩

/-! ### Parts of lists -/
inductive HeadR : List Value → Nat → List Value → Prop
  | nil {l : List Value} : HeadR l 0 []
  | cons {x : Value} {l r : List Value} {n : Nat} : HeadR l n r → HeadR (x :: l) (n + 1) (x :: r)
inductive TakeR : List Value → Nat → Nat → List Value → Prop
  | here {l r : List Value} {n : Nat} : HeadR l n r → TakeR l 0 n r
  | there {x : Value} {l r : List Value} {off n : Nat} : TakeR l off n r → TakeR (x :: l) (off + 1) n r
theorem HeadR.spec {l r : List Value} {n : Nat} (k : HeadR l n r) : r.length = n ∧ ∀ j (hj : j < r.length), l[j]? = some r[j] := by
  induction k with
  | nil => exact ⟨rfl, fun j hj => by simp at hj⟩
  | cons _ ih =>
    refine ⟨by simp [ih.1], fun j hj => ?_⟩
    cases j with
    | zero => simp
    | succ j => simpa using ih.2 j (by simpa using hj)
theorem TakeR.spec {l r : List Value} {off n : Nat} (k : TakeR l off n r) : r.length = n ∧ ∀ j (hj : j < r.length), l[off + j]? = some r[j] := by
  induction k with
  | here k => simpa using k.spec
  | there _ ih =>
    refine ⟨ih.1, fun j hj => ?_⟩
    have := ih.2 j hj
    simpa [Nat.add_right_comm] using this
theorem Cells.of_at {b : Nat} {cs : Array Value} {T : TypeId} {fz : Nat × Nat} (hb : h b = some (.cells cs T fz) ∨ (b, .cells cs T fz) ∈ bl.flatten) : ∀ {r : List Value} {off : Nat}, (∀ j (hj : j < r.length), cs[off + j]? = some r[j]) → Cells h bl b off r
  | [], _, _ => trivial
  | v :: r, off, hr => ⟨⟨cs, T, fz, hb, by have := hr 0 (by simp); simpa only [Nat.add_zero, List.getElem_cons_zero] using this⟩, Cells.of_at hb fun j hj => by
      have := hr (j + 1) (by simpa using hj)
      simpa [Nat.add_assoc, Nat.add_comm 1 j] using this⟩
theorem Cells.trk {b off n : Nat} {l r : List Value} {T : TypeId} {fz : Nat × Nat} (hb : Has bl b (.cells l.toArray T fz)) (k : TakeR l off n r) : Cells h bl b off r :=
  Cells.of_at (.inr hb.mem) fun j hj => by simpa using k.spec.2 j hj
theorem Cells.all {b : Nat} {l : List Value} {T : TypeId} {fz : Nat × Nat} (hb : Has bl b (.cells l.toArray T fz)) : Cells h bl b 0 l :=
  Cells.of_at (.inr hb.mem) fun j hj => by simp [hj]

/-! ### Structs that are built -/
inductive BuildR (P : Program) (fs : Array Field) : List Value → List (Nat × Value) → List Value → Prop
  | nil {zs : List Value} : BuildR P fs zs [] zs
  | cons {zs z1 z2 vc : List Value} {i : Nat} {v : Value} {fd : Field} {ti : TypeInfo} {r : List (Nat × Value)} : fs[i]? = some fd → P.info? fd.type = some ti → v.cells = vc.toArray → ti.size = vc.length → Nat.ble (fd.offset + vc.length) zs.length = true →
      PutR zs fd.offset vc z1 → BuildR P fs z1 r z2 → BuildR P fs zs ((i, v) :: r) z2

theorem PutR.spec {l l' vs : List Value} {n : Nat} (p : PutR l n vs l') : l'.length = l.length ∧ n + vs.length ≤ l.length ∨ vs = [] ∧ l' = l := by
  induction p with
  | nil => exact .inr ⟨rfl, rfl⟩
  | cons s p ih =>
    obtain ⟨hn, rfl⟩ := s.eq
    left
    rcases ih with ⟨h1, h2⟩ | ⟨h1, h2⟩
    · simp at h1 h2 ⊢; omega
    · subst h1 h2; simp; omega
theorem PutR.fold {l l' vs : List Value} {n : Nat} (p : PutR l n vs l') : ∀ (k : Nat), ((vs.zipIdx k).foldl (fun cs (c, j) => cs.setIfInBounds (n - k + j) c) l.toArray) = l'.toArray ∨ n < k := by
  induction p with
  | nil => intro k; left; rfl
  | cons s p ih =>
    rename_i l l1 l2 vs n v
    obtain ⟨hn, rfl⟩ := s.eq
    intro k
    rcases Nat.lt_or_ge n k with hk | hk
    · exact .inr hk
    · left
      rcases ih (k + 1) with e | e
      · simp only [List.zipIdx_cons, List.foldl_cons]
        rw [show n + 1 - (k + 1) = n - k by omega] at e
        rw [show n - k + k = n by omega, List.setIfInBounds_toArray]
        exact e
      · omega

theorem run_fill {fs : Array Field} {place : Nat → Option (Nat × Nat)} (hpl : ∀ (i : Nat) (fd : Field) (ti : TypeInfo), fs[i]? = some fd → P.info? fd.type = some ti → place i = some (fd.offset, ti.size)) {zs out : List Value} {ps : List (Nat × Value)}
    (b : BuildR P fs zs ps out) : Instr.fill place zs.toArray ps = some out.toArray := by
  induction b with
  | nil => rfl
  | cons h1 h2 h3 h4 h6 h5 _ ih =>
    rename_i zs z1 z2 vc i v fd ti r _
    have hle := Nat.le_of_ble_eq_true h6
    have hf := h5.fold 0
    simp only [Nat.sub_zero, Nat.not_lt_zero, or_false] at hf
    have hz : (vc.toArray.zipIdx.foldl (fun cs (c, j) => cs.setIfInBounds (fd.offset + j) c) zs.toArray) = z1.toArray := by
      rw [← hf, ← Array.foldl_toList, Array.toList_zipIdx]
    simp only [Instr.fill, hpl i fd ti h1 h2, h3]
    rw [if_neg (by simp [h4]; omega)]
    rw [hz, ih]

theorem run_places {fs : List Field} (w : World) (hi : ∀ fd ∈ fs, ∃ ti, P.info? fd.type = some ti) :
    (fs.mapM (fun (f : Field) => do pure (f.offset, ← sizeOf f.type)) : Sem (List (Nat × Nat))).run P w = .ok (fs.map fun f => (f.offset, P.cellsOf f.type)) w := by
  induction fs with
  | nil => simp
  | cons f fs ih =>
    obtain ⟨ti, ht⟩ := hi f (by simp)
    have hc : P.cellsOf f.type = ti.size := by simp [Program.cellsOf, ht]
    simp only [List.mapM_cons, Sem.run_bind, run_size w ht, Result.andThen_ok, Sem.run_pure, ih fun fd hfd => hi fd (List.mem_cons_of_mem _ hfd), List.map_cons, hc]

/-- Have all fields a type that is there? -/
def okFs (P : Program) (fs : Array Field) : Bool := fs.toList.all fun f => (P.info? f.type).isSome

theorem S_struct {t : TypeId} {ps : List (Nat × Operand)} {vs : List (Nat × Value)} {fs : Array Field} {zs out : List Value} (hu : P.underlying t = some (.struct fs)) (hok : okFs P fs = true)
    (hz : ((P.info? t).bind (·.zero)).map (·.cells) = some zs.toArray) (hp : parts σ ps = some vs) (hb : BuildR P fs zs vs out) :
    Still P N σ h bl ⟨dst, .build t ps.toArray, ty, pos, aft, g⟩ (.agg out.toArray) := by
  refine S_build hp fun w => ?_
  obtain ⟨i, hi, hz⟩ := Option.map_eq_some_iff.1 hz
  obtain ⟨i', hi, hz'⟩ := Option.bind_eq_some_iff.1 hi
  have hall : ∀ fd ∈ fs.toList, ∃ ti, P.info? fd.type = some ti := fun fd hfd => Option.isSome_iff_exists.1 (List.all_eq_true.1 hok fd hfd)
  have hpl : (fs.mapM (fun (f : Field) => do pure (f.offset, ← sizeOf f.type)) : Sem (Array (Nat × Nat))).run P w = .ok (fs.map fun f => (f.offset, P.cellsOf f.type)) w := by
    have := run_places w hall
    rw [show fs = fs.toList.toArray by simp, List.mapM_toArray]
    simp only [Sem.run_map, this, Result.andThen_ok, List.map_toArray]
  have hf : Instr.fill ((fs.map fun f => (f.offset, P.cellsOf f.type))[·]?) i.cells vs = some out.toArray := by
    rw [hz]
    refine run_fill (fun i fd ti h1 h2 => ?_) hb
    simp [h1, Program.cellsOf, h2]
  simp only [Instr.build, zeroValue, Sem.run_bind, run_tinfo w hi, Result.andThen_ok, hz', Sem.run_pure, run_under w hu, hpl, hf]

theorem E_bs0 {t e : TypeId} {i : TypeInfo} (hlt : Nat.blt d N = true) (hu : P.underlying t = some (.slice e)) (hi : P.info? e = some i) :
    Eff X P N ⟨some d, .buildSlice t 0 (List.toArray []), ty, pos, aft, g⟩ σ h bl (PNew X σ h bl d (fun b => .slice (some ⟨b, 0, none⟩) 0 0) (.cells (List.toArray []) e (0, 0))) := by
  refine E_bslice (vs := []) hlt rfl fun w => ?_
  simp only [Instr.buildSlice, Sem.run_bind, run_under w hu, Result.andThen_ok, run_size w hi, Nat.zero_mul]
  rw [if_neg (by omega), if_pos trivial]
  simp [Instr.fill, run_new, show Array.range 0 = #[] from rfl]

theorem fill_one {n : Nat} {v : Value} {vc : List Value} {zs : Array Value} (hz : zs.size = n) (hn : vc.length = n) (hc : v.cells = vc.toArray) :
    Instr.fill (fun i => some (i * n, n)) zs [(0, v)] = some vc.toArray := by
  have key : ∀ (l : List Value) (k : Nat) (acc : List Value), k + l.length ≤ acc.length → (l.zipIdx k).foldl (fun cs (p : Value × Nat) => cs.setIfInBounds p.2 p.1) acc.toArray = (acc.take k ++ l ++ acc.drop (k + l.length)).toArray := by
    intro l
    induction l with
    | nil => intro k acc _; simp
    | cons x l ih =>
      intro k acc hk
      simp only [List.zipIdx_cons, List.foldl_cons, List.setIfInBounds_toArray]
      rw [ih (k + 1) (acc.set k x) (by simp at hk ⊢; omega)]
      congr 1
      have hlt : k < acc.length := by simp at hk; omega
      rw [List.take_succ_eq_append_getElem (by simpa using hlt), List.take_set_of_le (Nat.le_refl _), List.getElem_set_self, List.drop_set_of_lt (by omega)]
      simp [Nat.add_assoc, Nat.add_comm 1]
  simp only [Instr.fill, hc, Nat.zero_mul, Nat.zero_add]
  rw [if_neg (by simp [hn, hz])]
  have := key vc 0 zs.toList (by simp [hn, hz])
  rw [← Array.foldl_toList, Array.toList_zipIdx]
  simp only [Option.some.injEq]
  rw [show (vc.toArray.toList.zipIdx) = vc.zipIdx 0 by simp]
  have e : zs.toList.toArray = zs := by simp
  rw [e] at this
  rw [this]
  simp [hn, hz, List.drop_eq_nil_of_le]

theorem E_bs1 {t e : TypeId} {i : TypeInfo} {x : Operand} {v z : Value} {vc : List Value} (hlt : Nat.blt d N = true) (hu : P.underlying t = some (.slice e)) (hi : P.info? e = some i) (hx : ev σ x = some v)
    (hc : v.cells = vc.toArray) (hs : i.size = vc.length) (hz : i.zero = some z) (hb : Nat.ble i.size 16777216 = true) (h0 : Nat.beq i.size 0 = false) :
    Eff X P N ⟨some d, .buildSlice t 1 (List.toArray [(0, x)]), ty, pos, aft, g⟩ σ h bl (PNew X σ h bl d (fun b => .slice (some ⟨b, 0, none⟩) 1 1) (.cells vc.toArray e (0, 0))) := by
  refine E_bslice (vs := [(0, v)]) hlt (by simp [parts, hx]) fun w => ?_
  have hb' := Nat.le_of_ble_eq_true hb
  have h0' : ¬ i.size = 0 := fun e => by rw [e] at h0; cases h0
  simp only [Instr.buildSlice, Sem.run_bind, run_under w hu, Result.andThen_ok, run_size w hi, Nat.one_mul]
  rw [if_neg (by omega), if_neg h0']
  simp only [Sem.run_bind, zeroValue, run_tinfo w hi, hz, Sem.run_pure, Result.andThen_ok]
  rw [fill_one (n := i.size) (by simp) hs.symm hc]
  simp [run_new, Sem.run_bind]
end
end Go.Proofs.Ytdglignjoojimaa

/- Slices: what they read as, what is owned, append, copy, clear. No conditions. -/
set_option linter.unusedVariables false
set_option linter.unusedSimpArgs false
namespace Go.Proofs.Ytdglignjoojimaa

section
variable {X : Cx} {P : Program} {N : Nat} {ops : Array Oper} {Q : Exit → Act → World → Prop} {σ : List (Nat × Value)} {h h' : Hp} {bl bl' : Bl} {rest : List Oper}
variable {dst : Option Tmp} {d : Nat} {ty : TypeId} {pos : String} {aft : Array Edge} {g : Option (Nat × Bool)}

theorem Cell.mono {b off : Nat} {v : Value} (c : Cell h bl b off v) (h1 : Sub h h') (h2 : ∀ p ∈ bl.flatten, p ∈ bl'.flatten) : Cell h' bl' b off v := by
  obtain ⟨cs, T, fz, hb, hv⟩ := c
  exact ⟨cs, T, fz, hb.imp (h1 _ _) (h2 _), hv⟩
theorem Cells_iff {b : Nat} : ∀ {cs : List Value} {off : Nat}, Cells h bl b off cs ↔ ∀ j (hj : j < cs.length), Cell h bl b (off + j) cs[j]
  | [], off => by simp [Cells]
  | v :: cs, off => by
    simp only [Cells, Cells_iff (cs := cs)]
    constructor
    · rintro ⟨h0, h1⟩ j hj
      cases j with
      | zero => simpa using h0
      | succ j => simpa [Nat.add_assoc, Nat.add_comm 1 j] using h1 j (by simpa using hj)
    · intro k
      refine ⟨by have := k 0 (by simp); simpa only [Nat.add_zero, List.getElem_cons_zero] using this, fun j hj => ?_⟩
      have := k (j + 1) (by simpa using hj)
      simpa [Nat.add_assoc, Nat.add_comm 1 j] using this
theorem Cells.mono {b off : Nat} {cs : List Value} (c : Cells h bl b off cs) (h1 : Sub h h') (h2 : ∀ p ∈ bl.flatten, p ∈ bl'.flatten) : Cells h' bl' b off cs :=
  Cells_iff.2 fun j hj => (Cells_iff.1 c j hj).mono h1 h2
theorem Cells.part {b off : Nat} {cs : List Value} (c : Cells h bl b off cs) (i k : Nat) : Cells h bl b (off + i) ((cs.drop i).take k) := by
  refine Cells_iff.2 fun j hj => ?_
  have hj' : i + j < cs.length := by simp at hj; omega
  have := Cells_iff.1 c (i + j) hj'
  simpa [Nat.add_assoc] using this
theorem Cells.get {b off j : Nat} {cs : List Value} {v : Value} (c : Cells h bl b off cs) (hj : cs[j]? = some v) : Cell h bl b (off + j) v := by
  obtain ⟨hlt, rfl⟩ := List.getElem?_eq_some_iff.1 hj
  exact Cells_iff.1 c j hlt

/-- v is a slice of n elements of sz cells each; cs are their cells. -/
def SlR (h : Hp) (bl : Bl) (v : Value) (n : Nat) (cs : List Value) (sz : Nat) : Prop :=
  ∃ A cap, v = .slice A n cap ∧ n ≤ cap ∧ cap ≤ 9223372036854775807 ∧ cs.length = n * sz ∧ (0 < n → ∃ b off, A = some ⟨b, off, none⟩ ∧ Cells h bl b off cs)
theorem SlR.mono {v : Value} {n sz : Nat} {cs : List Value} (s : SlR h bl v n cs sz) (h1 : Sub h h') (h2 : ∀ p ∈ bl.flatten, p ∈ bl'.flatten) : SlR h' bl' v n cs sz := by
  obtain ⟨A, cap, e, l1, l2, hl, hc⟩ := s
  exact ⟨A, cap, e, l1, l2, hl, fun hn => let ⟨b, off, e, c⟩ := hc hn; ⟨b, off, e, c.mono h1 h2⟩⟩
theorem SlR.form {v : Value} {n sz : Nat} {cs : List Value} (s : SlR h bl v n cs sz) : ∃ A cap, v = .slice A n cap ∧ n ≤ cap ∧ cap ≤ 9223372036854775807 :=
  let ⟨A, cap, e, l1, l2, _, _⟩ := s; ⟨A, cap, e, l1, l2⟩
theorem SlR.elem {v : Value} {n sz : Nat} {cs : List Value} (s : SlR h bl v n cs sz) {i : Int} (h0 : 0 ≤ i) (h1 : i < n) :
    ∃ b off cap, v = .slice (some ⟨b, off, none⟩) n cap ∧ Cells h bl b (off + i.toNat * sz) ((cs.drop (i.toNat * sz)).take sz) := by
  obtain ⟨A, cap, e, l1, l2, hl, hc⟩ := s
  obtain ⟨b, off, rfl, c⟩ := hc (by omega)
  exact ⟨b, off, cap, e, c.part _ _⟩

/-- Some places of a list are written. -/
def putAt (l : List Value) (off : Nat) (vs : List Value) : List Value := l.take off ++ vs ++ l.drop (off + vs.length)
theorem putAt_length {l vs : List Value} {off : Nat} (hl : off + vs.length ≤ l.length) : (putAt l off vs).length = l.length := by
  simp [putAt]; omega
theorem PutR.at_ : ∀ {vs l : List Value} {off : Nat}, off + vs.length ≤ l.length → PutR l off vs (putAt l off vs)
  | [], l, off, _ => by simp [putAt]; exact .nil
  | v :: vs, l, off, hl => by
    have hlt : off < l.length := by simp at hl; omega
    refine .cons (SetL.of hlt) ?_
    have := PutR.at_ (vs := vs) (l := l.set off v) (off := off + 1) (by simp at hl ⊢; omega)
    have e : putAt (l.set off v) (off + 1) vs = putAt l off (v :: vs) := by
      simp only [putAt, List.length_cons]
      rw [List.take_succ_eq_append_getElem (by simpa using hlt), List.take_set_of_le (Nat.le_refl _), List.getElem_set_self, List.drop_set_of_lt (by omega)]
      simp [Nat.add_assoc, Nat.add_comm 1]
    rw [← e]; exact this

theorem ones_append : ∀ {a b : List Value}, ones (a ++ b) = (ones a && ones b)
  | [], b => by simp [ones]
  | v :: a, b => by cases v <;> simp [ones, ones_append]
theorem ones_take : ∀ {a : List Value} {k : Nat}, ones a = true → ones (a.take k) = true
  | a, 0, _ => by simp [ones]
  | [], k + 1, _ => by simp [ones]
  | v :: a, k + 1, h => by
    have ih := @ones_take a k
    cases v <;> simp_all [ones]

theorem run_lenOf {v : Value} {n sz : Nat} {cs : List Value} {w : World} (s : SlR h bl v n cs sz) : (Builtin.lenOf v).run P w = .ok n w := by
  obtain ⟨A, cap, rfl, _⟩ := s
  rfl
theorem run_first {v : Value} {n sz k : Nat} {cs : List Value} {w : World} (s : SlR h bl v n cs sz) (hk : Knows h bl w) (hle : k ≤ n) : (Builtin.firstCells sz k v).run P w = .ok (cs.take (k * sz)).toArray w := by
  obtain ⟨A, cap, rfl, l1, l2, hl, hc⟩ := s
  rcases Nat.eq_zero_or_pos n with h0 | h0
  · have : k = 0 := by omega
    subst this
    cases A with
    | none => simp [Builtin.firstCells]
    | some a => simp [Builtin.firstCells, loadCells, loadCellsFrom]
  · obtain ⟨b, off, rfl, c⟩ := hc h0
    have hlen : (cs.take (k * sz)).length = k * sz := by
      rw [List.length_take, hl]; exact Nat.min_eq_left (Nat.mul_le_mul_right sz hle)
    have c' := c.part 0 (k * sz)
    simp only [Nat.add_zero, List.drop_zero] at c'
    have := run_loadCells (P := P) (cs.take (k * sz)) off 0 #[] (by simpa using c'.at_ hk)
    rw [hlen] at this
    simp only [Builtin.firstCells, loadCells, this]
    simp

/-! ### What is owned -/
def Buf (e : TypeId) (sz : Nat) (v : Value) (n : Nat) (cs : List Value) (G : Gr) : Prop :=
  (v = .slice none 0 0 ∧ n = 0 ∧ cs = [] ∧ G = []) ∨
  ∃ b cap sp, v = .slice (some ⟨b, 0, none⟩) n cap ∧ G = [(b, .cells (List.toArray (cs ++ sp)) e (0, 0))] ∧ n ≤ cap ∧ cap ≤ 9223372036854775807 ∧ cs.length = n * sz ∧ (cs ++ sp).length = cap * sz
theorem Buf.reads {e : TypeId} {sz n : Nat} {v : Value} {cs : List Value} {G : Gr} (B : Buf e sz v n cs G) (hm : ∀ p ∈ G, p ∈ bl.flatten) : SlR h bl v n cs sz := by
  rcases B with ⟨rfl, rfl, rfl, rfl⟩ | ⟨b, cap, sp, rfl, rfl, l1, l2, hl, hl'⟩
  · exact ⟨none, 0, rfl, Nat.le_refl _, by omega, by simp, fun h => absurd h (by omega)⟩
  · refine ⟨_, cap, rfl, l1, l2, hl, fun _ => ⟨b, 0, rfl, Cells.of_at (cs := (cs ++ sp).toArray) (T := e) (fz := (0, 0)) (.inr (hm (b, .cells (cs ++ sp).toArray e (0, 0)) (by simp))) fun j hj => ?_⟩⟩
    simp [List.getElem?_append_left hj]
theorem Buf.nil (e : TypeId) (sz : Nat) : Buf e sz (.slice none 0 0) 0 [] [] := .inl ⟨rfl, rfl, rfl, rfl⟩
theorem Buf.lit {e : TypeId} {sz n b : Nat} {cs : List Value} (hl : cs.length = n * sz) (hn : n ≤ 9223372036854775807) : Buf e sz (.slice (some ⟨b, 0, none⟩) n n) n cs [(b, .cells (List.toArray cs) e (0, 0))] :=
  .inr ⟨b, n, [], rfl, by simp, Nat.le_refl _, hn, hl, by simpa using hl⟩

/-! ### append -/
theorem growBy_le {newLen : Nat} : ∀ (r c : Nat), c < newLen → Builtin.growBy newLen r c ≤ newLen + (newLen + 768) / 4
  | 0, c, h => by simp only [Builtin.growBy]; omega
  | r + 1, c, h => by
    simp only [Builtin.growBy]
    rw [if_neg (by omega)]
    rcases Nat.lt_or_ge (c + (c + 768) / 4) newLen with h1 | h1
    · exact growBy_le r _ h1
    · cases r with
      | zero => simp only [Builtin.growBy]; omega
      | succ r => simp only [Builtin.growBy]; rw [if_pos h1]; omega
theorem nextcap_le {newLen oldCap : Nat} (h : oldCap < newLen) : Builtin.nextslicecap newLen oldCap ≤ 2 * newLen + 200 := by
  unfold Builtin.nextslicecap
  split
  · omega
  · split
    · omega
    · have := growBy_le 4 oldCap h; omega

def notInt : TypeDesc → Bool
  | .int _ => false
  | _ => true
theorem append_in {t t' e : TypeId} {i : TypeInfo} {d' : TypeDesc} {b off n cap m : Nat} {u : Value} {ds l : List Value} {T tt : TypeId} (hu : P.underlying t = some (.slice e)) (hu' : P.underlying t' = some d') (hn : notInt d' = true)
    (hi : P.info? e = some i) {w : World} (hk : Knows h bl w) (hs : SlR h bl u m ds i.size) (hle : n + m ≤ cap) (hb : w.heap[b]? = some (.cells l.toArray T (0, 0))) (hlen : off + (n + m) * i.size ≤ l.length) (h1 : ones ds = true) :
    ∃ w', (Builtin.append_ #[t, t'] tt #[.slice (some ⟨b, off, none⟩) n cap, u]).run P w = .ok (.slice (some ⟨b, off, none⟩) (n + m) cap) w' ∧
      w'.heap[b]? = some (.cells (putAt l (off + n * i.size) ds).toArray T (0, 0)) ∧ w'.heap.size = w.heap.size ∧ (∀ k, k ≠ b → w'.heap[k]? = w.heap[k]?) ∧ w'.tape = w.tape ∧ w'.os = w.os ∧ w'.output = w.output := by
  have hds : ds.length = m * i.size := by obtain ⟨_, _, _, _, _, hl, _⟩ := hs; exact hl
  have hp : off + n * i.size + ds.length ≤ l.length := by rw [hds]; rw [Nat.add_mul] at hlen; omega
  obtain ⟨w', e1, r⟩ := run_storeCells P (b := b) (T := T) (off := off + n * i.size) (i := 0) (w := w) (PutR.at_ hp) h1 hb
  refine ⟨w', ?_, r⟩
  have hf := run_first (P := P) hs hk (Nat.le_refl m)
  have ht : ds.take (m * i.size) = ds := List.take_of_length_le (by omega)
  rw [ht] at hf
  cases d' <;> first
    | (simp only [notInt] at hn; cases hn; done)
    | simp only [Builtin.append_, List.getElem?_toArray, List.getElem?_cons_zero, List.getElem?_cons_succ, Sem.run_bind, run_under w hu, run_under w hu', Result.andThen_ok, run_size w hi, Sem.run_pure, Bool.false_eq_true, if_false, run_lenOf hs,
        hle, if_true, Bool.not_false, hf, add_none, e1]

theorem E_append_in {t t' e : TypeId} {i : TypeInfo} {d' : TypeDesc} {x y : Operand} {b off n cap m : Nat} {u : Value} {ds l : List Value} {T : TypeId} {blR : Bl} (hlt : Nat.blt d N = true)
    (hu : P.underlying t = some (.slice e)) (hu' : P.underlying t' = some d') (hn : notInt d' = true) (hi : P.info? e = some i)
    (hx : ev σ x = some (.slice (some ⟨b, off, none⟩) n cap)) (hy : ev σ y = some u) (hs : SlR h bl u m ds i.size) (hle : n + m ≤ cap) (hb : Pick bl [(b, .cells l.toArray T (0, 0))] blR)
    (hlen : off + (n + m) * i.size ≤ l.length) (h1 : ones ds = true) :
    Eff X P N ⟨some d, .call { callee := .builtin .append, args := List.toArray [x, y], argTypes := List.toArray [t, t'] }, ty, pos, aft, g⟩ σ h bl
      (PVal σ h ([(b, .cells (putAt l (off + n * i.size) ds).toArray T (0, 0))] :: blR) d (.slice (some ⟨b, off, none⟩) (n + m) cap)) := by
  intro a w ha hr
  have hr1 := hr.perm hb.perm
  have hbw := (hr1.trk (b, .cells l.toArray T (0, 0)) (by simp)).1
  obtain ⟨w', e1, hb', hs', ho, r1, r2, r3⟩ := append_in (tt := ty) hu hu' hn hi hr.knows hs hle hbw hlen h1
  have : (execOp a.eval ⟨some d, .call { callee := .builtin .append, args := List.toArray [x, y], argTypes := List.toArray [t, t'] }, ty, pos, aft, g⟩).run P w = .ok (.value (.slice (some ⟨b, off, none⟩) (n + m) cap)) w' := by
    simp only [execOp, resolve, invoke, builtin, List.map_toArray, List.map_cons, List.map_nil, ha.eval hx, ha.eval hy, Sem.run_bind, Sem.run_pure, Result.andThen_ok, e1]
  rw [Oper.wp, this, Oper.upon_value]
  exact ⟨_, _, _, ⟨rfl, rfl, rfl⟩, ha.put (Nat.le_of_ble_eq_true hlt) _, hr1.write UpdG.here hb' hs' ho r1 r2 r3⟩

/-- What a new array is filled up with. -/
def fillC (z : Value) (k : Nat) : List Value := (Builtin.zeroCells z.cells k).toList
theorem fillC_length {z : Value} {k sz : Nat} (hz : z.cells.size = sz) : (fillC z k).length = k * sz := by
  simp [fillC, Builtin.zeroCells, hz]

theorem append_new {t t' e : TypeId} {i : TypeInfo} {d' : TypeDesc} {z : Value} {n cap m : Nat} {v u : Value} {A : Option Addr} {cs ds : List Value} {tt : TypeId} (hu : P.underlying t = some (.slice e)) (hu' : P.underlying t' = some d') (hn : notInt d' = true)
    (hi : P.info? e = some i) (hz : i.zero = some z) (hb : i.bytes ≠ 0) {w : World} (hk : Knows h bl w) (hv : v = .slice A n cap) (hr : SlR h bl v n cs i.size) (hs : SlR h bl u m ds i.size) (hle : cap < n + m) (hsz : (2 * (n + m) + 200) * i.bytes ≤ 281474976710656) :
    ∃ cap', n + m ≤ cap' ∧ cap' ≤ 9223372036854775807 ∧ (Builtin.append_ #[t, t'] tt #[v, u]).run P w = .ok (.slice (some ⟨w.heap.size, 0, none⟩) (n + m) cap')
      { w with drawn := w.drawn + 1, heap := w.heap.push (.cells (List.toArray (cs ++ ds ++ fillC z (cap' - (n + m)))) e) } := by
  subst hv
  have hcs : cs.length = n * i.size := by obtain ⟨_, _, _, _, _, hl, _⟩ := hr; exact hl
  have hds : ds.length = m * i.size := by obtain ⟨_, _, _, _, _, hl, _⟩ := hs; exact hl
  have hbig : n + m < 2 ^ 63 := by
    have h1 : (2 * (n + m) + 200) * 1 ≤ (2 * (n + m) + 200) * i.bytes := Nat.mul_le_mul_left _ (Nat.pos_of_ne_zero hb)
    omega
  let cap' := (n + m) + (w.tape w.drawn (.appendCap (n + m) cap e)) % (2 ^ 63 - (n + m))
  have hmod : (w.tape w.drawn (.appendCap (n + m) cap e)) % (2 ^ 63 - (n + m)) < 2 ^ 63 - (n + m) := Nat.mod_lt _ (by omega)
  refine ⟨cap', by omega, by simp only [cap']; omega, ?_⟩
  have hk1 : Knows h bl { w with drawn := w.drawn + 1 } := hk
  have f1 := run_first (P := P) hr hk1 (Nat.le_refl n)
  have f2 := run_first (P := P) hs hk1 (Nat.le_refl m)
  rw [List.take_of_length_le (by omega)] at f1 f2
  have hnc : ¬ (Builtin.nextslicecap (n + m) cap * i.bytes > 2 ^ 48) := by
    have h1 := nextcap_le hle
    have h2 := Nat.mul_le_mul_right i.bytes h1
    omega
  have hch : (choose (.appendCap (n + m) cap e)).run P w = .ok cap' { w with drawn := w.drawn + 1 } := by
    simp [choose, Sem.run, Question.forced, Question.cut, cap']
  have hroom : ∀ k (w : World), (askRoom k).run P w = .ok () w := by
    intro k w
    unfold askRoom
    split
    · simp [mark, Sem.run]
    · rfl
  have hnle : ¬ (n + m ≤ cap) := by omega
  have hE : cs.toArray ++ ds.toArray ++ Builtin.zeroCells z.cells (cap' - (n + m)) = List.toArray (cs ++ ds ++ fillC z (cap' - (n + m))) := by
    apply Array.ext'; simp [fillC]
  cases d' <;> first
    | (simp only [notInt] at hn; cases hn; done)
    | (simp only [Builtin.append_, List.getElem?_toArray, List.getElem?_cons_zero, List.getElem?_cons_succ, Sem.run_bind, run_under w hu, run_under w hu', Result.andThen_ok, run_size w hi, Sem.run_pure, Bool.false_eq_true, if_false, run_lenOf hs,
        hnle, Bool.not_false, if_true, run_tinfo w hi, hb, false_or, and_false, hnc, hch, hroom, f1, f2, zeroValue, run_tinfo _ hi, hz, run_new]
       rw [hE])

theorem subB_tail (G : Gr) (l : Bl) : SubB (G :: l) l := by
  induction l generalizing G with
  | nil => exact .nil
  | cons y l ih => exact .cons (.there .here) (ih G)

theorem append_nil {t t' e : TypeId} {i : TypeInfo} {d' : TypeDesc} {u : Value} {tt : TypeId} (hu : P.underlying t = some (.slice e)) (hu' : P.underlying t' = some d') (hn : notInt d' = true)
    (hi : P.info? e = some i) {w : World} (hk : Knows h bl w) (hs : SlR h bl u 0 [] i.size) : (Builtin.append_ #[t, t'] tt #[.slice none 0 0, u]).run P w = .ok (.slice none 0 0) w := by
  have hf := run_first (P := P) hs hk (Nat.le_refl 0)
  cases d' <;> first
    | (simp only [notInt] at hn; cases hn; done)
    | simp only [Builtin.append_, List.getElem?_toArray, List.getElem?_cons_zero, List.getElem?_cons_succ, Sem.run_bind, run_under w hu, run_under w hu', Result.andThen_ok, run_size w hi, Sem.run_pure, Bool.false_eq_true, if_false, run_lenOf hs,
        Nat.zero_add, Nat.le_refl, if_true, Bool.not_false, hf]

def PApp (X : Cx) (e : TypeId) (sz : Nat) (σ : List (Nat × Value)) (h : Hp) (blR : Bl) (d n : Nat) (cs : List Value) (σ' : List (Nat × Value)) (h' : Hp) (bl' : Bl) : Prop :=
  ∃ v G, Buf e sz v n cs G ∧ σ' = (d, v) :: σ ∧ h = h' ∧ bl' = G :: blR

/-- append onto what is owned. -/
theorem E_append {t t' e : TypeId} {i : TypeInfo} {d' : TypeDesc} {z : Value} {x y : Operand} {n m : Nat} {v u : Value} {cs ds : List Value} {G : Gr} {blR : Bl} (hlt : Nat.blt d N = true)
    (hu : P.underlying t = some (.slice e)) (hu' : P.underlying t' = some d') (hn : notInt d' = true) (hi : P.info? e = some i) (hz : i.zero = some z) (hzs : z.cells.size = i.size) (hb : Nat.beq i.bytes 0 = false)
    (hx : ev σ x = some v) (hy : ev σ y = some u) (hB : Buf e i.size v n cs G) (hG : Pick bl G blR) (hs : SlR h bl u m ds i.size) (h1 : ones ds = true) (hsz : (2 * (n + m) + 200) * i.bytes ≤ 281474976710656) :
    Eff X P N ⟨some d, .call { callee := .builtin .append, args := List.toArray [x, y], argTypes := List.toArray [t, t'] }, ty, pos, aft, g⟩ σ h bl (PApp X e i.size σ h blR d (n + m) (cs ++ ds)) := by
  intro a w ha hr
  have hr1 := hr.perm hG.perm
  have hGm : ∀ p ∈ G, p ∈ bl.flatten := fun p hp => hG.perm.flatten.mem_iff.2 (List.mem_append.2 (.inl hp))
  have hds : ds.length = m * i.size := by obtain ⟨_, _, _, _, _, hl, _⟩ := hs; exact hl
  have hb' : i.bytes ≠ 0 := fun e => by rw [e] at hb; cases hb
  have hex : ∀ {r w'}, (Builtin.append_ #[t, t'] ty #[v, u]).run P w = .ok r w' → (execOp a.eval ⟨some d, .call { callee := .builtin .append, args := List.toArray [x, y], argTypes := List.toArray [t, t'] }, ty, pos, aft, g⟩).run P w = .ok (.value r) w' := by
    intro r w' e1
    simp only [execOp, resolve, invoke, builtin, List.map_toArray, List.map_cons, List.map_nil, ha.eval hx, ha.eval hy, Sem.run_bind, Sem.run_pure, Result.andThen_ok, e1]
  have hrd := Buf.reads (h := h) (bl := bl) hB hGm
  have grow : ∀ A cap, v = .slice A n cap → cap < n + m → (Oper.wp P ⟨some d, .call { callee := .builtin .append, args := List.toArray [x, y], argTypes := List.toArray [t, t'] }, ty, pos, aft, g⟩ a w
      (fun a' w' => ∃ σ' h' bl', PApp X e i.size σ h blR d (n + m) (cs ++ ds) σ' h' bl' ∧ Fr N σ' a' ∧ Rel X h' bl' w') Bot) := by
    intro A cap hv hlt'
    obtain ⟨cap', l1, l2, e1⟩ := append_new (tt := ty) hu hu' hn hi hz hb' hr.knows hv hrd hs hlt' hsz
    rw [Oper.wp, hex e1, Oper.upon_value]
    have hcs : cs.length = n * i.size := by obtain ⟨_, _, _, _, _, hl, _⟩ := hrd; exact hl
    refine ⟨_, _, _, ⟨_, [(w.heap.size, .cells (List.toArray (cs ++ ds ++ fillC z (cap' - (n + m)))) e (0, 0))], .inr ⟨_, cap', fillC z (cap' - (n + m)), rfl, rfl, l1, l2, ?_, ?_⟩, rfl, rfl, rfl⟩, ha.put (Nat.le_of_ble_eq_true hlt) _, ?_⟩
    · simp [hcs, hds, Nat.add_mul]
    · simp only [List.length_append, hcs, hds, fillC_length hzs]
      rw [← Nat.add_mul, ← Nat.add_mul]; congr 1; omega
    · have r1 : Rel X h (G :: blR) { w with drawn := w.drawn + 1 } := hr1.drew _
      have r2 := r1.alloc (.cells (List.toArray (cs ++ ds ++ fillC z (cap' - (n + m)))) e)
      exact r2.sub (.cons .here (subB_tail G blR))
  have hex' := @hex
  rcases hB with ⟨rfl, rfl, rfl, rfl⟩ | ⟨b, cap, sp, rfl, rfl, l1, l2, hl, hl'⟩
  · rcases Nat.eq_zero_or_pos m with hm | hm
    · -- nothing onto nothing
      subst hm
      have hds0 : ds = [] := List.eq_nil_of_length_eq_zero (by simpa using hds)
      subst hds0
      have e1 := append_nil (P := P) (tt := ty) hu hu' hn hi hr.knows hs
      rw [Oper.wp, hex e1, Oper.upon_value]
      exact ⟨_, _, _, ⟨_, [], .inl ⟨rfl, rfl, rfl, rfl⟩, rfl, rfl, rfl⟩, ha.put (Nat.le_of_ble_eq_true hlt) _, hr1⟩
    · exact grow none 0 rfl (by omega)
  · rcases Nat.lt_or_ge cap (n + m) with hc | hc
    · exact grow _ cap rfl hc
    · have hbw := (hr1.trk (b, .cells (List.toArray (cs ++ sp)) e (0, 0)) (by simp)).1
      have hlen : 0 + (n + m) * i.size ≤ (cs ++ sp).length := by
        rw [hl', Nat.zero_add]; exact Nat.mul_le_mul_right _ hc
      obtain ⟨w', e1, hb2, hs', ho, r1, r2, r3⟩ := append_in (tt := ty) hu hu' hn hi hr.knows hs hc hbw hlen h1
      rw [Oper.wp, hex e1, Oper.upon_value]
      have hput : putAt (cs ++ sp) (0 + n * i.size) ds = (cs ++ ds) ++ sp.drop ds.length := by
        simp only [putAt, Nat.zero_add, ← hl]
        simp
      rw [hput] at hb2
      have hlen2 := putAt_length (l := cs ++ sp) (off := 0 + n * i.size) (vs := ds) (by rw [hds]; rw [Nat.add_mul] at hlen; omega)
      rw [hput] at hlen2
      refine ⟨_, _, _, ⟨_, [(b, .cells (List.toArray ((cs ++ ds) ++ sp.drop ds.length)) e (0, 0))], .inr ⟨b, cap, _, rfl, rfl, hc, l2, ?_, ?_⟩, rfl, rfl, rfl⟩, ha.put (Nat.le_of_ble_eq_true hlt) _, ?_⟩
      · simp [hl, hds, Nat.add_mul]
      · rw [hlen2, hl']
      · exact hr1.write UpdG.here hb2 hs' ho r1 r2 r3
end
end Go.Proofs.Ytdglignjoojimaa

/- Slices: copy, clear, pieces. No conditions. -/
set_option linter.unusedVariables false
set_option linter.unusedSimpArgs false
namespace Go.Proofs.Ytdglignjoojimaa

section
variable {X : Cx} {P : Program} {N : Nat} {ops : Array Oper} {Q : Exit → Act → World → Prop} {σ : List (Nat × Value)} {h h' : Hp} {bl bl' : Bl} {rest : List Oper}
variable {dst : Option Tmp} {d : Nat} {ty : TypeId} {pos : String} {aft : Array Edge} {g : Option (Nat × Bool)}

theorem putAt_nil (l : List Value) (off : Nat) : putAt l off [] = l := by simp [putAt]

theorem SlR.len {v : Value} {n sz : Nat} {cs : List Value} (s : SlR h bl v n cs sz) : cs.length = n * sz := by
  obtain ⟨_, _, _, _, _, hl, _⟩ := s; exact hl

/-- A piece of a slice. -/
theorem SlR.cut {A : Option Addr} {n cap sz l m : Nat} {cs : List Value} (s : SlR h bl (.slice A n cap) n cs sz) (h1 : l ≤ m) (h2 : m ≤ n) :
    SlR h bl (cut3 A cap sz l m cap) (m - l) ((cs.drop (l * sz)).take ((m - l) * sz)) sz := by
  obtain ⟨A', cap', e, l1, l2, hl, hc⟩ := s
  cases e
  refine ⟨_, _, rfl, by omega, by omega, ?_, fun hp => ?_⟩
  · rw [List.length_take, List.length_drop, hl, ← Nat.sub_mul]
    exact Nat.min_eq_left (Nat.mul_le_mul_right _ (by omega))
  · obtain ⟨b, off, rfl, c⟩ := hc (by omega)
    rw [if_neg (by omega)]
    exact ⟨b, off + l * sz, by simp [add_none], c.part _ _⟩
/-- Up to a bound that may lie behind the length: what lies there is not told. -/
theorem cut3_at {b off cap sz l m : Nat} (hl : l < cap) : cut3 (some ⟨b, off, none⟩) cap sz l m cap = .slice (some ⟨b, off + l * sz, none⟩) (m - l) (cap - l) := by
  unfold cut3
  rw [if_neg (by omega)]
  simp [add_none]
theorem cut3_0 {A : Option Addr} {cap sz m k : Nat} (hA : ∀ a, A = some a → a.spot = none) : cut3 A cap sz 0 m k = .slice A m k := by
  unfold cut3
  split
  · rename_i h; simp
  · cases A with
    | none => simp
    | some a => simp [Addr.add]

theorem S_slice3 {t e : TypeId} {x lo hi mx : Operand} {i : TypeInfo} {A : Option Addr} {len cap : Nat} {k1 k2 k3 : IntKind} {l m q : Int} (hu : P.underlying t = some (.slice e)) (hi' : P.info? e = some i)
    (hx : ev σ x = some (.slice A len cap)) (hl : ev σ lo = some (.int k1 l)) (hm : ev σ hi = some (.int k2 m)) (hq : ev σ mx = some (.int k3 q)) (h0 : 0 ≤ l) (h1 : l ≤ m) (h2 : m ≤ q) (h3 : q ≤ cap) :
    Still P N σ h bl ⟨dst, .slice t x (some lo) (some hi) (some mx), ty, pos, aft, g⟩ (cut3 A cap i.size l.toNat m.toNat q.toNat) := by
  intro a w ha _
  have e1 : (Instr.sliceBound (a.eval mx) cap .slice3Acap).run P w = .ok q.toNat w := run_bound w (ha.eval hq) (by omega) h3
  have e2 : (Instr.sliceBound (a.eval hi) q.toNat .slice3B).run P w = .ok m.toNat w := run_bound w (ha.eval hm) (by omega) (by omega)
  have e3 : (Instr.sliceBound (a.eval lo) m.toNat .slice3C).run P w = .ok l.toNat w := run_bound w (ha.eval hl) h0 (by omega)
  simp only [execOp, Option.map_some, ha.eval hx, Instr.sliceAt, Sem.run_bind, run_under w hu, Result.andThen_ok, Instr.slice, Instr.sliceBounds, if_true, e1, e2, Option.isSome_some, e3, run_size w hi', Sem.run_pure, cut3]

theorem copy_run {t t' e : TypeId} {i : TypeInfo} {b off n cap m : Nat} {A : Option Addr} {u : Value} {ds l : List Value} {T tt : TypeId} (hu : P.underlying t = some (.slice e)) (hi : P.info? e = some i)
    {w : World} (hk : Knows h bl w) (hs : SlR h bl u m ds i.size) (hA : 0 < min m n → A = some ⟨b, off, none⟩) (hb : w.heap[b]? = some (.cells l.toArray T (0, 0))) (hlen : 0 < min m n → off + min m n * i.size ≤ l.length) (h1 : ones (ds.take (min m n * i.size)) = true) :
    ∃ w', (Builtin.copy_ #[t, t'] tt #[.slice A n cap, u]).run P w = .ok (.int .i64 (min m n : Nat)) w' ∧
      w'.heap[b]? = some (.cells (putAt l off (ds.take (min m n * i.size))).toArray T (0, 0)) ∧ w'.heap.size = w.heap.size ∧ (∀ k, k ≠ b → w'.heap[k]? = w.heap[k]?) ∧ w'.tape = w.tape ∧ w'.os = w.os ∧ w'.output = w.output := by
  have hds := hs.len
  have hf := run_first (P := P) hs hk (Nat.min_le_left m n)
  have hlen' : (ds.take (min m n * i.size)).length = min m n * i.size := by
    rw [List.length_take, hds]; exact Nat.min_eq_left (Nat.mul_le_mul_right _ (Nat.min_le_left _ _))
  rcases Nat.eq_zero_or_pos (min m n) with h0 | h0
  · have ht : ds.take (min m n * i.size) = [] := by rw [h0]; simp
    rw [ht, putAt_nil]
    rw [ht] at hf
    refine ⟨w, ?_, hb, rfl, fun _ _ => rfl, rfl, rfl, rfl⟩
    simp only [Builtin.copy_, List.getElem?_toArray, List.getElem?_cons_zero, List.getElem?_cons_succ, Sem.run_bind, run_under w hu, Result.andThen_ok, run_size w hi, Sem.run_pure, run_lenOf hs]
    rw [show Nat.min m n = min m n from rfl, hf]
    cases A <;> simp [storeCells, goInt]
  · obtain ⟨w', e1, r⟩ := run_storeCells P (b := b) (T := T) (off := off) (i := 0) (w := w) (PutR.at_ (vs := ds.take (min m n * i.size)) (by rw [hlen']; exact hlen h0)) h1 hb
    refine ⟨w', ?_, r⟩
    rw [hA h0]
    simp only [Builtin.copy_, List.getElem?_toArray, List.getElem?_cons_zero, List.getElem?_cons_succ, Sem.run_bind, run_under w hu, Result.andThen_ok, run_size w hi, Sem.run_pure, run_lenOf hs]
    rw [show Nat.min m n = min m n from rfl, hf]
    simp only [Result.andThen_ok, Sem.run_bind, e1, Sem.run_pure, goInt]

theorem E_copy {t t' e : TypeId} {i : TypeInfo} {x y : Operand} {b off n cap m : Nat} {A : Option Addr} {u : Value} {ds l : List Value} {T : TypeId} {blR : Bl} (hlt : Nat.blt d N = true)
    (hu : P.underlying t = some (.slice e)) (hi : P.info? e = some i)
    (hx : ev σ x = some (.slice A n cap)) (hy : ev σ y = some u) (hs : SlR h bl u m ds i.size) (hb : Pick bl [(b, .cells l.toArray T (0, 0))] blR) (hA : 0 < min m n → A = some ⟨b, off, none⟩) 
    (hlen : 0 < min m n → off + min m n * i.size ≤ l.length) (h1 : ones (ds.take (min m n * i.size)) = true) :
    Eff X P N ⟨some d, .call { callee := .builtin .copy, args := List.toArray [x, y], argTypes := List.toArray [t, t'] }, ty, pos, aft, g⟩ σ h bl
      (PVal σ h ([(b, .cells (putAt l off (ds.take (min m n * i.size))).toArray T (0, 0))] :: blR) d (.int .i64 (min m n : Nat))) := by
  intro a w ha hr
  have hr1 := hr.perm hb.perm
  have hbw := (hr1.trk (b, .cells l.toArray T (0, 0)) (by simp)).1
  obtain ⟨w', e1, hb', hs', ho, r1, r2, r3⟩ := copy_run (t' := t') (cap := cap) (tt := ty) hu hi hr.knows hs hA hbw hlen h1
  have : (execOp a.eval ⟨some d, .call { callee := .builtin .copy, args := List.toArray [x, y], argTypes := List.toArray [t, t'] }, ty, pos, aft, g⟩).run P w = .ok (.value (.int .i64 (min m n : Nat))) w' := by
    simp only [execOp, resolve, invoke, builtin, List.map_toArray, List.map_cons, List.map_nil, ha.eval hx, ha.eval hy, Sem.run_bind, Sem.run_pure, Result.andThen_ok, e1]
  rw [Oper.wp, this, Oper.upon_value]
  exact ⟨_, _, _, ⟨rfl, rfl, rfl⟩, ha.put (Nat.le_of_ble_eq_true hlt) _, hr1.write UpdG.here hb' hs' ho r1 r2 r3⟩

/-- A copy of nothing. -/
theorem E_copy0 {t t' e : TypeId} {i : TypeInfo} {x y : Operand} {n cap m : Nat} {A : Option Addr} {u : Value} {ds : List Value} (hlt : Nat.blt d N = true)
    (hu : P.underlying t = some (.slice e)) (hi : P.info? e = some i)
    (hx : ev σ x = some (.slice A n cap)) (hy : ev σ y = some u) (hs : SlR h bl u m ds i.size) (h0 : min m n = 0) :
    Eff X P N ⟨some d, .call { callee := .builtin .copy, args := List.toArray [x, y], argTypes := List.toArray [t, t'] }, ty, pos, aft, g⟩ σ h bl (PVal σ h bl d (.int .i64 0)) := by
  refine E_still hlt fun a w ha hk => ?_
  have hf := run_first (P := P) hs hk (Nat.min_le_left m n)
  have ht : ds.take (min m n * i.size) = [] := by rw [h0]; simp
  rw [ht] at hf
  have e1 : (Builtin.copy_ #[t, t'] ty #[.slice A n cap, u]).run P w = .ok (.int .i64 0) w := by
    simp only [Builtin.copy_, List.getElem?_toArray, List.getElem?_cons_zero, List.getElem?_cons_succ, Sem.run_bind, run_under w hu, Result.andThen_ok, run_size w hi, Sem.run_pure, run_lenOf hs]
    rw [show Nat.min m n = min m n from rfl, hf]
    cases A <;> simp [storeCells, goInt, h0]
  simp only [execOp, resolve, invoke, builtin, List.map_toArray, List.map_cons, List.map_nil, ha.eval hx, ha.eval hy, Sem.run_bind, Sem.run_pure, Result.andThen_ok, e1]

def fillC_ones (z : Value) : Prop := ones z.cells.toList = true
theorem ones_iff {l : List Value} : ones l = true ↔ ∀ v ∈ l, ones [v] = true := by
  induction l with
  | nil => simp [ones]
  | cons v l ih =>
    rw [show v :: l = [v] ++ l from rfl, ones_append, Bool.and_eq_true, ih]
    simp
theorem ones_fill {z : Value} {k : Nat} (hz : ones z.cells.toList = true) : ones (fillC z k) = true := by
  refine ones_iff.2 fun v hv => ?_
  simp only [fillC, Builtin.zeroCells, Array.toList_map, List.mem_map] at hv
  obtain ⟨j, hj, rfl⟩ := hv
  have hpos : 0 < z.cells.size := by
    rcases Nat.eq_zero_or_pos z.cells.size with h0 | h0
    · simp [h0] at hj
    · exact h0
  have hlt : j % z.cells.size < z.cells.size := Nat.mod_lt _ hpos
  rw [getElem!_pos z.cells _ hlt]
  exact ones_iff.1 hz _ (by simp)

theorem E_clear {t e : TypeId} {i : TypeInfo} {z : Value} {x : Operand} {b off n cap : Nat} {A : Option Addr} {l : List Value} {T : TypeId} {blR : Bl}
    (hu : P.underlying t = some (.slice e)) (hi : P.info? e = some i) (hz : i.zero = some z) (hzs : z.cells.size = i.size) (hzo : ones z.cells.toList = true)
    (hx : ev σ x = some (.slice A n cap)) (hb : Pick bl [(b, .cells l.toArray T (0, 0))] blR) (hA : 0 < n → A = some ⟨b, off, none⟩) (hlen : 0 < n → off + n * i.size ≤ l.length) :
    Eff X P N ⟨none, .call { callee := .builtin .clear, args := List.toArray [x], argTypes := List.toArray [t] }, ty, pos, aft, g⟩ σ h bl
      (PSt σ h ([(b, .cells (putAt l off (fillC z n)).toArray T (0, 0))] :: blR)) := by
  intro a w ha hr
  have hr1 := hr.perm hb.perm
  have hbw := (hr1.trk (b, .cells l.toArray T (0, 0)) (by simp)).1
  rcases Nat.eq_zero_or_pos n with h0 | h0
  · subst h0
    have e0 : fillC z 0 = [] := by simp [fillC, Builtin.zeroCells, show Array.range 0 = #[] from rfl]
    have e1 : (Builtin.clear_ #[t] ty #[.slice A 0 cap]).run P w = .ok (.tuple #[]) w := by
      simp only [Builtin.clear_, List.getElem?_toArray, List.getElem?_cons_zero, Sem.run_bind, run_under w hu, Result.andThen_ok, Sem.run_pure]
      cases A <;> simp
    have : (execOp a.eval ⟨none, .call { callee := .builtin .clear, args := List.toArray [x], argTypes := List.toArray [t] }, ty, pos, aft, g⟩).run P w = .ok (.value (.tuple #[])) w := by
      simp only [execOp, resolve, invoke, builtin, List.map_toArray, List.map_cons, List.map_nil, ha.eval hx, Sem.run_bind, Sem.run_pure, Result.andThen_ok, e1]
    rw [Oper.wp, this, Oper.upon_value]
    rw [e0, putAt_nil]
    exact ⟨_, _, _, ⟨rfl, rfl, rfl⟩, ha.put_none _, hr1⟩
  · have hA' := hA h0
    subst hA'
    have hfl : (fillC z n).length = n * i.size := fillC_length hzs
    obtain ⟨w', e1, hb', hs', ho, r1, r2, r3⟩ := run_storeCells P (b := b) (T := T) (off := off) (i := 0) (w := w) (PutR.at_ (vs := fillC z n) (by rw [hfl]; exact hlen h0)) (ones_fill hzo) hbw
    obtain ⟨k, rfl⟩ : ∃ k, n = k + 1 := ⟨n - 1, by omega⟩
    have e2 : (Builtin.clear_ #[t] ty #[.slice (some ⟨b, off, none⟩) (k + 1) cap]).run P w = .ok (.tuple #[]) w' := by
      simp only [Builtin.clear_, List.getElem?_toArray, List.getElem?_cons_zero, Sem.run_bind, run_under w hu, Result.andThen_ok, Sem.run_pure, zeroValue, run_tinfo w hi, hz]
      rw [show (Builtin.zeroCells z.cells (k + 1)).toList = fillC z (k + 1) from rfl, e1]
      rfl
    have : (execOp a.eval ⟨none, .call { callee := .builtin .clear, args := List.toArray [x], argTypes := List.toArray [t] }, ty, pos, aft, g⟩).run P w = .ok (.value (.tuple #[])) w' := by
      simp only [execOp, resolve, invoke, builtin, List.map_toArray, List.map_cons, List.map_nil, ha.eval hx, Sem.run_bind, Sem.run_pure, Result.andThen_ok, e2]
    rw [Oper.wp, this, Oper.upon_value]
    exact ⟨_, _, _, ⟨rfl, rfl, rfl⟩, ha.put_none _, hr1.write UpdG.here hb' hs' ho r1 r2 r3⟩
end
end Go.Proofs.Ytdglignjoojimaa

/- Sums that fit, calls into the model's own functions, append of zeros. No conditions. -/
set_option linter.unusedVariables false
set_option linter.unusedSimpArgs false
namespace Go.Proofs.Ytdglignjoojimaa

section
variable {X : Cx} {P : Program} {N : Nat} {ops : Array Oper} {Q : Exit → Act → World → Prop} {σ : List (Nat × Value)} {h h' : Hp} {bl bl' : Bl} {rest : List Oper}
variable {dst : Option Tmp} {d : Nat} {ty : TypeId} {pos : String} {aft : Array Edge} {g : Option (Nat × Bool)}

theorem wrap_id {x : Int} (h0 : -9223372036854775808 ≤ x) (h1 : x ≤ 9223372036854775807) : IntKind.i64.wrap x = x := by
  have e : IntKind.i64.wrap x = (if decide (x % 18446744073709551616 ≥ 9223372036854775808) = true then x % 18446744073709551616 - 18446744073709551616 else x % 18446744073709551616) := by
    simp [IntKind.wrap, IntKind.bits, IntKind.signed]
  rw [e]
  simp only [decide_eq_true_eq]
  split <;> omega
theorem wrapu_id {x : Int} (h0 : 0 ≤ x) (h1 : x ≤ 18446744073709551615) : IntKind.u64.wrap x = x := by
  have e : IntKind.u64.wrap x = x % 18446744073709551616 := by simp [IntKind.wrap, IntKind.bits, IntKind.signed]
  rw [e]
  omega
theorem S_addi {x y : Operand} {t u : TypeId} {m n : Int} (hx : ev σ x = some (.int .i64 m)) (hy : ev σ y = some (.int .i64 n)) (h0 : -9223372036854775808 ≤ m + n) (h1 : m + n ≤ 9223372036854775807) :
    Still P N σ h bl ⟨dst, .binOp .add t x y u, ty, pos, aft, g⟩ (.int .i64 (m + n)) := by
  have := S_add (P := P) (N := N) (h := h) (bl := bl) (dst := dst) (ty := ty) (pos := pos) (aft := aft) (g := g) (t := t) (u := u) hx hy
  rwa [wrap_id h0 h1] at this
theorem S_subi {x y : Operand} {t u : TypeId} {m n : Int} (hx : ev σ x = some (.int .i64 m)) (hy : ev σ y = some (.int .i64 n)) (h0 : -9223372036854775808 ≤ m - n) (h1 : m - n ≤ 9223372036854775807) :
    Still P N σ h bl ⟨dst, .binOp .sub t x y u, ty, pos, aft, g⟩ (.int .i64 (m - n)) := by
  have := S_sub (P := P) (N := N) (h := h) (bl := bl) (dst := dst) (ty := ty) (pos := pos) (aft := aft) (g := g) (t := t) (u := u) hx hy
  rwa [wrap_id h0 h1] at this

/-- A nil slice has no elements: but for a slice of nothing with a capacity, which Go's own operations don't make. -/
theorem SlR.nil_len {n cap sz : Nat} {cs : List Value} (s : SlR h bl (.slice none n cap) n cs sz) : n = 0 ∧ cs = [] := by
  obtain ⟨A, c, e, l1, l2, hl, hc⟩ := s
  cases e
  have h0 : n = 0 := by
    rcases Nat.eq_zero_or_pos n with h0 | h0
    · exact h0
    · obtain ⟨b, off, e, _⟩ := hc h0; cases e
  subst h0
  exact ⟨rfl, List.eq_nil_of_length_eq_zero (by simpa using hl)⟩

/-- A function without a body, whose meaning is the model's own. -/
theorem S_ext {f : FuncId} {fo : Operand} {as : List Operand} {tys : Array TypeId} {vs fs cs : List Value} {fn : Func} {e : Array Value → Sem Value} {v : Value} (hf : ev σ fo = some (.func (.func f) fs.toArray cs.toArray)) (has : evs σ as = some vs)
    (hfn : P.funcs[f]? = some fn) (hb : fn.body.isNone = true) (hn : (fn.name == "runtime.NumGoroutine") = false) (h1 : (Extern.findNext fn).isNone = true) (h2 : Extern.find fn = some e)
    (hrun : ∀ w, Knows h bl w → (e (fs ++ vs ++ cs).toArray).run P w = .ok v w) :
    Still P N σ h bl ⟨dst, .call { callee := .value fo, args := as.toArray, argTypes := tys }, ty, pos, aft, g⟩ v := by
  intro a w ha hk
  have hd : ∀ args : Array Value, (Deferred.ofValue (.func (.func f) fs.toArray cs.toArray) args).run P w = .ok { target := .fn (.func f) cs.toArray, args := fs.toArray ++ args } w := by
    intro args
    simp [Deferred.ofValue]
  have h1' : Extern.findNext fn = none := by simpa using h1
  have hcf : (callFunc f (fs ++ vs ++ cs).toArray).run P w = .ok (.value v) w := by
    have hp : (program).run P w = .ok P w := rfl
    have hm : (mark (.extern f)).run P w = .ok () w := rfl
    simp only [callFunc, Sem.run_bind, hp, Result.andThen_ok, hfn, hn, Bool.false_eq_true, if_false, hb, if_true, hm, h1', h2, hrun w hk, Sem.run_pure]
  simp only [execOp, resolve, List.map_toArray, evs_map ha has, ha.eval hf, Sem.run_bind, hd, Result.andThen_ok, invoke]
  simpa using hcf

/-- Two slices in blocks of their own do not meet. -/
theorem run_apart {params res : List TypeId} {t e : TypeId} {i : TypeInfo} {b c o1 o2 n m cap cap' : Nat} {l l' : Array Value} {T T' : TypeId} {w : World} (hp : params[0]? = some t) (hu : P.underlying t = some (.slice e)) (hi : P.info? e = some i)
    (hb : w.heap[b]? = some (.cells l T (0, 0))) (hc : w.heap[c]? = some (.cells l' T' (0, 0))) (hne : b ≠ c) (hl : 0 < l.size) (hl' : 0 < l'.size) :
    (Extern.SlicesOverlaps.overlaps params.toArray res.toArray (List.toArray [.slice (some ⟨b, o1, none⟩) n cap, .slice (some ⟨c, o2, none⟩) m cap'])).run P w = .ok (.bool false) w := by
  have hfb : ∀ o, w.frozen? ⟨b, o, none⟩ = false := fun o => by simp [World.frozen?, hb]
  have hfc : ∀ o, w.frozen? ⟨c, o, none⟩ = false := fun o => by simp [World.frozen?, hc]
  have fr : ∀ a, (frozen a).run P w = .ok (w.frozen? a) w := fun a => rfl
  have sh : ∀ r, (shape r).run P w = .ok (w.shape? r) w := fun r => rfl
  have hsb : w.shape? b = some (T, l.size) := by simp [World.shape?, hb]
  have hsc : w.shape? c = some (T', l'.size) := by simp [World.shape?, hc]
  have nvb : ∀ o, (noView ⟨b, o, none⟩).run P w = .ok () w := fun o => by simp [noView, viewAt, sh, hsb]
  have nvc : ∀ o, (noView ⟨c, o, none⟩).run P w = .ok () w := fun o => by simp [noView, viewAt, sh, hsc]
  have stb : ∀ o, (stringish ⟨b, o, none⟩).run P w = .ok false w := fun o => by simp [stringish, fr, sh, hsb, hfb]
  have stc : ∀ o, (stringish ⟨c, o, none⟩).run P w = .ok false w := fun o => by simp [stringish, fr, sh, hsc, hfc]
  have mb : (mayBeOne ⟨b, o1, none⟩ ⟨c, o2, none⟩).run P w = .ok false w := by
    simp [mayBeOne, stb, stc, sh, hsb, hsc]
  have hp' : params.toArray[0]? = some t := by simpa using hp
  have hne' : (b != c) = true := by simpa using hne
  have heq' : (b == c) = false := by simpa using hne
  delta Extern.SlicesOverlaps.overlaps
  conv => lhs; arg 2; whnf
  simp only [hp', Sem.run_bind, run_under w hu, Result.andThen_ok, run_size w hi]
  split
  · rfl
  · simp [hne', heq', fr, hfb, hfc, nvb, nvc, mb]

/-- append(s, make(S, k)...), where there is no room: a new array. -/
theorem append_zeros {t e k : TypeId} {i : TypeInfo} {z : Value} {n cap m : Nat} {v : Value} {A : Option Addr} {cs : List Value} {tt : TypeId} {ik : IntKind} (hu : P.underlying t = some (.slice e)) (hu' : P.underlying k = some (.int ik))
    (hi : P.info? e = some i) (hz : i.zero = some z) (hzs : z.cells.size = i.size) (hb : i.bytes ≠ 0) (hs0 : i.size ≠ 0) {w : World} (hk : Knows h bl w) (hv : v = .slice A n cap) (hr : SlR h bl v n cs i.size) (hm : 0 < m) (hle : cap < n + m) (hsz : (2 * (n + m) + 200) * i.bytes ≤ 281474976710656) :
    ∃ cap', n + m ≤ cap' ∧ cap' ≤ 9223372036854775807 ∧ (Builtin.append_ #[t, k] tt #[v, .int .i64 (m : Nat)]).run P w = .ok (.slice (some ⟨w.heap.size, 0, none⟩) (n + m) cap')
      { w with drawn := w.drawn + 1, heap := w.heap.push (.cells (List.toArray (cs ++ fillC z m ++ fillC z (cap' - (n + m)))) e) } := by
  subst hv
  have hcs := hr.len
  have hbig : (n + m) * i.bytes ≤ 281474976710656 := by
    have : (n + m) * i.bytes ≤ (2 * (n + m) + 200) * i.bytes := Nat.mul_le_mul_right _ (by omega)
    omega
  have hbig' : n + m ≤ 281474976710656 := by
    have : (n + m) * 1 ≤ (n + m) * i.bytes := Nat.mul_le_mul_left _ (Nat.pos_of_ne_zero hb)
    omega
  let cap' := (n + m) + (w.tape w.drawn (.appendCap (n + m) cap e)) % (2 ^ 63 - (n + m))
  have hmod : (w.tape w.drawn (.appendCap (n + m) cap e)) % (2 ^ 63 - (n + m)) < 2 ^ 63 - (n + m) := Nat.mod_lt _ (by omega)
  refine ⟨cap', by omega, by simp only [cap']; omega, ?_⟩
  have hk1 : Knows h bl { w with drawn := w.drawn + 1 } := hk
  have f1 := run_first (P := P) hr hk1 (Nat.le_refl n)
  rw [List.take_of_length_le (by omega)] at f1
  have hnc : ¬ (Builtin.nextslicecap (n + m) cap * i.bytes > 2 ^ 48) := by
    have h1 := nextcap_le hle
    have h2 := Nat.mul_le_mul_right i.bytes h1
    omega
  have hch : (choose (.appendCap (n + m) cap e)).run P w = .ok cap' { w with drawn := w.drawn + 1 } := by
    simp [choose, Sem.run, Question.forced, Question.cut, cap']
  have hroom : ∀ k (w : World), (askRoom k).run P w = .ok () w := by
    intro k w
    unfold askRoom
    split
    · simp [mark, Sem.run]
    · rfl
  have hnle : ¬ (n + m ≤ cap) := by omega
  have hE : cs.toArray ++ Builtin.zeroCells z.cells m ++ Builtin.zeroCells z.cells (cap' - (n + m)) = List.toArray (cs ++ fillC z m ++ fillC z (cap' - (n + m))) := by
    apply Array.ext'; simp [fillC]
  have hw : IntKind.i64.wrap (m : Int) = m := wrap_id (by omega) (by omega)
  have hlow : ¬ ((m : Int) < 0) := by omega
  have hhigh : ¬ ((m : Int) * (i.bytes : Int) > 2 ^ 48) := by
    have h1 : m * i.bytes ≤ (n + m) * i.bytes := Nat.mul_le_mul_right _ (by omega)
    have h2 : ((m * i.bytes : Nat) : Int) ≤ ((281474976710656 : Nat) : Int) := Int.ofNat_le.2 (by omega)
    have h3 : (m : Int) * (i.bytes : Int) ≤ 281474976710656 := by rw [← Int.natCast_mul]; exact h2
    omega
  have hneed : ¬ (((n + m : Nat) : Int) > IntKind.i64.max) := by
    simp only [IntKind.max, IntKind.signed, IntKind.bits]
    omega
  have hms : ¬ (m * i.size = 0) := Nat.mul_ne_zero (by omega) hs0
  simp only [Builtin.append_, List.getElem?_toArray, List.getElem?_cons_zero, List.getElem?_cons_succ, Sem.run_bind, run_under w hu, run_under w hu', Result.andThen_ok, run_size w hi, Sem.run_pure, if_true, asInt, asIntOf, hw, hlow,
    if_false, run_tinfo w hi, hhigh, Int.toNat_natCast, hnle, hneed, false_and, hnc, hch, hroom, f1, Bool.not_true, Bool.false_eq_true, hms, zeroValue, run_tinfo _ hi, hz, run_new]
  rw [hE]

def PZero (X : Cx) (e : TypeId) (σ : List (Nat × Value)) (h : Hp) (bl : Bl) (d n : Nat) (cs : List Value) (z : Value) (sz : Nat) (σ' : List (Nat × Value)) (h' : Hp) (bl' : Bl) : Prop :=
  ∃ b cap sp, X.w0.heap.size ≤ b ∧ n ≤ cap ∧ cap ≤ 9223372036854775807 ∧ (cs ++ sp).length = cap * sz ∧ σ' = (d, .slice (some ⟨b, 0, none⟩) n cap) :: σ ∧ h = h' ∧ bl' = [(b, .cells (List.toArray (cs ++ sp)) e (0, 0))] :: bl

theorem E_append_zeros {t e k : TypeId} {i : TypeInfo} {z : Value} {x y : Operand} {n cap : Nat} {m : Int} {A : Option Addr} {cs : List Value} {ik : IntKind} (hlt : Nat.blt d N = true) (hu : P.underlying t = some (.slice e)) (hu' : P.underlying k = some (.int ik))
    (hi : P.info? e = some i) (hz : i.zero = some z) (hzs : z.cells.size = i.size) (hb : Nat.beq i.bytes 0 = false) (hs0 : Nat.beq i.size 0 = false) (hx : ev σ x = some (.slice A n cap)) (hy : ev σ y = some (.int .i64 m)) (hr : SlR h bl (.slice A n cap) n cs i.size)
    (hm : 0 < m) (hle : cap < n + m.toNat) (hsz : (2 * (n + m.toNat) + 200) * i.bytes ≤ 281474976710656) :
    Eff X P N ⟨some d, .call { callee := .builtin .append, args := List.toArray [x, y], argTypes := List.toArray [t, k] }, ty, pos, aft, g⟩ σ h bl (PZero X e σ h bl d (n + m.toNat) (cs ++ fillC z m.toNat) z i.size) := by
  intro a w ha hr'
  have hb' : i.bytes ≠ 0 := fun e => by rw [e] at hb; cases hb
  have hs0' : i.size ≠ 0 := fun e => by rw [e] at hs0; cases hs0
  obtain ⟨q, rfl⟩ : ∃ q : Nat, m = q := ⟨m.toNat, by omega⟩
  simp only [Int.toNat_natCast] at hle hsz ⊢
  obtain ⟨cap', l1, l2, e1⟩ := append_zeros (tt := ty) hu hu' hi hz hzs hb' hs0' hr'.knows rfl hr (by omega) hle hsz
  have hcs := hr.len
  have : (execOp a.eval ⟨some d, .call { callee := .builtin .append, args := List.toArray [x, y], argTypes := List.toArray [t, k] }, ty, pos, aft, g⟩).run P w = .ok (.value (.slice (some ⟨w.heap.size, 0, none⟩) (n + q) cap'))
      { w with drawn := w.drawn + 1, heap := w.heap.push (.cells (List.toArray (cs ++ fillC z q ++ fillC z (cap' - (n + q)))) e) } := by
    simp only [execOp, resolve, invoke, builtin, List.map_toArray, List.map_cons, List.map_nil, ha.eval hx, ha.eval hy, Sem.run_bind, Sem.run_pure, Result.andThen_ok, e1]
  rw [Oper.wp, this, Oper.upon_value]
  refine ⟨_, _, _, ⟨w.heap.size, cap', fillC z (cap' - (n + q)), hr'.size, l1, l2, ?_, rfl, rfl, rfl⟩, ha.put (Nat.le_of_ble_eq_true hlt) _, ?_⟩
  · simp only [List.length_append, hcs, fillC_length hzs]
    rw [← Nat.add_mul, ← Nat.add_mul]; congr 1; omega
  · exact (hr'.drew (w.drawn + 1)).alloc _
end
end Go.Proofs.Ytdglignjoojimaa

/- Pieces of slices by their bounds; what is put in and taken out. No conditions. -/
set_option linter.unusedVariables false
set_option linter.unusedSimpArgs false
namespace Go.Proofs.Ytdglignjoojimaa

section
variable {X : Cx} {P : Program} {N : Nat} {ops : Array Oper} {Q : Exit → Act → World → Prop} {σ : List (Nat × Value)} {h h' : Hp} {bl bl' : Bl} {rest : List Oper}
variable {dst : Option Tmp} {d : Nat} {ty : TypeId} {pos : String} {aft : Array Edge} {g : Option (Nat × Bool)}

/-- x[l:m], l ahead of the capacity. -/
theorem S_piece (l m : Nat) {t e : TypeId} {x : Operand} {lo hi : Option Operand} {i : TypeInfo} {b off len cap : Nat} (hu : P.underlying t = some (.slice e)) (hi' : P.info? e = some i)
    (hx : ev σ x = some (.slice (some ⟨b, off, none⟩) len cap)) (hl : bnd σ 0 lo = some (l : Int)) (hm : bnd σ len hi = some (m : Int)) (h1 : l ≤ m) (h2 : m ≤ cap) (h3 : l < cap) :
    Still P N σ h bl ⟨dst, .slice t x lo hi none, ty, pos, aft, g⟩ (.slice (some ⟨b, off + l * i.size, none⟩) (m - l) (cap - l)) := by
  have := S_slice (P := P) (N := N) (h := h) (bl := bl) (dst := dst) (ty := ty) (pos := pos) (aft := aft) (g := g) hu hi' hx hl hm (by omega) (by omega) (by omega)
  simp only [Int.toNat_natCast] at this
  rwa [cut3_at h3] at this
/-- x[:m]. -/
theorem S_to (m : Nat) {t e : TypeId} {x y : Operand} {i : TypeInfo} {A : Option Addr} {len cap : Nat} (hA : ∀ a, A = some a → a.spot = none) (hu : P.underlying t = some (.slice e)) (hi' : P.info? e = some i)
    (hx : ev σ x = some (.slice A len cap)) (hm : bnd σ len (some y) = some (m : Int)) (h2 : m ≤ cap) :
    Still P N σ h bl ⟨dst, .slice t x none (some y) none, ty, pos, aft, g⟩ (.slice A m cap) := by
  have := S_slice (P := P) (N := N) (h := h) (bl := bl) (dst := dst) (ty := ty) (pos := pos) (aft := aft) (g := g) (lo := none) (l := 0) hu hi' hx rfl hm (by omega) (by omega) (by omega)
  simp only [Int.toNat_natCast, Int.toNat_zero] at this
  rwa [cut3_0 hA] at this
/-- x[l:m] of whatever slice. -/
theorem S_cut (l m : Nat) {t e : TypeId} {x : Operand} {lo hi : Option Operand} {i : TypeInfo} {A : Option Addr} {len cap : Nat} (hu : P.underlying t = some (.slice e)) (hi' : P.info? e = some i)
    (hx : ev σ x = some (.slice A len cap)) (hl : bnd σ 0 lo = some (l : Int)) (hm : bnd σ len hi = some (m : Int)) (h1 : l ≤ m) (h2 : m ≤ cap) :
    Still P N σ h bl ⟨dst, .slice t x lo hi none, ty, pos, aft, g⟩ (cut3 A cap i.size l m cap) := by
  have := S_slice (P := P) (N := N) (h := h) (bl := bl) (dst := dst) (ty := ty) (pos := pos) (aft := aft) (g := g) hu hi' hx hl hm (by omega) (by omega) (by omega)
  simpa only [Int.toNat_natCast] using this

theorem SlR.blk {b off k c sz : Nat} {l : List Value} {T : TypeId} {fz : Nat × Nat} (hb : (b, Obj.cells l.toArray T fz) ∈ bl.flatten) (hk : off + k * sz ≤ l.length) (h1 : k ≤ c) (h2 : c ≤ 9223372036854775807) :
    SlR h bl (.slice (some ⟨b, off, none⟩) k c) k ((l.drop off).take (k * sz)) sz := by
  refine ⟨_, _, rfl, h1, h2, ?_, fun _ => ⟨b, off, rfl, Cells.of_at (.inr hb) fun j hj => ?_⟩⟩
  · rw [List.length_take, List.length_drop]; omega
  · simp at hj
    simp

/-- Blocks of two groups are not one. -/
theorem Rel.ne {w : World} {b c : Nat} {o o' : Obj} {bl1 bl2 : Bl} (r : Rel X h bl w) (h1 : Pick bl [(b, o)] bl1) (h2 : Pick bl1 [(c, o')] bl2) : b ≠ c := by
  have r1 := r.perm (h1.perm.trans (h2.perm.cons _))
  have hn := r1.nodup
  simp only [List.flatten_cons, List.cons_append, List.nil_append, List.map_cons, List.nodup_cons, List.mem_cons] at hn
  exact fun e => hn.1 (.inl e)
theorem V_ne {c : Code} {b b' : Nat} {o o' : Obj} {bl1 bl2 : Bl} (h1 : Pick bl [(b, o)] bl1) (h2 : Pick bl1 [(b', o')] bl2) (k : b ≠ b' → V X P N Q c σ h bl) : V X P N Q c σ h bl :=
  fun a w ha hr => k (hr.ne h1 h2) a w ha hr

theorem VL_ne {l : List Oper} {b b' : Nat} {o o' : Obj} {bl1 bl2 : Bl} (h1 : Pick bl [(b, o)] bl1) (h2 : Pick bl1 [(b', o')] bl2) (k : b ≠ b' → VL X P N ops Q l σ h bl) : VL X P N ops Q l σ h bl :=
  fun a w ha hr => k (hr.ne h1 h2) a w ha hr

/-! ### Lists -/
theorem putAt_mid {A B C vs : List Value} {n : Nat} (hn : A.length = n) (h : vs.length = B.length) : putAt (A ++ (B ++ C)) n vs = A ++ (vs ++ C) := by
  subst hn
  simp [putAt, h]

theorem ins_grow {cs vc F sp : List Value} {a : Nat} (ha : a ≤ cs.length) (hF : F.length = vc.length + (cs.length - a)) :
    putAt (putAt (cs.take a ++ F ++ sp) a vc) (a + vc.length) (cs.drop a) = (cs.take a ++ vc ++ cs.drop a) ++ sp := by
  have hl : (cs.take a).length = a := by simp; omega
  have e0 : cs.take a ++ F ++ sp = cs.take a ++ (F.take vc.length ++ (F.drop vc.length ++ sp)) := by
    rw [← List.append_assoc (F.take _), List.take_append_drop, List.append_assoc]
  rw [e0, putAt_mid hl (by simp; omega)]
  have e1 : cs.take a ++ (vc ++ (F.drop vc.length ++ sp)) = (cs.take a ++ vc) ++ (F.drop vc.length ++ sp) := by simp
  rw [e1, putAt_mid (by simp; omega) (by simp; omega)]
  simp

theorem ins_place {cs vc sp : List Value} {a : Nat} (ha : a ≤ cs.length) (hv : vc.length ≤ sp.length) :
    putAt (putAt (cs ++ sp) (a + vc.length) (cs.drop a)) a vc = (cs.take a ++ vc ++ cs.drop a) ++ sp.drop vc.length := by
  -- what lies from a on, cut behind as many places as are put in
  have hl : (cs.take a).length = a := by simp; omega
  have e0 : cs ++ sp = cs.take a ++ ((cs.drop a ++ sp).take vc.length ++ ((cs.drop a ++ sp).drop vc.length)) := by
    rw [List.take_append_drop, ← List.append_assoc, List.take_append_drop]
  have e1 : (cs.drop a ++ sp).drop vc.length = ((cs.drop a ++ sp).drop vc.length).take (cs.length - a) ++ sp.drop vc.length := by
    have : ((cs.drop a ++ sp).drop vc.length).drop (cs.length - a) = sp.drop vc.length := by
      rw [List.drop_drop, show vc.length + (cs.length - a) = (cs.drop a).length + vc.length by simp; omega, ← List.drop_drop, List.drop_left]
    rw [← this, List.take_append_drop]
  rw [e0]
  rw [e1]
  have e2 : ∀ (M : List Value), cs.take a ++ (M ++ (((cs.drop a ++ sp).drop vc.length).take (cs.length - a) ++ sp.drop vc.length)) = (cs.take a ++ M) ++ (((cs.drop a ++ sp).drop vc.length).take (cs.length - a) ++ sp.drop vc.length) := fun M => by simp
  rw [e2, putAt_mid (by simp; omega) (by simp; omega)]
  rw [List.append_assoc, putAt_mid hl (by simp; omega)]
  simp

theorem del_place {cs sp Z : List Value} {a b : Nat} (hab : a ≤ b) (hb : b ≤ cs.length) (hZ : Z.length = b - a) :
    putAt (putAt (cs ++ sp) a (cs.drop b)) (a + (cs.length - b)) Z = (cs.take a ++ cs.drop b) ++ (Z ++ sp) := by
  have hl : (cs.take a).length = a := by simp; omega
  have e0 : cs ++ sp = cs.take a ++ ((cs.drop a).take (cs.length - b) ++ ((cs.drop a).drop (cs.length - b) ++ sp)) := by
    rw [← List.append_assoc ((cs.drop a).take _), List.take_append_drop, ← List.append_assoc, List.take_append_drop]
  rw [e0, putAt_mid hl (by simp; omega)]
  have e1 : cs.take a ++ (cs.drop b ++ ((cs.drop a).drop (cs.length - b) ++ sp)) = (cs.take a ++ cs.drop b) ++ ((cs.drop a).drop (cs.length - b) ++ sp) := by simp
  rw [e1, putAt_mid (by simp; omega) (by simp; omega)]
theorem ones_drop {a : List Value} {k : Nat} (h : ones a = true) : ones (a.drop k) = true :=
  ones_iff.2 fun v hv => ones_iff.1 h v (List.mem_of_mem_drop hv)
end
end Go.Proofs.Ytdglignjoojimaa

/- The laws on slices, over what is told of the element's type in one line. No conditions. -/
set_option linter.unusedVariables false
set_option linter.unusedSimpArgs false
namespace Go.Proofs.Ytdglignjoojimaa

/-- A type's size, its bytes, its zero. -/
structure TyI (P : Program) (e : TypeId) (sz bs : Nat) (z : Value) : Prop where
  ex : ∃ i, P.info? e = some i ∧ i.size = sz ∧ i.bytes = bs ∧ i.zero = some z

section
variable {X : Cx} {P : Program} {N : Nat} {ops : Array Oper} {Q : Exit → Act → World → Prop} {σ : List (Nat × Value)} {h h' : Hp} {bl bl' : Bl} {rest : List Oper}
variable {dst : Option Tmp} {d : Nat} {ty : TypeId} {pos : String} {aft : Array Edge} {g : Option (Nat × Bool)}
variable {t t' e : TypeId} {sz bs : Nat} {z : Value} {d' : TypeDesc}

theorem X_index {x y : Operand} {b off len cap : Nat} {k : IntKind} {n : Int} (hu : P.underlying t = some (.slice e)) (ht : TyI P e sz bs z)
    (hx : ev σ x = some (.slice (some ⟨b, off, none⟩) len cap)) (hy : ev σ y = some (.int k n)) (h0 : 0 ≤ n) (h1 : n < len) :
    Still P N σ h bl ⟨dst, .indexAddr t x y, ty, pos, aft, g⟩ (.pointer (some ⟨b, off + n.toNat * sz, none⟩)) := by
  obtain ⟨i, hi, rfl, rfl, hz⟩ := ht.ex
  exact S_index hu hi hx hy h0 h1
theorem X_piece (l m : Nat) {x : Operand} {lo hi : Option Operand} {b off len cap : Nat} (hu : P.underlying t = some (.slice e)) (ht : TyI P e sz bs z)
    (hx : ev σ x = some (.slice (some ⟨b, off, none⟩) len cap)) (hl : bnd σ 0 lo = some (l : Int)) (hm : bnd σ len hi = some (m : Int)) (h1 : l ≤ m) (h2 : m ≤ cap) (h3 : l < cap) :
    Still P N σ h bl ⟨dst, .slice t x lo hi none, ty, pos, aft, g⟩ (.slice (some ⟨b, off + l * sz, none⟩) (m - l) (cap - l)) := by
  obtain ⟨i, hi, rfl, rfl, hz⟩ := ht.ex
  exact S_piece l m hu hi hx hl hm h1 h2 h3
theorem X_to (m : Nat) {x y : Operand} {A : Option Addr} {len cap : Nat} (hA : ∀ a, A = some a → a.spot = none) (hu : P.underlying t = some (.slice e)) (ht : TyI P e sz bs z)
    (hx : ev σ x = some (.slice A len cap)) (hm : bnd σ len (some y) = some (m : Int)) (h2 : m ≤ cap) :
    Still P N σ h bl ⟨dst, .slice t x none (some y) none, ty, pos, aft, g⟩ (.slice A m cap) := by
  obtain ⟨i, hi, rfl, rfl, hz⟩ := ht.ex
  exact S_to m hA hu hi hx hm h2
theorem X_cut (l m : Nat) {x : Operand} {lo hi : Option Operand} {A : Option Addr} {len cap : Nat} (hu : P.underlying t = some (.slice e)) (ht : TyI P e sz bs z)
    (hx : ev σ x = some (.slice A len cap)) (hl : bnd σ 0 lo = some (l : Int)) (hm : bnd σ len hi = some (m : Int)) (h1 : l ≤ m) (h2 : m ≤ cap) :
    Still P N σ h bl ⟨dst, .slice t x lo hi none, ty, pos, aft, g⟩ (cut3 A cap sz l m cap) := by
  obtain ⟨i, hi, rfl, rfl, hz⟩ := ht.ex
  exact S_cut l m hu hi hx hl hm h1 h2
theorem X_slice3 (l m q : Nat) {x lo hi mx : Operand} {A : Option Addr} {len cap : Nat} {k1 k2 k3 : IntKind} (hu : P.underlying t = some (.slice e)) (ht : TyI P e sz bs z)
    (hx : ev σ x = some (.slice A len cap)) (hl : ev σ lo = some (.int k1 (l : Int))) (hm : ev σ hi = some (.int k2 (m : Int))) (hq : ev σ mx = some (.int k3 (q : Int))) (h1 : l ≤ m) (h2 : m ≤ q) (h3 : q ≤ cap) :
    Still P N σ h bl ⟨dst, .slice t x (some lo) (some hi) (some mx), ty, pos, aft, g⟩ (cut3 A cap sz l m q) := by
  obtain ⟨i, hi, rfl, rfl, hz⟩ := ht.ex
  exact S_slice3 hu hi hx hl hm hq (by omega) (by omega) (by omega) (by omega)

theorem X_append {x y : Operand} {n m : Nat} {v u : Value} {cs ds : List Value} {G : Gr} {blR : Bl} (hlt : Nat.blt d N = true)
    (hu : P.underlying t = some (.slice e)) (hu' : P.underlying t' = some d') (hn : notInt d' = true) (ht : TyI P e sz bs z) (hzs : Nat.beq z.cells.size sz = true) (hb : Nat.beq bs 0 = false)
    (hx : ev σ x = some v) (hy : ev σ y = some u) (hB : Buf e sz v n cs G) (hG : Pick bl G blR) (hs : SlR h bl u m ds sz) (h1 : ones ds = true) (hsz : (2 * (n + m) + 200) * bs ≤ 281474976710656) :
    Eff X P N ⟨some d, .call { callee := .builtin .append, args := List.toArray [x, y], argTypes := List.toArray [t, t'] }, ty, pos, aft, g⟩ σ h bl (PApp X e sz σ h blR d (n + m) (cs ++ ds)) := by
  obtain ⟨i, hi, rfl, rfl, hz⟩ := ht.ex
  exact E_append hlt hu hu' hn hi hz (Nat.eq_of_beq_eq_true hzs) hb hx hy hB hG hs h1 hsz
theorem X_append_in {x y : Operand} {b off n cap m : Nat} {u : Value} {ds l : List Value} {T : TypeId} {blR : Bl} (hlt : Nat.blt d N = true)
    (hu : P.underlying t = some (.slice e)) (hu' : P.underlying t' = some d') (hn : notInt d' = true) (ht : TyI P e sz bs z)
    (hx : ev σ x = some (.slice (some ⟨b, off, none⟩) n cap)) (hy : ev σ y = some u) (hs : SlR h bl u m ds sz) (hle : n + m ≤ cap) (hb : Pick bl [(b, .cells l.toArray T (0, 0))] blR)
    (hlen : off + (n + m) * sz ≤ l.length) (h1 : ones ds = true) :
    Eff X P N ⟨some d, .call { callee := .builtin .append, args := List.toArray [x, y], argTypes := List.toArray [t, t'] }, ty, pos, aft, g⟩ σ h bl
      (PVal σ h ([(b, .cells (putAt l (off + n * sz) ds).toArray T (0, 0))] :: blR) d (.slice (some ⟨b, off, none⟩) (n + m) cap)) := by
  obtain ⟨i, hi, rfl, rfl, hz⟩ := ht.ex
  exact E_append_in hlt hu hu' hn hi hx hy hs hle hb hlen h1
theorem X_append_zeros {k : TypeId} {x y : Operand} {n cap : Nat} {m : Int} {A : Option Addr} {cs : List Value} {ik : IntKind} (hlt : Nat.blt d N = true) (hu : P.underlying t = some (.slice e)) (hu' : P.underlying k = some (.int ik))
    (ht : TyI P e sz bs z) (hzs : Nat.beq z.cells.size sz = true) (hb : Nat.beq bs 0 = false) (hs0 : Nat.beq sz 0 = false) (hx : ev σ x = some (.slice A n cap)) (hy : ev σ y = some (.int .i64 m)) (hr : SlR h bl (.slice A n cap) n cs sz)
    (hm : 0 < m) (hle : cap < n + m.toNat) (hsz : (2 * (n + m.toNat) + 200) * bs ≤ 281474976710656) :
    Eff X P N ⟨some d, .call { callee := .builtin .append, args := List.toArray [x, y], argTypes := List.toArray [t, k] }, ty, pos, aft, g⟩ σ h bl (PZero X e σ h bl d (n + m.toNat) (cs ++ fillC z m.toNat) z sz) := by
  obtain ⟨i, hi, rfl, rfl, hz⟩ := ht.ex
  exact E_append_zeros hlt hu hu' hi hz (Nat.eq_of_beq_eq_true hzs) hb hs0 hx hy hr hm hle hsz
theorem X_copy {x y : Operand} {b off n cap m : Nat} {A : Option Addr} {u : Value} {ds l : List Value} {T : TypeId} {blR : Bl} (hlt : Nat.blt d N = true)
    (hu : P.underlying t = some (.slice e)) (ht : TyI P e sz bs z)
    (hx : ev σ x = some (.slice A n cap)) (hy : ev σ y = some u) (hs : SlR h bl u m ds sz) (hb : Pick bl [(b, .cells l.toArray T (0, 0))] blR) (hA : 0 < min m n → A = some ⟨b, off, none⟩) 
    (hlen : 0 < min m n → off + min m n * sz ≤ l.length) (h1 : ones (ds.take (min m n * sz)) = true) :
    Eff X P N ⟨some d, .call { callee := .builtin .copy, args := List.toArray [x, y], argTypes := List.toArray [t, t'] }, ty, pos, aft, g⟩ σ h bl
      (PVal σ h ([(b, .cells (putAt l off (ds.take (min m n * sz))).toArray T (0, 0))] :: blR) d (.int .i64 (min m n : Nat))) := by
  obtain ⟨i, hi, rfl, rfl, hz⟩ := ht.ex
  exact E_copy hlt hu hi hx hy hs hb hA hlen h1
theorem X_copy0 {x y : Operand} {n cap m : Nat} {A : Option Addr} {u : Value} {ds : List Value} (hlt : Nat.blt d N = true)
    (hu : P.underlying t = some (.slice e)) (ht : TyI P e sz bs z)
    (hx : ev σ x = some (.slice A n cap)) (hy : ev σ y = some u) (hs : SlR h bl u m ds sz) (h0 : min m n = 0) :
    Eff X P N ⟨some d, .call { callee := .builtin .copy, args := List.toArray [x, y], argTypes := List.toArray [t, t'] }, ty, pos, aft, g⟩ σ h bl (PVal σ h bl d (.int .i64 0)) := by
  obtain ⟨i, hi, rfl, rfl, hz⟩ := ht.ex
  exact E_copy0 hlt hu hi hx hy hs h0
theorem X_clear {x : Operand} {b off n cap : Nat} {A : Option Addr} {l : List Value} {T : TypeId} {blR : Bl}
    (hu : P.underlying t = some (.slice e)) (ht : TyI P e sz bs z) (hzs : Nat.beq z.cells.size sz = true) (hzo : ones z.cells.toList = true)
    (hx : ev σ x = some (.slice A n cap)) (hb : Pick bl [(b, .cells l.toArray T (0, 0))] blR) (hA : 0 < n → A = some ⟨b, off, none⟩) (hlen : 0 < n → off + n * sz ≤ l.length) :
    Eff X P N ⟨none, .call { callee := .builtin .clear, args := List.toArray [x], argTypes := List.toArray [t] }, ty, pos, aft, g⟩ σ h bl
      (PSt σ h ([(b, .cells (putAt l off (fillC z n)).toArray T (0, 0))] :: blR)) := by
  obtain ⟨i, hi, rfl, rfl, hz⟩ := ht.ex
  exact E_clear hu hi hz (Nat.eq_of_beq_eq_true hzs) hzo hx hb hA hlen
theorem X_apart {params res : List TypeId} {b c o1 o2 n m cap cap' : Nat} {l l' : Array Value} {T T' : TypeId} {w : World} (hp : params[0]? = some t) (hu : P.underlying t = some (.slice e)) (ht : TyI P e sz bs z)
    (hb : w.heap[b]? = some (.cells l T (0, 0))) (hc : w.heap[c]? = some (.cells l' T' (0, 0))) (hne : b ≠ c) (hl : 0 < l.size) (hl' : 0 < l'.size) :
    (Extern.SlicesOverlaps.overlaps params.toArray res.toArray (List.toArray [.slice (some ⟨b, o1, none⟩) n cap, .slice (some ⟨c, o2, none⟩) m cap'])).run P w = .ok (.bool false) w := by
  obtain ⟨i, hi, rfl, rfl, hz⟩ := ht.ex
  exact run_apart hp hu hi hb hc hne hl hl'

/-- The model's own 'overlaps', of two slices in blocks of their own. -/
theorem X_overlaps {f : FuncId} {fn : Func} {x y : Operand} {tys : Array TypeId} {params res : List TypeId} {b c o1 o2 n m cap cap' : Nat} {l l' : List Value} {T T' : TypeId} (hfn : P.funcs[f]? = some fn) (hb : fn.body.isNone = true)
    (hn : (fn.name == "runtime.NumGoroutine") = false) (h1 : (Extern.findNext fn).isNone = true) (h2 : Extern.find fn = some (Extern.SlicesOverlaps.overlaps params.toArray res.toArray)) (hp : params[0]? = some t)
    (hu : P.underlying t = some (.slice e)) (ht : TyI P e sz bs z) (hx : ev σ x = some (.slice (some ⟨b, o1, none⟩) n cap)) (hy : ev σ y = some (.slice (some ⟨c, o2, none⟩) m cap'))
    (hbb : (b, Obj.cells l.toArray T (0, 0)) ∈ bl.flatten) (hcc : (c, Obj.cells l'.toArray T' (0, 0)) ∈ bl.flatten) (hne : b ≠ c) (hl : 0 < l.length) (hl' : 0 < l'.length) :
    Still P N σ h bl ⟨dst, .call { callee := .value (.func f), args := List.toArray [x, y], argTypes := tys }, ty, pos, aft, g⟩ (.bool false) := by
  refine S_ext (fs := []) (cs := []) (as := [x, y]) (vs := [.slice (some ⟨b, o1, none⟩) n cap, .slice (some ⟨c, o2, none⟩) m cap']) rfl (by simp [evs, hx, hy]) hfn hb hn h1 h2 fun w hk => ?_
  exact X_apart hp hu ht (hk.2 _ hbb) (hk.2 _ hcc) hne (by simpa using hl) (by simpa using hl')
end
end Go.Proofs.Ytdglignjoojimaa

/- Lists of things laid out in cells. No conditions. -/
set_option linter.unusedVariables false
set_option linter.unusedSimpArgs false
namespace Go.Proofs.Ytdglignjoojimaa

/-- A way to lay a thing out in sz cells. -/
structure Enc {α : Type} (enc : α → List Value) (sz : Nat) : Prop where
  len : ∀ a, (enc a).length = sz
  one : ∀ a, ones (enc a) = true

section
variable {α : Type} {enc : α → List Value} {sz : Nat}
theorem Enc.flat_len (E : Enc enc sz) (l : List α) : (l.flatMap enc).length = l.length * sz := by
  induction l with
  | nil => simp
  | cons a l ih => simp [ih, E.len, Nat.add_mul, Nat.add_comm]
theorem Enc.flat_one (E : Enc enc sz) (l : List α) : ones (l.flatMap enc) = true := by
  induction l with
  | nil => rfl
  | cons a l ih => rw [List.flatMap_cons, ones_append, E.one, ih]; rfl
theorem Enc.flat_drop (E : Enc enc sz) : ∀ (l : List α) (i : Nat), (l.flatMap enc).drop (i * sz) = (l.drop i).flatMap enc
  | l, 0 => by simp
  | [], i + 1 => by simp
  | a :: l, i + 1 => by
    rw [List.flatMap_cons, Nat.add_mul, Nat.one_mul, Nat.add_comm, ← List.drop_drop, List.drop_left' (E.len a), E.flat_drop l i]
    rfl
theorem Enc.flat_take (E : Enc enc sz) : ∀ (l : List α) (i : Nat), (l.flatMap enc).take (i * sz) = (l.take i).flatMap enc
  | l, 0 => by simp
  | [], i + 1 => by simp
  | a :: l, i + 1 => by
    rw [List.flatMap_cons, Nat.add_mul, Nat.one_mul, Nat.add_comm, List.take_append, List.take_of_length_le (by rw [E.len]; omega), E.len, Nat.add_sub_cancel_left, E.flat_take l i]
    rfl
theorem Enc.flat_at (E : Enc enc sz) (l : List α) (i : Nat) (hi : i < l.length) : ((l.flatMap enc).drop (i * sz)).take sz = enc l[i] := by
  rw [E.flat_drop]
  have : l.drop i = l[i] :: l.drop (i + 1) := List.drop_eq_getElem_cons hi
  rw [this, List.flatMap_cons, List.take_append_of_le_length (by rw [E.len]; omega), List.take_of_length_le (by rw [E.len]; omega)]

theorem SlR.at_ {h : Hp} {bl : Bl} {v : Value} {l : List α} {n : Nat} (E : Enc enc sz) (s : SlR h bl v n (l.flatMap enc) sz) (hn : l.length = n) {i : Nat} (hi : i < n) :
    ∃ b off cap, v = .slice (some ⟨b, off, none⟩) n cap ∧ Cells h bl b (off + i * sz) (enc (l[i]'(by omega))) := by
  obtain ⟨b, off, cap, e, c⟩ := s.elem (i := (i : Int)) (by omega) (by omega)
  refine ⟨b, off, cap, e, ?_⟩
  rw [Int.toNat_natCast, E.flat_at l i (by omega)] at c
  exact c
theorem SlR.n_len {h : Hp} {bl : Bl} {v : Value} {l : List α} {n : Nat} (E : Enc enc sz) (hz : 0 < sz) (s : SlR h bl v n (l.flatMap enc) sz) : l.length = n := by
  have := s.len
  rw [E.flat_len] at this
  exact Nat.eq_of_mul_eq_mul_right hz this
end

section
variable {X : Cx} {P : Program} {N : Nat} {ops : Array Oper} {Q : Exit → Act → World → Prop} {σ : List (Nat × Value)} {h h' : Hp} {bl bl' : Bl} {rest : List Oper}
variable {dst : Option Tmp} {d : Nat} {ty : TypeId} {pos : String} {aft : Array Edge} {g : Option (Nat × Bool)}
/-- The index is a Nat, the element's place written out. -/
theorem X_at {t e : TypeId} {sz bs : Nat} {z : Value} {x y : Operand} {b off len cap : Nat} {k : IntKind} (n : Nat) (hu : P.underlying t = some (.slice e)) (ht : TyI P e sz bs z)
    (hx : ev σ x = some (.slice (some ⟨b, off, none⟩) len cap)) (hy : ev σ y = some (.int k (n : Int))) (h1 : n < len) :
    Still P N σ h bl ⟨dst, .indexAddr t x y, ty, pos, aft, g⟩ (.pointer (some ⟨b, off + n * sz, none⟩)) := by
  have := X_index (N := N) (h := h) (bl := bl) (dst := dst) (ty := ty) (pos := pos) (aft := aft) (g := g) hu ht hx hy (by omega) (by omega)
  simpa using this
/-- Differences and sums of Nats. -/
theorem S_subn (m n : Nat) {x y : Operand} {t u : TypeId} (hx : ev σ x = some (.int .i64 (m : Int))) (hy : ev σ y = some (.int .i64 (n : Int))) (hle : n ≤ m) (hm : m ≤ 9223372036854775807) :
    Still P N σ h bl ⟨dst, .binOp .sub t x y u, ty, pos, aft, g⟩ (.int .i64 ((m - n : Nat) : Int)) := by
  have := S_subi (P := P) (N := N) (h := h) (bl := bl) (dst := dst) (ty := ty) (pos := pos) (aft := aft) (g := g) (t := t) (u := u) hx hy (by omega) (by omega)
  rwa [show (m : Int) - (n : Int) = ((m - n : Nat) : Int) by omega] at this
theorem S_addn (m n : Nat) {x y : Operand} {t u : TypeId} (hx : ev σ x = some (.int .i64 (m : Int))) (hy : ev σ y = some (.int .i64 (n : Int))) (hm : m + n ≤ 9223372036854775807) :
    Still P N σ h bl ⟨dst, .binOp .add t x y u, ty, pos, aft, g⟩ (.int .i64 ((m + n : Nat) : Int)) := by
  have := S_addi (P := P) (N := N) (h := h) (bl := bl) (dst := dst) (ty := ty) (pos := pos) (aft := aft) (g := g) (t := t) (u := u) hx hy (by omega) (by omega)
  rwa [show (m : Int) + (n : Int) = ((m + n : Nat) : Int) by omega] at this
end
end Go.Proofs.Ytdglignjoojimaa

/- Equality of structs. No conditions. -/
set_option linter.unusedVariables false
namespace Go.Proofs.Ytdglignjoojimaa
section
variable {P : Program} {N : Nat} {σ : List (Nat × Value)} {h : Hp} {bl : Bl} {dst : Option Tmp} {ty : TypeId} {pos : String} {aft : Array Edge} {g : Option (Nat × Bool)}
/-- The guard's shape; kept apart from the types, whose depth the kernel must not unfold. -/
theorem eqG_shape {G : Sem Bool} {u : Unsupported} (e : Program → Program → Bool) (hg : e P P = false) (w : World) :
    (do if !(e (← program) (← program)) then return
        if ← G then unsupported u : Sem Unit).run P w = .ok () w := by
  have hp : (program).run P w = .ok P w := rfl
  simp only [Sem.run_bind, hp, Result.andThen_ok, hg, Bool.not_false, if_true, Sem.run_pure]
theorem run_eqG {t : TypeId} {x y : Operand} {xs ys : Array Value} (hg : P.eqGuardType P.depth t = false) (w : World) : (eqGuard .eql t x y (.agg xs) (.agg ys)).run P w = .ok () w :=
  eqG_shape (G := Op.eqGuardIn Op.maxDepth t (.agg xs) (.agg ys)) (u := .noEntry "binop/eql: two nil values of an interface type with methods, in a part of a struct or an array") (fun p q => p.eqGuardType q.depth t) hg w
theorem run_neG {t : TypeId} {x y : Operand} {xs ys : Array Value} (hg : P.eqGuardType P.depth t = false) (w : World) : (eqGuard .neq t x y (.agg xs) (.agg ys)).run P w = .ok () w :=
  eqG_shape (G := Op.eqGuardIn Op.maxDepth t (.agg xs) (.agg ys)) (u := .noEntry "binop/eql: two nil values of an interface type with methods, in a part of a struct or an array") (fun p q => p.eqGuardType q.depth t) hg w
theorem run_eqv {t : TypeId} {xs ys : Array Value} {b : Bool} {w : World} (he : (Op.equal t (.agg xs) (.agg ys)).run P w = .ok b w) : (binOp .eql t (.agg xs) (.agg ys)).run P w = .ok (.bool b) w := by
  simp only [binOp, Sem.run_bind, he, Result.andThen_ok, Sem.run_pure]
theorem run_nev {t : TypeId} {xs ys : Array Value} {b : Bool} {w : World} (he : (Op.equal t (.agg xs) (.agg ys)).run P w = .ok b w) : (binOp .neq t (.agg xs) (.agg ys)).run P w = .ok (.bool (!b)) w := by
  simp only [binOp, Sem.run_bind, he, Result.andThen_ok, Sem.run_pure]
theorem S_eqa {t u : TypeId} {x y : Operand} {xs ys : Array Value} {b : Bool} (hg : P.eqGuardType P.depth t = false) (he : ∀ w, (Op.equal t (.agg xs) (.agg ys)).run P w = .ok b w)
    (hx : ev σ x = some (.agg xs)) (hy : ev σ y = some (.agg ys)) : Still P N σ h bl ⟨dst, .binOp .eql t x y u, ty, pos, aft, g⟩ (.bool b) := by
  intro a w ha _
  have h1 := run_eqG (P := P) (x := x) (y := y) (xs := xs) (ys := ys) hg w
  have h2 := run_eqv (he w)
  simp only [execOp, ha.eval hx, ha.eval hy, Sem.run_bind, h1, h2, Result.andThen_ok, Sem.run_pure]
theorem S_nea {t u : TypeId} {x y : Operand} {xs ys : Array Value} {b : Bool} (hg : P.eqGuardType P.depth t = false) (he : ∀ w, (Op.equal t (.agg xs) (.agg ys)).run P w = .ok b w)
    (hx : ev σ x = some (.agg xs)) (hy : ev σ y = some (.agg ys)) : Still P N σ h bl ⟨dst, .binOp .neq t x y u, ty, pos, aft, g⟩ (.bool (!b)) := by
  intro a w ha _
  have h1 := run_neG (P := P) (x := x) (y := y) (xs := xs) (ys := ys) hg w
  have h2 := run_nev (he w)
  simp only [execOp, ha.eval hx, ha.eval hy, Sem.run_bind, h1, h2, Result.andThen_ok, Sem.run_pure]
end
end Go.Proofs.Ytdglignjoojimaa

/- From a contract to a row: what an argument reads, and what the call has left. No conditions. -/
set_option linter.unusedVariables false
namespace Go.Proofs.Ytdglignjoojimaa

def hpW (W : World) : Hp := fun b => W.heap[b]?
/-- The old blocks are as they were. -/
structure Same (W w : World) : Prop where
  size : W.heap.size ≤ w.heap.size
  old : ∀ b, b < W.heap.size → w.heap[b]? = W.heap[b]?
  os : w.os = W.os
  out : w.output = W.output
theorem Con.at_world {P : Program} {f : FuncId} {args : List Value} {W : World} {post : Value → Hp → Bl → Prop} (c : Con P f args (hpW W) [] post) :
    Calls P f args.toArray W (fun e w => ∃ v h' nb, e = .returned v ∧ Same W w ∧ post v h' nb) :=
  (c W ⟨Nat.le_refl _, fun _ _ _ => rfl, rfl, rfl, rfl, fun _ _ k => k, fun _ _ k => .inl k, fun _ _ k => k, fun p hp => by simp at hp, by simp⟩).mono
    fun e w ⟨v, h', nb, he, hr, hq⟩ => ⟨v, h', nb, he, ⟨hr.size, fun b hb => hr.frame b hb (by simp), hr.os, hr.output⟩, hq⟩
theorem Same.kept {W w : World} (s : Same W w) (may : MemPlace → Prop) : W.keptBut w may := by
  refine ⟨s.os, s.out, fun i hi => ?_⟩
  rw [s.old i hi]
  cases h : W.heap[i]? with
  | none => rfl
  | some o => cases o <;> first | exact ⟨rfl, rfl, rfl, fun _ _ => rfl⟩ | exact .inr ⟨rfl, rfl⟩ | rfl
theorem Same.at_ {W w : World} (s : Same W w) {p : MemPlace} (hp : p.block < W.heap.size) : W.sameAt w p := by
  cases p with
  | cell b off => show w.cell? _ = W.cell? _; unfold World.cell?; simp only; rw [s.old b hp]
  | map b => exact s.old b hp

section
variable {H : Type} {enc : TypeId × Value → H} {P : Program}
theorem trodAll_carry {w w' : World} {base : Nat} {spare : Nat → Bool} {held : Bool} : ∀ {ts : List TypeId} {vs : List Value} {ds : List (DataW H)} {ps : List MemPlace},
    DataW.TrodAll enc P w base spare held ts vs ds ps → (∀ p ∈ ps, w.sameAt w' p) → DataW.TrodAll enc P w' base spare held ts vs ds ps
  | [], [], [], _, h, _ => h
  | _ :: _, _ :: _, _ :: _, _, ⟨p, q, ⟨n, h1⟩, h2, e⟩, hs =>
    ⟨p, q, ⟨n, DataW.trod_carry n _ _ _ h1 (fun x hx => hs x (by rw [e]; exact List.mem_append_left _ hx))⟩, trodAll_carry h2 (fun x hx => hs x (by rw [e]; exact List.mem_append_right _ hx)), e⟩

/-- The row's end where the call has only read what came in. -/
theorem post_read {f : Func} {s : ChangeSpec} {W W' : World} {args : Array Value} {v : Value} {ds : List (DataW H)} {p : List MemPlace} {T : TypeId → Prop}
    (hW : DataW.Whole enc P f.params.toList s.vars false W args.toList ds [] p) (hA : DataW.TrodAll enc P W 0 (fun _ => true) true f.params.toList args.toList ds p)
    (K : Go.Kids P T) (hz : ∀ t e, T t → P.underlying t = some (.slice e) → 0 < P.cellsOf e) (hT : ∀ t ∈ f.params.toList, T t) (hS : Same W W')
    (hres : DataW.TrodAll enc P W' W.heap.size (fun _ => false) false f.resultTypes.toList (v.resultList f.resultTypes.size) (s.fn H (ds ++ [])).results [])
    (hargs : (s.fn H (ds ++ [])).args = ds) (hvars : ∀ sp, DataW.TrodVars enc P W' sp s.vars (s.fn H (ds ++ [])).vars []) :
    s.post enc P f false true false false W args v W' := by
  have hlt : ∀ x ∈ p, x.block < W.heap.size := fun x hx => hW.lt x hx
  refine ⟨ds, [], p, [], p, [], hW, hres, ?_, hvars _, hS.kept _, fun h => by cases h⟩
  rw [hargs]
  exact DataW.TrodAll.respare K hz hT (trodAll_carry hA (fun x hx => hS.at_ (hlt x hx))) (fun x hx => by simpa using hlt x hx)

/-- A slice of things laid in cells, read. -/
theorem cellsW {W : World} : ∀ {cs : List Value} {b off : Nat}, (∀ i v, cs[i]? = some v → W.cell? ⟨b, off + i, none⟩ = some v) → Cells (hpW W) [] b off cs
  | [], _, _, _ => trivial
  | v :: cs, b, off, h => by
    refine ⟨?_, cellsW fun i v hv => by have := h (i + 1) v (by simpa using hv); rwa [show off + (i + 1) = off + 1 + i by omega] at this⟩
    have h0 := h 0 v rfl
    unfold World.cell? at h0
    split at h0
    · rename_i c T fz hb
      exact ⟨c, T, fz, .inl hb, by simpa using h0⟩
    · simp at h0
open Go.ChangeShapes Go.WideShapes in
theorem open_enc {α : Type} {en : α → List Value} {sz : Nat} (E : Enc en sz) (hz : 0 < sz) {W : World} {sp : Nat → Bool} {held : Bool} {t e : TypeId} {r : Reach} {b0 : Nat} {v : Value} {d : DataW H} {ps : List MemPlace}
    (ht : P.underlying t = some (.slice e)) (hsz : P.cellsOf e = sz) (hval : Value.okWide P W r b0 t v)
    (hd : ∀ n cs x, DataW.trod enc P W 0 sp held n e cs = some x → ∃ a, cs = en a) (h : DataW.Trod enc P W 0 sp held t v d ps) : ∃ l : List α, SlR (hpW W) [] v l.length (l.flatMap en) sz := by
  obtain ⟨fuel, hf⟩ := h
  obtain ⟨A, n, cap, rfl⟩ : ∃ A n cap, v = .slice A n cap := okWide_slice ht hval
  rcases DataW.trod_slice ht hf with ⟨h0, _⟩ | ⟨a, len, cap', elems, rest, n', _, h0, _, hb, hl, hm, hlen, hel, _, _⟩
  · simp [Value.cells] at h0
    obtain ⟨rfl, rfl, rfl⟩ := h0
    exact ⟨[], none, 0, rfl, Nat.le_refl _, by omega, by simp, fun h => absurd h (by simp)⟩
  · simp [Value.cells] at h0
    obtain ⟨rfl, rfl, rfl⟩ := h0
    have each : ∀ i, i < n → ∃ x : α, W.cells? 0 (a.add (i * sz)) sz = some (en x) := fun i hi => by
      have h1 := hel i hi
      rw [hsz, List.getElem?_eq_getElem (by omega), Option.bind_eq_some_iff] at h1
      obtain ⟨cs, h1, h2⟩ := h1
      obtain ⟨x, rfl⟩ := hd _ _ _ h2
      exact ⟨x, h1⟩
    have build : ∀ m, m ≤ n → ∃ l : List α, l.length = m ∧ ∀ i (hi : i < l.length), W.cells? 0 (a.add (i * sz)) sz = some (en l[i]) := by
      intro m
      induction m with
      | zero => exact fun _ => ⟨[], rfl, fun i hi => by simp at hi⟩
      | succ m ih =>
        intro hm
        obtain ⟨l, hl, hc⟩ := ih (by omega)
        obtain ⟨x, hx⟩ := each m (by omega)
        refine ⟨l ++ [x], by simp [hl], fun i hi => ?_⟩
        rcases Nat.lt_or_ge i l.length with h' | h'
        · rw [List.getElem_append_left h']; exact hc i h'
        · obtain rfl : i = l.length := by simp at hi; omega
          rw [List.getElem_append_right (Nat.le_refl _)]
          simp only [Nat.sub_self, List.getElem_cons_zero]
          rw [hl]; exact hx
    obtain ⟨l, hln, hc⟩ := build n (Nat.le_refl _)
    refine ⟨l, some a, cap, by rw [hln], by omega, hm, E.flat_len l, fun hpos => ?_⟩
    have addn : ∀ (b o m : Nat), (⟨b, o, none⟩ : Addr).add m = ⟨b, o + m, none⟩ := fun b o m => by
      unfold Addr.add
      split
      · rename_i h; subst h; rfl
      · rfl
    have hsp : a.spot = none := by
      have h1 := (World.cells?_some (hc 0 hpos)).2.2 0 hz
      rw [List.getElem?_eq_getElem (by rw [E.len]; exact hz), Nat.zero_mul] at h1
      have e0 : (a.add 0).add 0 = a := rfl
      rw [e0] at h1
      unfold World.cell? at h1
      split at h1
      · cases hs : a.spot with
        | none => rfl
        | some q => rw [hs] at h1; simp at h1
      · simp at h1
    obtain ⟨ab, ao, as'⟩ := a
    simp only at hsp
    subst hsp
    refine ⟨ab, ao, rfl, cellsW fun k u hk => ?_⟩
    have hkl : k < l.length * sz := by
      have := (List.getElem?_eq_some_iff.1 hk).1
      rwa [E.flat_len] at this
    have hi : k / sz < l.length := Nat.div_lt_of_lt_mul (by rwa [Nat.mul_comm] at hkl)
    have hr : k % sz < sz := Nat.mod_lt _ hz
    have h1 := (World.cells?_some (hc (k / sz) hi)).2.2 (k % sz) hr
    have h2 := E.flat_at l (k / sz) hi
    have h3 : (en l[k / sz])[k % sz]? = some u := by
      rw [← h2, List.getElem?_take_of_lt hr, List.getElem?_drop, Nat.div_add_mod' k sz]
      exact hk
    rw [h3, addn, addn, Nat.add_assoc, Nat.div_add_mod' k sz] at h1
    exact h1
end
end Go.Proofs.Ytdglignjoojimaa

/- Arrays: a zero array built, laid and stored whole; the address of a place. No conditions. -/
set_option linter.unusedVariables false
set_option linter.unusedSimpArgs false
namespace Go.Proofs.Ytdglignjoojimaa
section
variable {X : Cx} {P : Program} {N : Nat} {σ : List (Nat × Value)} {h : Hp} {bl : Bl} {dst : Option Tmp} {ty : TypeId} {pos : String} {aft : Array Edge} {g : Option (Nat × Bool)}
/-- The address of a place in an array of at least two. -/
theorem S_arr {t e : TypeId} {sz bs : Nat} {z : Value} {x y : Operand} {b off len : Nat} {k : IntKind} (n : Nat) (hu : P.underlying t = some (.array len e)) (ht : TyI P e sz bs z)
    (hx : ev σ x = some (.pointer (some ⟨b, off, none⟩))) (hy : ev σ y = some (.int k (n : Int))) (h1 : n < len) :
    Still P N σ h bl ⟨dst, .indexAddr t x y, ty, pos, aft, g⟩ (.pointer (some ⟨b, off + n * sz, none⟩)) := by
  obtain ⟨i, hi, rfl, rfl, hz⟩ := ht.ex
  intro a w ha _
  simp only [execOp, ha.eval hx, ha.eval hy, Instr.indexAt, asIntOf, Instr.sureAddr, Sem.run_bind, Sem.run_pure, run_under w hu, Result.andThen_ok, run_size w hi]
  have h2 : (0 : Int) ≤ (n : Int) ∧ (n : Int) < (len : Int) := ⟨by omega, by omega⟩
  rw [if_pos h2]
  simp [run_size w hi, add_none]
/-- An array, all zero. -/
theorem S_zarr {t e : TypeId} {len : Nat} {zs : List Value} {i : TypeInfo} (hu : P.underlying t = some (.array len e)) (hi : P.info? e = some i)
    (hz : ((P.info? t).bind (·.zero)).map (·.cells) = some zs.toArray) :
    Still P N σ h bl ⟨dst, .build t (List.toArray []), ty, pos, aft, g⟩ (.agg zs.toArray) := by
  refine S_build (vs := []) rfl fun w => ?_
  obtain ⟨j, hj, hz⟩ := Option.map_eq_some_iff.1 hz
  obtain ⟨j', hj', hz'⟩ := Option.bind_eq_some_iff.1 hj
  simp only [Instr.build, zeroValue, Sem.run_bind, run_tinfo w hj', Result.andThen_ok, hz', Sem.run_pure, run_under w hu, run_size w hi, hz]
  rfl
theorem PutR.whole : ∀ {pre l vs : List Value}, l.length = vs.length → PutR (pre ++ l) pre.length vs (pre ++ vs)
  | pre, [], [], _ => by simpa using PutR.nil
  | pre, x :: l, v :: vs, h => by
    refine PutR.cons (l1 := pre ++ v :: l) ?_ ?_
    · have := SetL.of (v := v) (l := pre ++ x :: l) (n := pre.length) (by simp)
      simpa using this
    · have := PutR.whole (pre := pre ++ [v]) (l := l) (vs := vs) (by simpa using h)
      simpa using this
theorem PutR.all {l vs : List Value} (h : l.length = vs.length) : PutR l 0 vs vs := by simpa using PutR.whole (pre := []) h
end
end Go.Proofs.Ytdglignjoojimaa

/- A region that draws its order and stores behind all else: what its loads read need be known only up to its first store. No conditions. -/
set_option linter.unusedVariables false
set_option linter.unusedSimpArgs false
namespace Go.Proofs.Ytdglignjoojimaa

section
variable {P : Program} {ops : Array Oper} {S : World → Prop} {E M k : Nat} {F : Act → World → Prop}

/-- What the operation i must know to yield. -/
def Dk (S : World → Prop) (M i : Nat) (w : World) : Prop := M.testBit i = true → S w
/-- What must hold where the operation i acts. -/
def Ck (S : World → Prop) (E k i : Nat) (w : World) : Prop := E.testBit i = true → i ≤ k → S w
def GKs (P : Program) (ops : Array Oper) (S : World → Prop) (E M k : Nat) (i : Nat) (K : Act → World → Prop) (a : Act) (w : World) : Prop :=
  Ck S E k i w ∧ Dk S M i w ∧ ∃ o, ops[i]? = some o ∧
    if Region.wanted o (yielded ops a.tmps) then
      if E.testBit i then o.wp P a w K Bot
      else ∃ v, (∀ w', Dk S M i w' → (execOp a.eval o).run P w' = .ok (.value v) w') ∧ K (a.put o.dst v) w
    else K (a.put o.dst undef) w
def GK (P : Program) (ops : Array Oper) (S : World → Prop) (E M k : Nat) (F : Act → World → Prop) : List Nat → Act → World → Prop
  | [], a, w => F a w
  | i :: rest, a, w => GKs P ops S E M k i (GK P ops S E M k F rest) a w

theorem GKs.mono {i : Nat} {K K' : Act → World → Prop} {a : Act} {w : World} (h : GKs P ops S E M k i K a w) (hk : ∀ a w, K a w → K' a w) : GKs P ops S E M k i K' a w := by
  obtain ⟨hc, hd, o, ho, h⟩ := h
  refine ⟨hc, hd, o, ho, ?_⟩
  split
  · rename_i hw
    rw [if_pos hw] at h
    split
    · rename_i he; rw [if_pos he] at h; exact Oper.wp_mono hk h
    · rename_i he
      rw [if_neg he] at h
      obtain ⟨v, h1, h2⟩ := h
      exact ⟨v, h1, hk _ _ h2⟩
  · rename_i hw; rw [if_neg hw] at h; exact hk _ _ h

theorem GKs.cases {i : Nat} {K : Act → World → Prop} {a : Act} {w : World} {o : Oper} (ho : ops[i]? = some o) (h : GKs P ops S E M k i K a w) :
    (∃ v, SY P ops (Dk S M i) o v a ∧ (E.testBit i = false ∨ Region.wanted o (yielded ops a.tmps) = false) ∧ K (a.put o.dst v) w) ∨ (Region.wanted o (yielded ops a.tmps) = true ∧ E.testBit i = true ∧ o.wp P a w K Bot) := by
  obtain ⟨_, _, o', ho', h⟩ := h
  rw [ho] at ho'; cases ho'
  by_cases hw : Region.wanted o (yielded ops a.tmps) = true
  · rw [if_pos hw] at h
    by_cases he : E.testBit i = true
    · rw [if_pos he] at h; exact .inr ⟨hw, he, h⟩
    · rw [if_neg he] at h
      obtain ⟨v, h1, h2⟩ := h
      exact .inl ⟨v, .inl ⟨hw, h1⟩, .inl (by simpa using he), h2⟩
  · rw [if_neg hw] at h
    exact .inl ⟨undef, .inr ⟨by simpa using hw, rfl⟩, .inr (by simpa using hw), h⟩
theorem GKs.yield {i : Nat} {K : Act → World → Prop} {a : Act} {w : World} {o : Oper} {v : Value} (ho : ops[i]? = some o) (hc : Ck S E k i w) (hd : Dk S M i w) (hy : SY P ops (Dk S M i) o v a)
    (he : E.testBit i = false ∨ Region.wanted o (yielded ops a.tmps) = false) (kk : K (a.put o.dst v) w) : GKs P ops S E M k i K a w := by
  refine ⟨hc, hd, o, ho, ?_⟩
  rcases hy with ⟨hw, hv⟩ | ⟨hw, rfl⟩
  · rw [if_pos hw]
    rcases he with he | he
    · rw [if_neg (by rw [he]; simp)]; exact ⟨v, hv, kk⟩
    · rw [he] at hw; cases hw
  · rw [if_neg (by rw [hw]; simp)]; exact kk
theorem GKs.act {i : Nat} {K : Act → World → Prop} {a : Act} {w : World} {o : Oper} (ho : ops[i]? = some o) (hc : Ck S E k i w) (hd : Dk S M i w) (hw : Region.wanted o (yielded ops a.tmps) = true) (he : E.testBit i = true)
    (kk : o.wp P a w K Bot) : GKs P ops S E M k i K a w := by
  refine ⟨hc, hd, o, ho, ?_⟩
  rw [if_pos hw, if_pos he]; exact kk

/-- As long as k is there, S holds. -/
theorem GK.S_ (hk : E.testBit k = true) : ∀ {l : List Nat} {a : Act} {w : World}, l.Pairwise (· < ·) → k ∈ l → GK P ops S E M k F l a w → S w
  | i :: l, a, w, hl, hm, h => by
    have hle : i ≤ k := by
      rcases List.mem_cons.1 hm with rfl | hm
      · exact Nat.le_refl _
      · exact Nat.le_of_lt (List.rel_of_pairwise_cons hl hm)
    by_cases hi : E.testBit i = true
    · exact h.1 hi hle
    · have hm' : k ∈ l := by
        rcases List.mem_cons.1 hm with rfl | hm
        · exact absurd hk hi
        · exact hm
      obtain ⟨_, _, o, ho, h⟩ := h
      have hl' := (List.pairwise_cons.1 hl).2
      rw [if_neg hi] at h
      split at h
      · obtain ⟨v, _, h⟩ := h
        exact GK.S_ hk hl' hm' h
      · exact GK.S_ hk hl' hm' h

theorem GKs.swap {i j : Nat} {oi oj : Oper} {K : Act → World → Prop} {a : Act} {w : World} (hsel : Region.noSelect ops = true) (hi : ops[i]? = some oi) (hj : ops[j]? = some oj) (hap : oi.apart ops oj = true)
    (hE : E.testBit i = false ∨ E.testBit j = false) (hij : E.testBit j = true → M.testBit i = true → ∀ a w, K a w → S w) (hji : E.testBit i = true → M.testBit j = true → i ≤ k)
    (h : GKs P ops S E M k i (GKs P ops S E M k j K) a w) : GKs P ops S E M k j (GKs P ops S E M k i K) a w := by
  obtain ⟨h1, h2, h3⟩ := Oper.apart_spec hap
  have hsi : ∀ cs b, oi.op ≠ .select cs b := fun cs b => Region.noSelect_spec hsel i oi cs b hi
  have hsj : ∀ cs b, oj.op ≠ .select cs b := fun cs b => Region.noSelect_spec hsel j oj cs b hj
  have h2' : ∀ d, oj.dst = some d → oi.dst ≠ some d := fun d hd hd' => h2 d hd' hd
  have toI : ∀ (D : World → Prop) (a : Act) (u v : Value), SY P ops D oi v (a.put oj.dst u) ↔ SY P ops D oi v a := fun D a u v =>
    ⟨fun k => k.same (execOp_put oi hsi a oj.dst u h3).symm (wanted_put oi a oj.dst u h3).symm, fun k => k.same (execOp_put oi hsi a oj.dst u h3) (wanted_put oi a oj.dst u h3)⟩
  have toJ : ∀ (D : World → Prop) (a : Act) (u v : Value), SY P ops D oj v (a.put oi.dst u) ↔ SY P ops D oj v a := fun D a u v =>
    ⟨fun k => k.same (execOp_put oj hsj a oi.dst u h1).symm (wanted_put oj a oi.dst u h1).symm, fun k => k.same (execOp_put oj hsj a oi.dst u h1) (wanted_put oj a oi.dst u h1)⟩
  have toD : ∀ (D : World → Prop) (o : Oper) (a : Act) (ds : List Deferred) (v : Value), SY P ops D o v { a with defers := ds } ↔ SY P ops D o v a := fun D o a ds v => ⟨fun k => k.same rfl rfl, fun k => k.same rfl rfl⟩
  have wI : ∀ (a : Act) (u : Value), Region.wanted oi (yielded ops (a.put oj.dst u).tmps) = Region.wanted oi (yielded ops a.tmps) := fun a u => wanted_put oi a oj.dst u h3
  have wJ : ∀ (a : Act) (u : Value), Region.wanted oj (yielded ops (a.put oi.dst u).tmps) = Region.wanted oj (yielded ops a.tmps) := fun a u => wanted_put oj a oi.dst u h1
  have hci := h.1
  have hdi := h.2.1
  rcases h.cases hi with ⟨v, hy, hei, h⟩ | ⟨hw, he, h⟩
  · have hcj := h.1
    have hdj := h.2.1
    rcases h.cases hj with ⟨u, hy', hej, h'⟩ | ⟨hw', he', h'⟩
    · -- both yield
      refine GKs.yield hj hcj hdj ((toJ _ a v u).1 hy') (by rw [wJ] at hej; exact hej) ?_
      refine GKs.yield hi hci hdi ((toI _ a u v).2 hy) (by rw [wI]; exact hei) ?_
      rw [← Act.put_comm a v u h2]; exact h'
    · -- the second acts
      have hEi : E.testBit i = false := hE.resolve_right (by rw [he']; simp)
      refine GKs.act hj hcj hdj (by rw [wJ] at hw'; exact hw') he' ?_
      refine wp_unput hsj h1 h' fun u ds w' hk => ?_
      refine GKs.yield hi (fun e _ => by rw [hEi] at e; cases e) (fun m => hij he' m _ _ hk) ((toI _ _ u v).2 ((toD _ oi a ds v).2 hy)) (by rw [wI]; exact hei) ?_
      rw [← Act.put_comm _ v u h2]; exact hk
  · -- the first acts: the second yields
    have hEj : E.testBit j = false := hE.resolve_left (by rw [he]; simp)
    obtain ⟨u0, w0, ds0, h0⟩ := wp_some h
    have key : ∀ u ds w', GKs P ops S E M k j K ({ a with defers := ds }.put oi.dst u) w' → ∃ v, SY P ops (Dk S M j) oj v a ∧ K (({ a with defers := ds }.put oi.dst u).put oj.dst v) w' := by
      intro u ds w' hk
      rcases hk.cases hj with ⟨v, hy, _, hk'⟩ | ⟨_, he', _⟩
      · exact ⟨v, (toD _ oj a ds v).1 ((toJ _ _ u v).1 hy), hk'⟩
      · rw [hEj] at he'; cases he'
    obtain ⟨v, hv, _⟩ := key u0 ds0 w0 h0
    have hdj : Dk S M j w := fun m => hci he (hji he m)
    refine GKs.yield hj (fun e _ => by rw [hEj] at e; cases e) hdj hv (.inl hEj) ?_
    refine GKs.act hi hci hdi (by rw [wI]; exact hw) he ?_
    refine wp_put hsi h3 h fun u ds w' hk => ?_
    obtain ⟨v', hv', hk'⟩ := key u ds w' hk
    have := SY.inj hdj hv hv'
    subst this
    rw [Act.put_comm _ v u h2']; exact hk'

theorem GK.front {j : Nat} {oj : Oper} (hsel : Region.noSelect ops = true) (hk : E.testBit k = true) (hj : ops[j]? = some oj) : ∀ (p q : List Nat) (a : Act) (w : World),
    (∀ i ∈ p, ∃ oi, ops[i]? = some oi ∧ oi.apart ops oj = true ∧ (E.testBit i = false ∨ E.testBit j = false) ∧ (E.testBit j = true → M.testBit i = true → j < k) ∧ (E.testBit i = true → M.testBit j = true → i ≤ k)) →
    (p ++ q).Pairwise (· < ·) → (E.testBit j = true → j < k → k ∈ q) → GK P ops S E M k F (p ++ j :: q) a w → GK P ops S E M k F (j :: (p ++ q)) a w
  | [], q, a, w, _, _, _, h => h
  | i :: p, q, a, w, hp, hs, hq, h => by
    obtain ⟨oi, hi, hap, hE, e1, e2⟩ := hp i (by simp)
    have hs' : (p ++ q).Pairwise (· < ·) := (List.pairwise_cons.1 hs).2
    have h' : GKs P ops S E M k i (GK P ops S E M k F (j :: (p ++ q))) a w := GKs.mono h fun a w kk => GK.front hsel hk hj p q a w (fun i hi => hp i (by simp [hi])) hs' hq kk
    exact GKs.swap hsel hi hj hap hE (fun he hm a w kk => GK.S_ hk hs' (List.mem_append.2 (.inr (hq he (e1 he hm)))) kk) e2 h'

def chkOneK (ops : Array Oper) (B : List Nat) (E M k : Nat) (j : Nat) (oj : Oper) : Bool :=
  oj.after.toList.all (fun e => !(Region.binds .any e) || Nat.blt e.on j) && Nat.beq (B.getD j 0 ||| ahead B oj.after.toList) (ahead B oj.after.toList) &&
  (List.range j).all fun i => (B.getD j 0).testBit i || (match ops[i]? with
    | some oi => !(E.testBit i && E.testBit j) && oi.apart ops oj && (!(E.testBit j && M.testBit i) || Nat.blt j k) && (!(E.testBit i && M.testBit j) || Nat.ble i k)
    | none => false)
def chkFromK (ops : Array Oper) (B : List Nat) (E M k : Nat) : Nat → List Oper → Bool
  | _, [] => true
  | j, o :: r => chkOneK ops B E M k j o && chkFromK ops B E M k (j + 1) r
def chkK (ops : Array Oper) (B : List Nat) (E M k : Nat) : Bool := Region.noSelect ops && Nat.blt k ops.size && E.testBit k && chkFromK ops B E M k 0 ops.toList

theorem chkFromK_at {ops : Array Oper} {B : List Nat} {E M q : Nat} (l : List Oper) : ∀ (k : Nat), chkFromK ops B E M q k l = true → ∀ (i : Nat) (o : Oper), l[i]? = some o → chkOneK ops B E M q (k + i) o = true := by
  induction l with
  | nil => intro k _ i o ho; simp at ho
  | cons x r ih =>
    intro k h i o ho
    rw [chkFromK, Bool.and_eq_true] at h
    cases i with
    | zero =>
      have : x = o := by simpa using ho
      subst this
      exact h.1
    | succ i =>
      have := ih (k + 1) h.2 i o (by simpa using ho)
      rw [show k + (i + 1) = k + 1 + i by omega]; exact this

theorem chkK_spec {ops : Array Oper} {B : List Nat} {E M k : Nat} (h : chkK ops B E M k = true) : Region.noSelect ops = true ∧ k < ops.size ∧ E.testBit k = true ∧ ∀ j oj, ops[j]? = some oj →
    (∀ e ∈ oj.after, Region.binds .any e = true → e.on < j) ∧ (∀ i, (B.getD j 0).testBit i = true → ∃ e ∈ oj.after, Region.binds .any e = true ∧ (e.on = i ∨ (B.getD e.on 0).testBit i = true)) ∧
    (∀ i, i < j → (B.getD j 0).testBit i = true ∨ ∃ oi, ops[i]? = some oi ∧ oi.apart ops oj = true ∧ (E.testBit i = false ∨ E.testBit j = false) ∧ (E.testBit j = true → M.testBit i = true → j < k) ∧ (E.testBit i = true → M.testBit j = true → i ≤ k)) := by
  simp only [chkK, Bool.and_eq_true] at h
  obtain ⟨⟨⟨g1, g2⟩, g3⟩, g4⟩ := h
  refine ⟨g1, by have := Nat.le_of_ble_eq_true g2; omega, g3, fun j oj hj => ?_⟩
  have := chkFromK_at ops.toList 0 g4 j oj (by simpa using hj)
  simp only [chkOneK, Nat.zero_add, Bool.and_eq_true, List.all_eq_true] at this
  obtain ⟨⟨h1, h2⟩, h3⟩ := this
  refine ⟨fun e he hb => ?_, fun i hi => ?_, fun i hi => ?_⟩
  · have := h1 e (by simpa using he)
    simp [Nat.blt, hb] at this
    omega
  · have e2 := Nat.eq_of_beq_eq_true h2
    have : (ahead B oj.after.toList).testBit i = true := by
      rw [← e2, Nat.testBit_or, hi]; rfl
    rcases ahead_bit this with h | ⟨e, he, hb, h⟩
    · simp at h
    · exact ⟨e, by simpa using he, hb, h⟩
  · have := h3 i (List.mem_range.2 hi)
    rcases Bool.or_eq_true _ _ ▸ this with h | h
    · exact .inl h
    · right
      split at h
      · rename_i oi hoi
        simp only [Bool.and_eq_true] at h
        obtain ⟨⟨⟨k1, k2⟩, k3⟩, k4⟩ := h
        refine ⟨oi, hoi, k2, ?_, fun a b => ?_, fun a b => ?_⟩
        · cases ha : E.testBit i <;> cases hb : E.testBit j <;> simp_all
        · rw [a, b] at k3
          have := Nat.le_of_ble_eq_true (by simpa [Nat.blt] using k3); omega
        · rw [a, b] at k4
          exact Nat.le_of_ble_eq_true (by simpa using k4)
      · cases h

theorem wpAny_of_GK {Q : Exit → Act → World → Prop} {B : List Nat} (hchk : chkK ops B E M k = true) : ∀ (n : Nat) (L : List Nat) (listed : Array Bool) (a : Act) (w : World), L.length = n →
    (∀ i, i ∈ L ↔ i < ops.size ∧ listed.getD i true = false) → L.Pairwise (· < ·) → listed.size = ops.size →
    (∀ x y, x < ops.size → listed.getD x true = true → (B.getD x 0).testBit y = true → listed.getD y true = true) → GK P ops S E M k (Q .normal) L a w → wpAny P .any ops Q n listed a w := by
  obtain ⟨hsel, hksz, hEk, hc⟩ := chkK_spec hchk
  intro n
  induction n with
  | zero =>
    intro L listed a w hn hL _ _ _ hG
    have : L = [] := List.eq_nil_of_length_eq_zero hn
    subst this
    refine ⟨List.eq_nil_iff_forall_not_mem.2 fun j hj => ?_, hG⟩
    obtain ⟨h0, o, ho, _⟩ := mem_ready.1 hj
    have := (hL j).2 ⟨(Array.getElem?_eq_some_iff.1 ho).1, h0⟩
    cases this
  | succ n ih =>
    intro L listed a w hn hL hP hsz hcl hG
    refine ⟨fun hr => ?_, fun j hj => ?_⟩
    · cases L with
      | nil => cases hn
      | cons i0 L =>
        obtain ⟨h1, h2⟩ := (hL i0).1 (by simp)
        obtain ⟨o, ho⟩ : ∃ o, ops[i0]? = some o := ⟨_, Array.getElem?_eq_getElem h1⟩
        have : i0 ∈ Region.ready .any ops listed := by
          refine mem_ready.2 ⟨h2, o, ho, fun e he hb0 => ?_⟩
          have hlt := (hc i0 o ho).1 e he hb0
          cases hb : listed.getD e.on true with
          | true =>
            have : e.on < listed.size := by omega
            simpa [this] using hb
          | false =>
            have hm := (hL e.on).2 ⟨by omega, hb⟩
            rcases List.mem_cons.1 hm with he' | hm
            · omega
            · have := List.rel_of_pairwise_cons hP hm
              omega
        rw [hr] at this; cases this
    · obtain ⟨h0, oj, hoj, hall⟩ := mem_ready.1 hj
      have hjlt : j < ops.size := (Array.getElem?_eq_some_iff.1 hoj).1
      have hjL : j ∈ L := (hL j).2 ⟨hjlt, h0⟩
      obtain ⟨p, q, rfl⟩ := List.append_of_mem hjL
      have hah : ∀ i, (B.getD j 0).testBit i = true → listed.getD i true = true := by
        intro i hi
        obtain ⟨e, he, hb, hi⟩ := (hc j oj hoj).2.1 i hi
        have hl := hall e he hb
        have hlt := (hc j oj hoj).1 e he hb
        have hl' : listed.getD e.on true = true := by
          have : e.on < listed.size := by omega
          simpa [this] using hl
        rcases hi with rfl | hi
        · exact hl'
        · exact hcl e.on i (by omega) hl' hi
      have hP' := List.pairwise_append.1 hP
      have hPpq : (p ++ q).Pairwise (· < ·) :=
        List.pairwise_append.2 ⟨hP'.1, (List.pairwise_cons.1 hP'.2.1).2, fun x hx y hy => hP'.2.2 x hx y (List.mem_cons_of_mem _ hy)⟩
      have hfront := GK.front (P := P) (S := S) (E := E) (M := M) (F := Q .normal) hsel hEk hoj p q a w (fun i hi => by
        have hij : i < j := hP'.2.2 i hi j (by simp)
        rcases (hc j oj hoj).2.2 i hij with hb | h
        · have h1 := hah i hb
          have h2 := ((hL i).1 (List.mem_append.2 (.inl hi))).2
          rw [h1] at h2; cases h2
        · exact h) hPpq (fun he hlt => by
          -- k is there still
          obtain ⟨ok, hok⟩ : ∃ o, ops[k]? = some o := ⟨_, Array.getElem?_eq_getElem hksz⟩
          have hkL : k ∈ p ++ j :: q := by
            refine (hL _).2 ⟨hksz, ?_⟩
            cases hb : listed.getD k true with
            | false => rfl
            | true =>
              rcases (hc k ok hok).2.2 j hlt with h | ⟨_, _, _, h, _⟩
              · have := hcl k j hksz hb h
                rw [this] at h0; cases h0
              · rw [he, hEk] at h; simp at h
          rcases List.mem_append.1 hkL with h | h
          · have := hP'.2.2 k h j (by simp); omega
          · rcases List.mem_cons.1 h with h | h
            · omega
            · exact h) hG
      have hjs : j < listed.size := by omega
      have ih' : ∀ a w, GK P ops S E M k (Q .normal) (p ++ q) a w → wpAny P .any ops Q n (listed.setIfInBounds j true) a w := by
        intro a w h
        have hnd : j ∉ p ++ q := by
          intro hm
          rcases List.mem_append.1 hm with hm | hm
          · have := hP'.2.2 j hm j (by simp); omega
          · have := List.rel_of_pairwise_cons hP'.2.1 hm; omega
        refine ih (p ++ q) (listed.setIfInBounds j true) a w (by simp at hn ⊢; omega) (fun i => ?_) hPpq (by simpa using hsz) (fun x y hx hlx hb => ?_) h
        · rw [getD_mark hjs]
          by_cases hij : j = i
          · subst hij
            simp only [if_true, Bool.true_eq_false, and_false, iff_false]
            exact hnd
          · rw [if_neg hij, ← hL i]
            simp only [List.mem_append, List.mem_cons]
            constructor
            · rintro (h | h)
              · exact .inl h
              · exact .inr (.inr h)
            · rintro (h | h | h)
              · exact .inl h
              · exact absurd h.symm hij
              · exact .inr h
        · rw [getD_mark hjs] at hlx ⊢
          split
          · rfl
          · rename_i hne
            split at hlx
            · rename_i hjx; subst hjx; exact hah y hb
            · exact hcl x y hx hlx hb
      have hst : GKs P ops S E M k j (wpAny P .any ops Q n (listed.setIfInBounds j true)) a w := GKs.mono hfront ih'
      unfold wpOp
      simp only [hoj]
      rcases hst.cases hoj with ⟨v, hy, _, hk⟩ | ⟨hw, _, hk⟩
      · rcases hy with ⟨hw, hv⟩ | ⟨hw, rfl⟩
        · rw [if_pos hw]
          left
          rw [Oper.wp, hv w hst.2.1, Oper.upon_value]; exact hk
        · rw [if_neg (by rw [hw]; simp)]; exact hk
      · rw [if_pos hw]
        left
        unfold Oper.wp at hk ⊢
        generalize (execOp a.eval oj).run P w = r at hk
        cases r with
        | ok nx w' =>
          cases nx <;> simp only [Oper.upon] at hk ⊢
          case value u => exact hk
          case skip => exact hk
          case defer d => exact hk
          case enter f args =>
            refine Calls.mono hk fun e w'' he => ?_
            cases e with
            | returned u => exact he
            | panicked c => exact he.elim
            | outgrown => exact absurd he not_letsOut
          case row row args => exact hk
        | halt x w' => cases x <;> simp only [Oper.upon] at hk ⊢; exact hk.elim

theorem wp_drawK {Q : Exit → Act → World → Prop} {B : List Nat} {id : Nat} {a : Act} {w : World} (hm : P.follows .mixedOrders = true) (hchk : chkK ops B E M k = true)
    (h : GK P ops S E M k (Q .normal) (List.range ops.size) a { w with drawn := w.drawn + 1 }) : (Code.region id ops true).wp P Q a w := by
  refine wp_region_any hm (wpAny_of_GK hchk ops.size (List.range ops.size) _ a _ (by simp) (fun i => ?_) ?_ (by simp) (fun x y hx hl _ => ?_) h)
  · simp only [List.mem_range]
    constructor
    · intro hi; exact ⟨hi, by simp [hi]⟩
    · exact fun h => h.1
  · exact List.pairwise_lt_range
  · simp [hx] at hl
end

/-- The judgement within such a region; k is its first store. -/
def VK (X : Cx) (P : Program) (N : Nat) (ops : Array Oper) (hS : Hp) (blS : Bl) (E M k : Nat) (F : Act → World → Prop) (i : Nat) (l : List Oper) (σ : List (Nat × Value)) (h : Hp) (bl : Bl) : Prop :=
  ∀ a w, Fr N σ a → Rel X h bl w → (i ≤ k → Knows hS blS w) → (∀ j, l[j]? = ops[i + j]?) → GK P ops (Knows hS blS) E M k F (List.range' i l.length) a w

section
variable {X : Cx} {P : Program} {N : Nat} {ops : Array Oper} {hS h : Hp} {blS bl : Bl} {E M k i : Nat} {F : Act → World → Prop} {Q : Exit → Act → World → Prop} {σ : List (Nat × Value)} {rest : List Oper}

theorem V_drawK {id : Nat} {l : List Oper} (hS : Hp) (blS : Bl) (E M k : Nat) (hm : P.follows .mixedOrders = true) (hc : chkK l.toArray (clos l) E M k = true) (h1 : Sub hS h) (h2 : SubB bl blS)
    (kk : VK X P N l.toArray hS blS E M k (Q .normal) 0 l σ h bl) : V X P N Q (.region id l.toArray true) σ h bl := by
  intro a w ha hr
  refine wp_drawK (S := Knows hS blS) hm hc ?_
  have hr' := hr.drew (w.drawn + 1)
  have := kk a _ ha hr' (fun _ => SubB.knows hr' h1 h2) (fun j => by simp)
  rw [List.range_eq_range']
  simpa using this

theorem VK_nil (q : VQ X N Q .normal σ h bl) : VK X P N ops hS blS E M k (Q .normal) i [] σ h bl := fun a w ha hr _ _ => q a w ha hr

/-- A load, ahead of the first store. -/
theorem VK_still {o : Oper} {d : Nat} {v : Value} (hw : wantd ops σ o = some true) (hE : Nat.testBit E i = false) (hik : Nat.ble i k = true) (hM : Nat.testBit M i = true) (hd : o.dst = some d) (hlt : Nat.blt d N = true) (hs : Still P N σ hS blS o v)
    (q : VK X P N ops hS blS E M k F (i + 1) rest ((d, v) :: σ) h bl) : VK X P N ops hS blS E M k F i (o :: rest) σ h bl := by
  intro a w ha hr hk ho
  have h0 : ops[i]? = some o := by simpa using (ho 0).symm
  have hkn := hk (Nat.le_of_ble_eq_true hik)
  show GKs _ _ _ _ _ _ _ (GK _ _ _ _ _ _ _ (List.range' (i + 1) rest.length)) _ _
  refine ⟨fun e _ => (by rw [hE] at e; cases e), fun _ => hkn, o, h0, ?_⟩
  rw [if_pos (wanted_of ha hw), if_neg (by rw [hE]; simp), hd]
  exact ⟨v, fun w' hw' => hs a w' ha (hw' hM), q _ _ (ha.put (Nat.le_of_ble_eq_true hlt) v) hr (fun hle => hkn) (tail_ops ho)⟩

/-- What knows nothing of memory. -/
theorem VK_pure {o : Oper} {d : Nat} {v : Value} (hw : wantd ops σ o = some true) (hE : Nat.testBit E i = false) (hM : Nat.testBit M i = false) (hd : o.dst = some d) (hlt : Nat.blt d N = true) (hs : Still P N σ (fun _ => none) [] o v)
    (q : VK X P N ops hS blS E M k F (i + 1) rest ((d, v) :: σ) h bl) : VK X P N ops hS blS E M k F i (o :: rest) σ h bl := by
  intro a w ha hr hk ho
  have h0 : ops[i]? = some o := by simpa using (ho 0).symm
  show GKs _ _ _ _ _ _ _ (GK _ _ _ _ _ _ _ (List.range' (i + 1) rest.length)) _ _
  refine ⟨fun e _ => (by rw [hE] at e; cases e), fun e => (by rw [hM] at e; cases e), o, h0, ?_⟩
  rw [if_pos (wanted_of ha hw), if_neg (by rw [hE]; simp), hd]
  exact ⟨v, fun w' _ => hs a w' ha ⟨fun b o h => (by cases h), fun p hp => (by simp at hp)⟩, q _ _ (ha.put (Nat.le_of_ble_eq_true hlt) v) hr (fun hle => hk (by omega)) (tail_ops ho)⟩

theorem VK_skip {o : Oper} {d : Nat} (hw : wantd ops σ o = some false) (hE : (Nat.ble i k || !(Nat.testBit E i || Nat.testBit M i)) = true) (hd : o.dst = some d) (hlt : Nat.blt d N = true)
    (q : VK X P N ops hS blS E M k F (i + 1) rest ((d, undef) :: σ) h bl) : VK X P N ops hS blS E M k F i (o :: rest) σ h bl := by
  intro a w ha hr hk ho
  have h0 : ops[i]? = some o := by simpa using (ho 0).symm
  show GKs _ _ _ _ _ _ _ (GK _ _ _ _ _ _ _ (List.range' (i + 1) rest.length)) _ _
  refine ⟨fun _ hle => hk hle, fun e => ?_, o, h0, ?_⟩
  · rw [e] at hE
    exact hk (Nat.le_of_ble_eq_true (by simpa using hE))
  · rw [if_neg (by rw [wanted_of ha hw]; simp), hd]
    exact q _ _ (ha.put (Nat.le_of_ble_eq_true hlt) _) hr (fun hle => hk (by omega)) (tail_ops ho)

/-- It acts, ahead of the first store. -/
theorem VK_eff {o : Oper} {Post : List (Nat × Value) → Hp → Bl → Prop} (hw : wantd ops σ o = some true) (hE : Nat.testBit E i = true) (hM : Nat.testBit M i = false) (he : Eff X P N o σ h bl Post)
    (q : ∀ σ' h' bl', Post σ' h' bl' → (Sub hS h' ∧ SubB bl' blS) ∧ VK X P N ops hS blS E M k F (i + 1) rest σ' h' bl') : VK X P N ops hS blS E M k F i (o :: rest) σ h bl := by
  intro a w ha hr hk ho
  have h0 : ops[i]? = some o := by simpa using (ho 0).symm
  show GKs _ _ _ _ _ _ _ (GK _ _ _ _ _ _ _ (List.range' (i + 1) rest.length)) _ _
  refine ⟨fun _ hle => hk hle, fun e => (by rw [hM] at e; cases e), o, h0, ?_⟩
  rw [if_pos (wanted_of ha hw), if_pos hE]
  exact wp_exits (fun a' w' ⟨σ', h', bl', hp, hf, hr'⟩ => (q σ' h' bl' hp).2 a' w' hf hr' (fun _ => SubB.knows hr' (q σ' h' bl' hp).1.1 (q σ' h' bl' hp).1.2) (tail_ops ho)) (he a w ha hr)
/-- The first store, or what acts behind it. -/
theorem VK_effT {o : Oper} {Post : List (Nat × Value) → Hp → Bl → Prop} (hw : wantd ops σ o = some true) (hE : Nat.testBit E i = true) (hM : Nat.testBit M i = false) (hik : Nat.ble k i = true) (he : Eff X P N o σ h bl Post)
    (q : ∀ σ' h' bl', Post σ' h' bl' → VK X P N ops hS blS E M k F (i + 1) rest σ' h' bl') : VK X P N ops hS blS E M k F i (o :: rest) σ h bl := by
  intro a w ha hr hk ho
  have h0 : ops[i]? = some o := by simpa using (ho 0).symm
  have hle := Nat.le_of_ble_eq_true hik
  show GKs _ _ _ _ _ _ _ (GK _ _ _ _ _ _ _ (List.range' (i + 1) rest.length)) _ _
  refine ⟨fun _ hle => hk hle, fun e => (by rw [hM] at e; cases e), o, h0, ?_⟩
  rw [if_pos (wanted_of ha hw), if_pos hE]
  exact wp_exits (fun a' w' ⟨σ', h', bl', hp, hf, hr'⟩ => q σ' h' bl' hp a' w' hf hr' (fun h => by omega) (tail_ops ho)) (he a w ha hr)

theorem VK_bool {l : List Oper} (t : Nat) {b : Bool} (ht : look σ t = some (.bool b)) (k1 : b = true → VK X P N ops hS blS E M k F i l ((t, .bool true) :: σ) h bl)
    (k2 : b = false → VK X P N ops hS blS E M k F i l ((t, .bool false) :: σ) h bl) : VK X P N ops hS blS E M k F i l σ h bl := by
  intro a w ha hr hk ho
  have key : ∀ c, b = c → Fr N ((t, .bool c) :: σ) a := by
    rintro c rfl
    refine ⟨ha.defers, ha.size, fun s u hs => ?_⟩
    rw [look_cons] at hs
    split at hs
    · rename_i e; subst e; cases hs; exact ha.at_ _ _ ht
    · exact ha.at_ _ _ hs
  cases hb : b with
  | true => exact k1 hb a w (key _ hb) hr hk ho
  | false => exact k2 hb a w (key _ hb) hr hk ho
end
end Go.Proofs.Ytdglignjoojimaa

/- Groups that are from now on known for good, under a name; halves; lists side by side. No conditions. -/
set_option linter.unusedVariables false
set_option linter.unusedSimpArgs false
namespace Go.Proofs.Ytdglignjoojimaa

/-- Known for good in h. -/
def KnowG (h : Hp) (G : Gr) : Prop := ∀ p ∈ G, h p.1 = some p.2
def KnowB (h : Hp) : Bl → Prop
  | [] => True
  | G :: r => KnowG h G ∧ KnowB h r
section
variable {X : Cx} {P : Program} {N : Nat} {ops : Array Oper} {Q : Exit → Act → World → Prop} {σ : List (Nat × Value)} {h h' : Hp} {bl bl' : Bl} {rest : List Oper}
theorem addH_mem : ∀ {G : Gr} {p : Nat × Obj}, (G.map Prod.fst).Nodup → p ∈ G → addH h G p.1 = some p.2
  | (b, o) :: r, p, hn, hp => by
    simp only [List.map_cons, List.nodup_cons] at hn
    simp only [addH]
    rcases List.mem_cons.1 hp with rfl | hp
    · simp
    · rw [if_neg (fun e => hn.1 (List.mem_map.2 ⟨p, hp, e⟩))]
      exact addH_mem hn.2 hp
theorem Rel.keepF {w : World} : ∀ {blA blR : Bl} {h : Hp}, Rel X h (blA ++ blR) w → ∃ h', Sub h h' ∧ KnowB h' blA ∧ Rel X h' blR w
  | [], blR, h, r => ⟨h, Sub.refl _, trivial, r⟩
  | G :: blA, blR, h, r => by
    have hn := r.nodup
    rw [List.cons_append, List.flatten_cons, List.map_append] at hn
    have hs : Sub h (addH h G) := fun b o hb => by
      rw [addH_at]
      · exact hb
      · intro p hp e
        have := (r.trk p (List.mem_append.2 (.inl hp))).2.1
        rw [e, hb] at this; cases this
    have hg : KnowG (addH h G) G := fun p hp => addH_mem (List.nodup_append.1 hn).1 hp
    obtain ⟨h', a, b, c⟩ := Rel.keepF (blA := blA) (blR := blR) r.keep
    exact ⟨h', hs.trans a, ⟨fun p hp => a _ _ (hg p hp), b⟩, c⟩
theorem V_keeps {c : Code} {blA blR : Bl} (hs : Split bl blA blR) (k : ∀ h', Sub h h' → KnowB h' blA → V X P N Q c σ h' blR) : V X P N Q c σ h bl :=
  fun a w ha hr => let ⟨h', s, g, r⟩ := (hr.perm hs.perm).keepF; k h' s g a w ha r
theorem VL_keeps {l : List Oper} {blA blR : Bl} (hs : Split bl blA blR) (k : ∀ h', Sub h h' → KnowB h' blA → VL X P N ops Q l σ h' blR) : VL X P N ops Q l σ h bl :=
  fun a w ha hr => let ⟨h', s, g, r⟩ := (hr.perm hs.perm).keepF; k h' s g a w ha r
theorem VQ_keeps {e : Exit} {blA blR : Bl} (hs : Split bl blA blR) (k : ∀ h', Sub h h' → KnowB h' blA → VQ X N Q e σ h' blR) : VQ X N Q e σ h bl :=
  fun a w ha hr => let ⟨h', s, g, r⟩ := (hr.perm hs.perm).keepF; k h' s g a w ha r
theorem VD_keeps {hS : Hp} {blS : Bl} {E k : Nat} {F : Act → World → Prop} {l : List Oper} {blA blR : Bl} (hs : Split bl blA blR) (kk : ∀ h', Sub h h' → KnowB h' blA → VD X P N ops hS blS E F k l σ h' blR) : VD X P N ops hS blS E F k l σ h bl :=
  fun a w ha hr => let ⟨h', s, g, r⟩ := (hr.perm hs.perm).keepF; kk h' s g a w ha r
theorem VK_keeps {hS : Hp} {blS : Bl} {E M k i : Nat} {F : Act → World → Prop} {l : List Oper} {blA blR : Bl} (hs : Split bl blA blR) (kk : ∀ h', Sub h h' → KnowB h' blA → VK X P N ops hS blS E M k F i l σ h' blR) : VK X P N ops hS blS E M k F i l σ h bl :=
  fun a w ha hr => let ⟨h', s, g, r⟩ := (hr.perm hs.perm).keepF; kk h' s g a w ha r

theorem Buf.known {e : TypeId} {sz n : Nat} {v : Value} {cs : List Value} {G : Gr} (B : Buf e sz v n cs G) (hk : KnowG h G) : SlR h [] v n cs sz := by
  rcases B with ⟨rfl, rfl, rfl, rfl⟩ | ⟨b, cap, sp, rfl, rfl, l1, l2, hl, hl'⟩
  · exact ⟨none, 0, rfl, Nat.le_refl _, by omega, by simp, fun h => absurd h (by omega)⟩
  · refine ⟨_, cap, rfl, l1, l2, hl, fun _ => ⟨b, 0, rfl, Cells.of_at (cs := (cs ++ sp).toArray) (T := e) (fz := (0, 0)) (.inl (hk (b, .cells (cs ++ sp).toArray e (0, 0)) (by simp))) fun j hj => ?_⟩⟩
    simp [List.getElem?_append_left hj]
theorem SlR.sub {v : Value} {n sz : Nat} {cs : List Value} (s : SlR h [] v n cs sz) (h1 : Sub h h') : SlR h' bl' v n cs sz := s.mono h1 (fun p hp => by simp at hp)
theorem SlR.nil (sz : Nat) : SlR h bl (.slice none 0 0) 0 [] sz := ⟨none, 0, rfl, Nat.le_refl _, by omega, by simp, fun h => absurd h (by omega)⟩
theorem Cells.known {b : Nat} {l : List Value} {T : TypeId} {fz : Nat × Nat} (hb : h b = some (.cells l.toArray T fz)) : Cells h bl b 0 l :=
  Cells.of_at (.inl hb) fun j hj => by simp [hj]
theorem Cell.known {b off : Nat} {v : Value} {l : List Value} {T : TypeId} {fz : Nat × Nat} (hb : h b = some (.cells l.toArray T fz)) (hv : l[off]? = some v) : Cell h bl b off v :=
  ⟨_, T, fz, .inl hb, by simpa using hv⟩
theorem Cells.knownAt {b off n : Nat} {l r : List Value} {T : TypeId} {fz : Nat × Nat} (hb : h b = some (.cells l.toArray T fz)) (k : TakeR l off n r) : Cells h bl b off r :=
  Cells.of_at (.inl hb) fun j hj => by simpa using k.spec.2 j hj

variable {dst : Option Tmp} {ty : TypeId} {pos : String} {aft : Array Edge} {g : Option (Nat × Bool)}
/-- The half of a number that isn't negative. -/
theorem S_half {x y : Operand} {t u : TypeId} {k' : IntKind} {m : Int} (hx : ev σ x = some (.int .u64 m)) (hy : ev σ y = some (.int k' 1)) (h0 : 0 ≤ m) :
    Still P N σ h bl ⟨dst, .binOp .shr t x y u, ty, pos, aft, g⟩ (.int .u64 (m / 2)) := by
  have := S_shr (P := P) (N := N) (h := h) (bl := bl) (dst := dst) (ty := ty) (pos := pos) (aft := aft) (g := g) (t := t) (u := u) hx hy (by omega)
  have e : m.fdiv (2 ^ (min (1 : Int).toNat IntKind.u64.bits)) = m / 2 := by
    rw [show (2 : Int) ^ (min (1 : Int).toNat IntKind.u64.bits) = 2 by decide, Int.fdiv_eq_ediv_of_nonneg _ (by omega)]
  rwa [e] at this
/-- From int to uint and back, where nothing is lost. -/
theorem S_convu {t u : TypeId} {x : Operand} {k' : IntKind} {n : Int} {d : TypeDesc} (hu : P.underlying t = some d) (hu' : P.underlying u = some (.int .u64)) (hx : ev σ x = some (.int k' n)) (h0 : 0 ≤ n) (h1 : n ≤ 18446744073709551615) :
    Still P N σ h bl ⟨dst, .convert t u x, ty, pos, aft, g⟩ (.int .u64 n) := by
  have := S_conv (N := N) (σ := σ) (h := h) (bl := bl) (dst := dst) (ty := ty) (pos := pos) (aft := aft) (g := g) hu hu' hx
  rwa [wrapu_id h0 h1] at this
theorem S_convi {t u : TypeId} {x : Operand} {k' : IntKind} {n : Int} {d : TypeDesc} (hu : P.underlying t = some d) (hu' : P.underlying u = some (.int .i64)) (hx : ev σ x = some (.int k' n)) (h0 : -9223372036854775808 ≤ n) (h1 : n ≤ 9223372036854775807) :
    Still P N σ h bl ⟨dst, .convert t u x, ty, pos, aft, g⟩ (.int .i64 n) := by
  have := S_conv (N := N) (σ := σ) (h := h) (bl := bl) (dst := dst) (ty := ty) (pos := pos) (aft := aft) (g := g) hu hu' hx
  rwa [wrap_id h0 h1] at this
end

/-! ### Lists side by side -/
inductive All2 {α β : Type} (R : α → β → Prop) : List α → List β → Prop
  | nil : All2 R [] []
  | cons {a : α} {b : β} {as : List α} {bs : List β} : R a b → All2 R as bs → All2 R (a :: as) (b :: bs)
section
variable {α β : Type} {R R' : α → β → Prop}
theorem All2.mono (h : ∀ a b, R a b → R' a b) : ∀ {as : List α} {bs : List β}, All2 R as bs → All2 R' as bs
  | _, _, .nil => .nil
  | _, _, .cons h1 h2 => .cons (h _ _ h1) (h2.mono h)
theorem All2.len : ∀ {as : List α} {bs : List β}, All2 R as bs → as.length = bs.length
  | _, _, .nil => rfl
  | _, _, .cons _ h2 => by simp [h2.len]
theorem All2.get {as : List α} {bs : List β} {i : Nat} {b : β} (h : All2 R as bs) (e : bs[i]? = some b) : ∃ a, as[i]? = some a ∧ R a b := by
  induction h generalizing i with
  | nil => simp at e
  | cons h1 h2 ih =>
    cases i with
    | zero => simp only [List.getElem?_cons_zero, Option.some.injEq] at e; subst e; exact ⟨_, rfl, h1⟩
    | succ i => simpa using ih (by simpa using e)
theorem All2.getl {as : List α} {bs : List β} {i : Nat} {a : α} (h : All2 R as bs) (e : as[i]? = some a) : ∃ b, bs[i]? = some b ∧ R a b := by
  induction h generalizing i with
  | nil => simp at e
  | cons h1 h2 ih =>
    cases i with
    | zero => simp only [List.getElem?_cons_zero, Option.some.injEq] at e; subst e; exact ⟨_, rfl, h1⟩
    | succ i => simpa using ih (by simpa using e)
theorem All2.app : ∀ {as as' : List α} {bs bs' : List β}, All2 R as bs → All2 R as' bs' → All2 R (as ++ as') (bs ++ bs')
  | _, _, _, _, .nil, h => h
  | _, _, _, _, .cons h1 h2, h => .cons h1 (h2.app h)
theorem All2.take : ∀ {as : List α} {bs : List β} (i : Nat), All2 R as bs → All2 R (as.take i) (bs.take i)
  | _, _, 0, _ => by simpa using All2.nil
  | _, _, _ + 1, .nil => by simpa using All2.nil
  | _, _, i + 1, .cons h1 h2 => .cons h1 (h2.take i)
theorem All2.drop : ∀ {as : List α} {bs : List β} (i : Nat), All2 R as bs → All2 R (as.drop i) (bs.drop i)
  | _, _, 0, h => h
  | _, _, _ + 1, .nil => by simpa using All2.nil
  | _, _, i + 1, .cons _ h2 => h2.drop i
theorem All2.set : ∀ {as : List α} {bs : List β} (i : Nat) {a : α} {b : β}, All2 R as bs → R a b → All2 R (as.set i a) (bs.set i b)
  | _, _, _, _, _, .nil, _ => .nil
  | _, _, 0, _, _, .cons _ h2, h => .cons h h2
  | _, _, i + 1, _, _, .cons h1 h2, h => .cons h1 (h2.set i h)
end
end Go.Proofs.Ytdglignjoojimaa

/- Quotients; pieces of slices of things; contracts whose groups are grouped otherwise. No conditions. -/
set_option linter.unusedVariables false
set_option linter.unusedSimpArgs false
namespace Go.Proofs.Ytdglignjoojimaa
section
variable {X : Cx} {P : Program} {N : Nat} {ops : Array Oper} {Q : Exit → Act → World → Prop} {σ : List (Nat × Value)} {h h' : Hp} {bl bl' : Bl} {rest : List Oper}
variable {dst : Option Tmp} {d : Nat} {ty : TypeId} {pos : String} {aft : Array Edge} {g : Option (Nat × Bool)}
theorem S_quon (m n : Nat) {x y : Operand} {t u : TypeId} (hx : ev σ x = some (.int .i64 (m : Int))) (hy : ev σ y = some (.int .i64 (n : Int))) (hn : Nat.beq n 0 = false) (hm : m ≤ 9223372036854775807) :
    Still P N σ h bl ⟨dst, .binOp .quo t x y u, ty, pos, aft, g⟩ (.int .i64 ((m / n : Nat) : Int)) := by
  have hn' : n ≠ 0 := fun e => by rw [e] at hn; cases hn
  have := S_quo (P := P) (N := N) (h := h) (bl := bl) (dst := dst) (ty := ty) (pos := pos) (aft := aft) (g := g) (t := t) (u := u) hx hy (by omega)
  have e : (m : Int).tdiv (n : Int) = ((m / n : Nat) : Int) := by rw [Int.tdiv_eq_ediv_of_nonneg (by omega)]; exact (Int.natCast_ediv m n).symm
  have hle : m / n ≤ m := Nat.div_le_self m n
  rw [e] at this
  generalize m / n = q at this hle ⊢
  rwa [wrap_id (by omega) (by omega)] at this
theorem S_muln (m n : Nat) {x y : Operand} {t u : TypeId} (hx : ev σ x = some (.int .i64 (m : Int))) (hy : ev σ y = some (.int .i64 (n : Int))) (hm : m * n ≤ 9223372036854775807) :
    Still P N σ h bl ⟨dst, .binOp .mul t x y u, ty, pos, aft, g⟩ (.int .i64 ((m * n : Nat) : Int)) := by
  have := S_mul (P := P) (N := N) (h := h) (bl := bl) (dst := dst) (ty := ty) (pos := pos) (aft := aft) (g := g) (t := t) (u := u) hx hy
  have e : (m : Int) * (n : Int) = ((m * n : Nat) : Int) := by push_cast; rfl
  rw [e] at this
  generalize m * n = q at this hm ⊢
  rwa [wrap_id (by omega) (by omega)] at this

theorem Con.conv {f : FuncId} {args : List Value} {blA blB : Bl} {post post' : Value → Hp → Bl → Prop} (c : Con P f args h blA post) (e : blA.flatten = blB.flatten)
    (hp : ∀ v h' nb, post v h' nb → ∃ nb', nb'.flatten = nb.flatten ∧ post' v h' nb') : Con P f args h blB post' := by
  intro w hw
  have tr : ∀ {X : Cx} {h : Hp} {a b : Bl} {w : World}, a.flatten = b.flatten → Rel X h a w → Rel X h b w := fun e r =>
    ⟨r.size, r.frame, r.tape, r.os, r.output, r.old, r.new, r.know, e ▸ r.trk, e ▸ r.nodup⟩
  have hw' : Rel ⟨w, fun b => b ∈ blA.flatten.map Prod.fst, h⟩ h blA w := by rw [e]; exact tr e.symm hw
  refine (c w hw').mono fun x w' ⟨v, h', nb, he, hr, hq⟩ => ?_
  obtain ⟨nb', e', q⟩ := hp v h' nb hq
  rw [e] at hr
  exact ⟨v, h', nb', he, tr e'.symm hr, q⟩

theorem Buf.form {e : TypeId} {sz n : Nat} {v : Value} {cs : List Value} {G : Gr} (B : Buf e sz v n cs G) : ∃ A cap, v = .slice A n cap ∧ n ≤ cap ∧ cap ≤ 9223372036854775807 :=
  (B.reads (h := fun _ => none) (bl := [G]) (fun q hq => by simpa using hq)).form
section
variable {α : Type} {enc : α → List Value} {sz : Nat}
theorem SlR.dropE (E : Enc enc sz) {A : Option Addr} {cap : Nat} {l : List α} (s : SlR h bl (.slice A l.length cap) l.length (l.flatMap enc) sz) {i : Nat} (hi : i ≤ l.length) :
    SlR h bl (cut3 A cap sz i l.length cap) (l.drop i).length ((l.drop i).flatMap enc) sz := by
  have := s.cut hi (Nat.le_refl _)
  rw [E.flat_drop, List.take_of_length_le (by rw [E.flat_len, List.length_drop]; omega)] at this
  rwa [List.length_drop]
theorem SlR.takeE (E : Enc enc sz) {A : Option Addr} {cap : Nat} {l : List α} (s : SlR h bl (.slice A l.length cap) l.length (l.flatMap enc) sz) {m : Nat} (hm : m ≤ l.length) :
    SlR h bl (cut3 A cap sz 0 m cap) (l.take m).length ((l.take m).flatMap enc) sz := by
  have := s.cut (Nat.zero_le m) hm
  rw [Nat.zero_mul, List.drop_zero, E.flat_take] at this
  rw [List.length_take, Nat.min_eq_left hm]
  simpa using this
end
end
end Go.Proofs.Ytdglignjoojimaa

/- What is owned, as lists of things: put in, taken out, put behind, written. No conditions. -/
set_option linter.unusedVariables false
set_option linter.unusedSimpArgs false
namespace Go.Proofs.Ytdglignjoojimaa
section
variable {α : Type} {enc : α → List Value} {sz : Nat} {e : TypeId} {v : Value} {G : Gr}
theorem Buf.blk {n : Nat} {cs : List Value} (B : Buf e sz v n cs G) (h0 : 0 < n) : ∃ b cap sp, v = .slice (some ⟨b, 0, none⟩) n cap ∧ G = [(b, .cells (List.toArray (cs ++ sp)) e (0, 0))] ∧ n ≤ cap ∧ cap ≤ 9223372036854775807 ∧
    cs.length = n * sz ∧ (cs ++ sp).length = cap * sz := by
  rcases B with ⟨_, rfl, _⟩ | h
  · omega
  · exact h
/-- Other things in the same block. -/
theorem Buf.mk {n b cap : Nat} {cs cs' sp : List Value} (l1 : n ≤ cap) (l2 : cap ≤ 9223372036854775807) (h1 : cs.length = n * sz) (h2 : (cs ++ sp).length = cap * sz) (h3 : cs'.length = n * sz) :
    Buf e sz (.slice (some ⟨b, 0, none⟩) n cap) n cs' [(b, .cells (List.toArray (cs' ++ sp)) e (0, 0))] :=
  .inr ⟨b, cap, sp, rfl, rfl, l1, l2, h3, by rw [List.length_append] at h2 ⊢; omega⟩
theorem Buf.ins (E : Enc enc sz) {l : List α} {a : α} {i : Nat} (hi : i ≤ l.length) (B : Buf e sz v (l.length + 1) ((l.flatMap enc).take (i * sz) ++ enc a ++ (l.flatMap enc).drop (i * sz)) G) :
    Buf e sz v (l.take i ++ a :: l.drop i).length ((l.take i ++ a :: l.drop i).flatMap enc) G := by
  rw [E.flat_take, E.flat_drop] at B
  have e1 : (l.take i ++ a :: l.drop i).length = l.length + 1 := by simp; omega
  have e2 : (l.take i ++ a :: l.drop i).flatMap enc = (l.take i).flatMap enc ++ enc a ++ (l.drop i).flatMap enc := by simp
  rw [e1, e2]; exact B
theorem Buf.del (E : Enc enc sz) {l : List α} {i j : Nat} (hi : i ≤ j) (hj : j ≤ l.length) (B : Buf e sz v (i + (l.length - j)) ((l.flatMap enc).take (i * sz) ++ (l.flatMap enc).drop (j * sz)) G) :
    Buf e sz v (l.take i ++ l.drop j).length ((l.take i ++ l.drop j).flatMap enc) G := by
  rw [E.flat_take, E.flat_drop] at B
  have e1 : (l.take i ++ l.drop j).length = i + (l.length - j) := by simp; omega
  rw [e1, List.flatMap_append]; exact B
theorem Buf.cat {l l' : List α} (B : Buf e sz v (l.length + l'.length) (l.flatMap enc ++ l'.flatMap enc) G) : Buf e sz v (l ++ l').length ((l ++ l').flatMap enc) G := by
  rw [List.length_append, List.flatMap_append]; exact B
theorem Buf.snoc {l : List α} {a : α} (B : Buf e sz v (l.length + 1) (l.flatMap enc ++ enc a) G) : Buf e sz v (l ++ [a]).length ((l ++ [a]).flatMap enc) G := by
  rw [List.length_append, List.flatMap_append]; simpa using B
theorem putAt_enc (E : Enc enc sz) {l : List α} {i : Nat} (hi : i < l.length) (a : α) (sp : List Value) : putAt (l.flatMap enc ++ sp) (i * sz) (enc a) = (l.set i a).flatMap enc ++ sp := by
  have h1 : l = l.take i ++ l[i] :: l.drop (i + 1) := by rw [← List.drop_eq_getElem_cons hi, List.take_append_drop]
  have h2 : l.flatMap enc ++ sp = (l.take i).flatMap enc ++ (enc l[i] ++ ((l.drop (i + 1)).flatMap enc ++ sp)) := by
    conv => lhs; rw [h1, List.flatMap_append, List.flatMap_cons]
    simp only [List.append_assoc]
  rw [h2, putAt_mid (by rw [E.flat_len, List.length_take]; rw [Nat.min_eq_left (by omega)]) (by rw [E.len, E.len]), List.set_eq_take_append_cons_drop, if_pos hi]
  simp
theorem PutR.encd (E : Enc enc sz) {l : List α} {i : Nat} (hi : i < l.length) (a : α) (sp : List Value) : PutR (l.flatMap enc ++ sp) (0 + i * sz) (enc a) ((l.set i a).flatMap enc ++ sp) := by
  rw [Nat.zero_add, ← putAt_enc E hi]
  refine PutR.at_ ?_
  rw [E.len, List.length_append, E.flat_len]
  have : (i + 1) * sz ≤ l.length * sz := Nat.mul_le_mul_right _ hi
  rw [Nat.add_mul] at this
  omega
theorem Buf.set {n b cap : Nat} {l : List α} {sp : List Value} (E : Enc enc sz) (i : Nat) (a : α) (hn : l.length = n) (l1 : n ≤ cap) (l2 : cap ≤ 9223372036854775807) (h2 : (l.flatMap enc ++ sp).length = cap * sz) :
    Buf e sz (.slice (some ⟨b, 0, none⟩) n cap) (l.set i a).length ((l.set i a).flatMap enc) [(b, .cells (List.toArray ((l.set i a).flatMap enc ++ sp)) e (0, 0))] := by
  have e1 : (l.set i a).length = n := by rw [List.length_set]; exact hn
  rw [e1]
  exact Buf.mk l1 l2 (by rw [E.flat_len, hn]) h2 (by rw [E.flat_len, e1])
end
section
variable {X : Cx} {P : Program} {N : Nat} {ops : Array Oper} {σ : List (Nat × Value)} {h : Hp} {bl : Bl} {d : Nat} {ty : TypeId} {pos : String} {aft : Array Edge} {g : Option (Nat × Bool)}
/-- A slice of two things of one cell each. -/
theorem X_bs2 {t e : TypeId} {bs : Nat} {z : Value} {x y : Operand} {v u : Value} (hlt : Nat.blt d N = true) (hu : P.underlying t = some (.slice e)) (ht : TyI P e 1 bs z) (hx : ev σ x = some v) (hy : ev σ y = some u)
    (hv : v.cells = #[v]) (hu' : u.cells = #[u]) (hz : z.cells = #[z]) :
    Eff X P N ⟨some d, .buildSlice t 2 (List.toArray [(0, x), (1, y)]), ty, pos, aft, g⟩ σ h bl (PNew X σ h bl d (fun b => .slice (some ⟨b, 0, none⟩) 2 2) (.cells (List.toArray [v, u]) e (0, 0))) := by
  obtain ⟨i, hi, hs, rfl, hz'⟩ := ht.ex
  refine E_bslice (vs := [(0, v), (1, u)]) hlt (by simp [parts, hx, hy]) fun w => ?_
  simp only [Instr.buildSlice, Sem.run_bind, run_under w hu, Result.andThen_ok, run_size w hi, hs]
  rw [if_neg (by omega), if_neg (by omega)]
  simp only [Sem.run_bind, zeroValue, run_tinfo w hi, hz', Sem.run_pure, Result.andThen_ok]
  simp [Instr.fill, hv, hu', run_new, Sem.run_bind, show Array.range 2 = #[0, 1] from rfl, hz, run_tinfo w hi]
end
theorem Cell.mem {h : Hp} {bl' : Bl} {b off : Nat} {v : Value} (c : Cell h [] b off v) : Cell h bl' b off v := c.mono (Sub.refl _) (fun p hp => by simp at hp)
theorem split_all {bl : Bl} : Split bl bl [] := by
  induction bl with
  | nil => exact .nil
  | cons G r ih => exact .cons .here ih
end Go.Proofs.Ytdglignjoojimaa
