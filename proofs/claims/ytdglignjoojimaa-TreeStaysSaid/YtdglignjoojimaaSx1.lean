/- A small program logic over the walk's rules: symbolic frames, tracked blocks, persistent knowledge of the heap. No conditions. -/
import Derived.Tactics
import Derived.Tactics2
import Derived.KernelRfl
import Derived.RowKit3
namespace Go.Proofs.Ytdglignjoojimaa

/-! ### 1. Frames -/

def look : List (Nat × Value) → Nat → Option Value
  | [], _ => none
  | (d, v) :: r, t => bif Nat.beq d t then some v else look r t

structure Fr (N : Nat) (σ : List (Nat × Value)) (a : Act) : Prop where
  defers : a.defers = []
  size : a.tmps.size = N
  at_ : ∀ t v, look σ t = some v → a.tmps[t]? = some v

def ev (σ : List (Nat × Value)) : Operand → Option Value
  | .tmp t => look σ t
  | .const v => some v
  | .global g => some (.pointer (some ⟨g, 0, none⟩))
  | .func f => some (.func (.func f) #[] #[])

theorem Fr.eval {N : Nat} {σ : List (Nat × Value)} {a : Act} (h : Fr N σ a) {x : Operand} {v : Value} (hx : ev σ x = some v) : a.eval x = v := by
  cases x with
  | tmp t =>
    have := h.at_ t v hx
    simp [Act.eval, Array.getD_eq_getD_getElem?, this]
  | const v' => simpa [ev, Act.eval] using hx
  | global g => simpa [ev, Act.eval] using hx
  | func f => simpa [ev, Act.eval] using hx

theorem look_cons (d : Nat) (v : Value) (r : List (Nat × Value)) (t : Nat) : look ((d, v) :: r) t = if d = t then some v else look r t := by
  simp only [look]
  by_cases h : d = t
  · subst h; simp
  · have : Nat.beq d t = false := by
      cases hb : Nat.beq d t with
      | false => rfl
      | true => exact absurd (Nat.eq_of_beq_eq_true hb) h
    simp [this, h]

theorem Fr.put {N : Nat} {σ : List (Nat × Value)} {a : Act} (h : Fr N σ a) {d : Nat} (hd : d < N) (v : Value) : Fr N ((d, v) :: σ) (a.put (some d) v) := by
  refine ⟨h.defers, by simp [Act.put, h.size], fun t u ht => ?_⟩
  rw [look_cons] at ht
  simp only [Act.put, Array.getElem?_setIfInBounds]
  by_cases e : d = t
  · subst e
    have : d < a.tmps.size := by rw [h.size]; exact hd
    simp at ht
    simp [this, ht]
  · simp only [e, if_false] at ht
    simp [e, h.at_ t u ht]

theorem Fr.put_none {N : Nat} {σ : List (Nat × Value)} {a : Act} (h : Fr N σ a) (v : Value) : Fr N σ (a.put none v) := h

/-- Every slot of the shorter frame is known in the longer one. -/
def SubF (σ : List (Nat × Value)) : List (Nat × Value) → Prop
  | [] => True
  | (t, v) :: r => look σ t = some v ∧ SubF σ r

theorem SubF.look {σ : List (Nat × Value)} : ∀ {σ' : List (Nat × Value)}, SubF σ σ' → ∀ t v, Ytdglignjoojimaa.look σ' t = some v → Ytdglignjoojimaa.look σ t = some v
  | [], _, t, v, h => by simp [Ytdglignjoojimaa.look] at h
  | (d, u) :: r, hs, t, v, h => by
    rw [look_cons] at h
    by_cases e : d = t
    · subst e; simp at h; subst h; exact hs.1
    · simp only [e, if_false] at h
      exact SubF.look hs.2 t v h

theorem Fr.sub {N : Nat} {σ σ' : List (Nat × Value)} {a : Act} (h : Fr N σ a) (hs : SubF σ σ') : Fr N σ' a :=
  ⟨h.defers, h.size, fun t v ht => h.at_ t v (hs.look t v ht)⟩

/-! ### 2. The heap -/

abbrev Hp := Nat → Option Obj
abbrev Gr := List (Nat × Obj)
abbrev Bl := List Gr

def Knows (h : Hp) (bl : Bl) (w : World) : Prop := (∀ b o, h b = some o → w.heap[b]? = some o) ∧ ∀ p ∈ bl.flatten, w.heap[p.1]? = some p.2

/-- The world in which a call began, what it may change, and what it knew. -/
structure Cx where
  w0 : World
  D : Nat → Prop
  h0 : Hp

structure Rel (X : Cx) (h : Hp) (bl : Bl) (w : World) : Prop where
  size : X.w0.heap.size ≤ w.heap.size
  frame : ∀ b, b < X.w0.heap.size → ¬ X.D b → w.heap[b]? = X.w0.heap[b]?
  tape : w.tape = X.w0.tape
  os : w.os = X.w0.os
  output : w.output = X.w0.output
  old : ∀ b o, X.h0 b = some o → h b = some o
  new : ∀ b o, h b = some o → X.h0 b = some o ∨ X.D b ∨ X.w0.heap.size ≤ b
  know : ∀ b o, h b = some o → w.heap[b]? = some o
  trk : ∀ p ∈ bl.flatten, w.heap[p.1]? = some p.2 ∧ h p.1 = none ∧ (X.D p.1 ∨ X.w0.heap.size ≤ p.1)
  nodup : (bl.flatten.map Prod.fst).Nodup

theorem Rel.knows {X : Cx} {h : Hp} {bl : Bl} {w : World} (r : Rel X h bl w) : Knows h bl w := ⟨r.know, fun p hp => (r.trk p hp).1⟩

theorem lt_of_some {w : World} {b : Nat} {o : Obj} (h : w.heap[b]? = some o) : b < w.heap.size := by
  rcases Nat.lt_or_ge b w.heap.size with h' | h'
  · exact h'
  · simp [Array.getElem?_eq_none h'] at h

/-- The content of a tracked block. -/
inductive Has : Bl → Nat → Obj → Prop
  | here {b : Nat} {o : Obj} {l : Bl} : Has ([(b, o)] :: l) b o
  | there {x : Gr} {l : Bl} {b : Nat} {o : Obj} : Has l b o → Has (x :: l) b o

theorem Has.mem {bl : Bl} {b : Nat} {o : Obj} (h : Has bl b o) : (b, o) ∈ bl.flatten := by
  induction h with
  | here => simp
  | there _ ih => exact List.mem_append.2 (.inr ih)

/-- One group taken out. -/
inductive Pick : Bl → Gr → Bl → Prop
  | here {G : Gr} {l : Bl} : Pick (G :: l) G l
  | there {x : Gr} {l l' : Bl} {G : Gr} : Pick l G l' → Pick (x :: l) G (x :: l')

theorem Pick.perm {bl bl' : Bl} {G : Gr} (h : Pick bl G bl') : bl.Perm (G :: bl') := by
  induction h with
  | here => exact List.Perm.refl _
  | there _ ih => exact (List.Perm.cons _ ih).trans (List.Perm.swap _ _ _)

/-- One group has another content. -/
inductive UpdG : Bl → Gr → Gr → Bl → Prop
  | here {G G' : Gr} {l : Bl} : UpdG (G :: l) G G' (G' :: l)
  | there {x : Gr} {l l' : Bl} {G G' : Gr} : UpdG l G G' l' → UpdG (x :: l) G G' (x :: l')

theorem UpdG.perm {bl bl' : Bl} {G G' : Gr} (h : UpdG bl G G' bl') : ∃ r, bl.Perm (G :: r) ∧ bl'.Perm (G' :: r) := by
  induction h with
  | here => exact ⟨_, List.Perm.refl _, List.Perm.refl _⟩
  | there _ ih =>
    rename_i x l l' G G' _
    obtain ⟨r, h1, h2⟩ := ih
    exact ⟨x :: r, (h1.cons x).trans (List.Perm.swap _ _ _), (h2.cons x).trans (List.Perm.swap _ _ _)⟩

/-- Fewer groups, in whatever order. -/
inductive SubB : Bl → Bl → Prop
  | nil {l : Bl} : SubB l []
  | emp {l r : Bl} : SubB l r → SubB l ([] :: r)
  | cons {l l' r : Bl} {G : Gr} : Pick l G l' → SubB l' r → SubB l (G :: r)

theorem SubB.perm {bl bl' : Bl} (h : SubB bl bl') : ∃ r, bl.flatten.Perm (bl'.flatten ++ r) := by
  induction h with
  | nil => exact ⟨_, List.Perm.refl _⟩
  | emp _ ih => simpa using ih
  | cons hp _ ih =>
    obtain ⟨r, hr⟩ := ih
    refine ⟨r, hp.perm.flatten.trans ?_⟩
    simp only [List.flatten_cons, List.append_assoc]
    exact hr.append_left _

theorem SubB.refl : ∀ (bl : Bl), SubB bl bl
  | [] => .nil
  | _ :: r => .cons .here (SubB.refl r)

/-- Some groups are handed out, the others stay. -/
inductive Split : Bl → Bl → Bl → Prop
  | nil {l : Bl} : Split l [] l
  | cons {l l' r t : Bl} {G : Gr} : Pick l G l' → Split l' r t → Split l (G :: r) t

theorem Split.perm {bl bl' t : Bl} (h : Split bl bl' t) : bl.Perm (bl' ++ t) := by
  induction h with
  | nil => exact List.Perm.refl _
  | cons hp _ ih => exact hp.perm.trans (ih.cons _)

section
variable {X : Cx} {h : Hp} {bl bl' : Bl} {w : World}

theorem Rel.perm (r : Rel X h bl w) (hs : bl.Perm bl') : Rel X h bl' w :=
  ⟨r.size, r.frame, r.tape, r.os, r.output, r.old, r.new, r.know, fun p hp => r.trk p (hs.flatten.mem_iff.2 hp), (hs.flatten.map Prod.fst).nodup_iff.1 r.nodup⟩

theorem Rel.leftF {l : List (Nat × Obj)} (r : Rel X h bl w) (hs : bl.flatten.Perm (bl'.flatten ++ l)) : Rel X h bl' w := by
  have hn := (hs.map Prod.fst).nodup_iff.1 r.nodup
  rw [List.map_append] at hn
  exact ⟨r.size, r.frame, r.tape, r.os, r.output, r.old, r.new, r.know, fun p hp => r.trk p (hs.mem_iff.2 (List.mem_append.2 (.inl hp))), (List.nodup_append.1 hn).1⟩

theorem Rel.left {bl1 bl2 : Bl} (r : Rel X h (bl1 ++ bl2) w) : Rel X h bl1 w :=
  r.leftF (l := bl2.flatten) (by rw [List.flatten_append])

theorem Rel.sub (r : Rel X h bl w) (hs : SubB bl bl') : Rel X h bl' w := by
  obtain ⟨t, ht⟩ := hs.perm
  exact r.leftF ht

theorem Rel.drew (r : Rel X h bl w) (n : Nat) : Rel X h bl { w with drawn := n } :=
  ⟨r.size, r.frame, r.tape, r.os, r.output, r.old, r.new, r.know, r.trk, r.nodup⟩

/-- A new block. -/
theorem Rel.alloc (r : Rel X h bl w) (o : Obj) : Rel X h ([(w.heap.size, o)] :: bl) { w with heap := w.heap.push o } := by
  refine ⟨by simp; exact Nat.le_succ_of_le r.size, fun b hb hd => ?_, r.tape, r.os, r.output, r.old, r.new, fun b o' hb => ?_, fun p hp => ?_, ?_⟩
  · rw [← r.frame b hb hd]
    show (w.heap.push o)[b]? = _
    rw [Array.getElem?_push, if_neg (by have := r.size; omega)]
  · have := r.know b o' hb
    have hlt := lt_of_some this
    show (w.heap.push o)[b]? = _
    rw [Array.getElem?_push, if_neg (by omega)]; exact this
  · rcases List.mem_append.1 (show p ∈ [(w.heap.size, o)] ++ bl.flatten from hp) with hp | hp
    · simp only [List.mem_singleton] at hp
      subst hp
      refine ⟨by simp, ?_, .inr r.size⟩
      cases hh : h w.heap.size with
      | none => rfl
      | some o' => exact absurd (lt_of_some (r.know _ _ hh)) (by simp)
    · obtain ⟨h1, h2, h3⟩ := r.trk p hp
      have hlt := lt_of_some h1
      refine ⟨?_, h2, h3⟩
      show (w.heap.push o)[p.1]? = _
      rw [Array.getElem?_push, if_neg (by omega)]; exact h1
  · show (((w.heap.size, o) :: bl.flatten).map Prod.fst).Nodup
    simp only [List.map_cons, List.nodup_cons]
    refine ⟨fun hm => ?_, r.nodup⟩
    obtain ⟨q, hq, he⟩ := List.mem_map.1 hm
    have := lt_of_some (r.trk q hq).1
    omega

/-- A tracked block is written. -/
theorem Rel.write {w' : World} {b : Nat} {o o' : Obj} (r : Rel X h bl w) (hu : UpdG bl [(b, o)] [(b, o')] bl')
    (hb : w'.heap[b]? = some o') (hs : w'.heap.size = w.heap.size) (ho : ∀ k, k ≠ b → w'.heap[k]? = w.heap[k]?)
    (ht : w'.tape = w.tape) (hos : w'.os = w.os) (hout : w'.output = w.output) : Rel X h bl' w' := by
  obtain ⟨t, h1, h2⟩ := hu.perm
  have r1 := r.perm h1
  refine Rel.perm ?_ h2.symm
  obtain ⟨q1, q2, q3⟩ := r1.trk (b, o) (by simp)
  have hn := r1.nodup
  simp only [List.flatten_cons, List.cons_append, List.nil_append, List.map_cons, List.nodup_cons] at hn
  refine ⟨by rw [hs]; exact r.size, fun k hk hd => ?_, ht.trans r.tape, hos.trans r.os, hout.trans r.output, r.old, r.new, fun k o' hk => ?_, fun p hp => ?_, ?_⟩
  · rw [ho k ?_, r.frame k hk hd]
    rintro rfl
    rcases q3 with q3 | q3
    · exact hd q3
    · simp at q3; omega
  · rw [ho k ?_]; exact r.know k o' hk
    rintro rfl; simp at q2; rw [q2] at hk; cases hk
  · simp only [List.flatten_cons, List.cons_append, List.nil_append, List.mem_cons] at hp
    rcases hp with rfl | hp
    · exact ⟨hb, q2, q3⟩
    · obtain ⟨p1, p2, p3⟩ := r1.trk p (by simp only [List.flatten_cons, List.cons_append, List.nil_append, List.mem_cons]; exact .inr hp)
      refine ⟨?_, p2, p3⟩
      rw [ho p.1 fun e => hn.1 (List.mem_map.2 ⟨p, hp, e⟩)]; exact p1
  · simpa only [List.flatten_cons, List.cons_append, List.nil_append, List.map_cons, List.nodup_cons] using hn

def addH (h : Hp) : Gr → Hp
  | [] => h
  | (b, o) :: r => fun k => if k = b then some o else addH h r k

theorem addH_old : ∀ {h : Hp} {G : Gr} {k : Nat} {o : Obj}, addH h G k = some o → (k, o) ∈ G ∨ h k = some o
  | h, [], k, o, hk => .inr hk
  | h, (b, u) :: r, k, o, hk => by
    simp only [addH] at hk
    split at hk
    · rename_i e; subst e; cases hk; exact .inl (by simp)
    · rcases addH_old hk with h1 | h1
      · exact .inl (List.mem_cons_of_mem _ h1)
      · exact .inr h1
theorem addH_at : ∀ {h : Hp} {G : Gr} {k : Nat}, (∀ p ∈ G, p.1 ≠ k) → addH h G k = h k
  | h, [], k, _ => rfl
  | h, (b, u) :: r, k, hne => by
    simp only [addH]
    rw [if_neg (fun e => hne (b, u) (by simp) e.symm)]
    exact addH_at fun p hp => hne p (List.mem_cons_of_mem _ hp)

/-- A tracked group is from now on known for good. -/
theorem Rel.keep {G : Gr} (r : Rel X h (G :: bl) w) : Rel X (addH h G) bl w := by
  have hn := r.nodup
  rw [List.flatten_cons, List.map_append] at hn
  have hd := (List.nodup_append.1 hn).2.2
  have hG : ∀ p ∈ G, p ∈ (G :: bl).flatten := fun p hp => List.mem_append.2 (.inl hp)
  refine ⟨r.size, r.frame, r.tape, r.os, r.output, fun k o hk => ?_, fun k o hk => ?_, fun k o hk => ?_, fun p hp => ?_, (List.nodup_append.1 hn).2.1⟩
  · rw [addH_at]
    · exact r.old k o hk
    · intro p hp e
      have := (r.trk p (hG p hp)).2.1
      rw [e, r.old k o hk] at this; cases this
  · rcases addH_old hk with h1 | h1
    · exact .inr (r.trk _ (hG _ h1)).2.2
    · exact r.new k o h1
  · rcases addH_old hk with h1 | h1
    · exact (r.trk _ (hG _ h1)).1
    · exact r.know k o h1
  · obtain ⟨p1, p2, p3⟩ := r.trk p (List.mem_append.2 (.inr hp))
    refine ⟨p1, ?_, p3⟩
    rw [addH_at]
    · exact p2
    · intro q hq e
      exact hd q.1 (List.mem_map.2 ⟨q, hq, rfl⟩) p.1 (List.mem_map.2 ⟨p, hp, rfl⟩) e

/-- What was known stays known. -/
def Sub (h h' : Hp) : Prop := ∀ b o, h b = some o → h' b = some o
theorem Sub.refl (h : Hp) : Sub h h := fun _ _ k => k
theorem Sub.trans {h1 h2 h3 : Hp} (k : Sub h1 h2) (k' : Sub h2 h3) : Sub h1 h3 := fun b o e => k' b o (k b o e)

/-- Behind a call: what it got is what it made, all else stands. -/
theorem Rel.call {w' : World} {h' : Hp} {blA blR nb : Bl} (r : Rel X h bl w) (hs : Split bl blA blR) (k : Rel ⟨w, fun b => b ∈ blA.flatten.map Prod.fst, h⟩ h' nb w') :
    Rel X h' (nb ++ blR) w' := by
  have r1 := r.perm hs.perm
  have hn := r1.nodup
  rw [List.flatten_append, List.map_append] at hn
  have hA : ∀ p ∈ blA.flatten, p ∈ (blA ++ blR).flatten := fun p hp => by rw [List.flatten_append]; exact List.mem_append.2 (.inl hp)
  have hR : ∀ p ∈ blR.flatten, p ∈ (blA ++ blR).flatten := fun p hp => by rw [List.flatten_append]; exact List.mem_append.2 (.inr hp)
  have hAX : ∀ b, b ∈ blA.flatten.map Prod.fst → X.D b ∨ X.w0.heap.size ≤ b := by
    intro b hb
    obtain ⟨p, hp, rfl⟩ := List.mem_map.1 hb
    exact (r1.trk p (hA p hp)).2.2
  have hAR : ∀ b, b ∈ blA.flatten.map Prod.fst → b ∉ blR.flatten.map Prod.fst := fun b hb hb' => (List.nodup_append.1 hn).2.2 b hb b hb' rfl
  refine ⟨Nat.le_trans r.size k.size, fun b hb hd => ?_, k.tape.trans r.tape, k.os.trans r.os, k.output.trans r.output, fun b o hb => k.old b o (r.old b o hb), fun b o hb => ?_, k.know, fun p hp => ?_, ?_⟩
  · have hb' : b ∉ blA.flatten.map Prod.fst := fun hm => by
      rcases hAX b hm with e | e
      · exact hd e
      · omega
    rw [k.frame b (Nat.lt_of_lt_of_le hb r.size) hb', r.frame b hb hd]
  · rcases k.new b o hb with e | e | e
    · exact r.new b o e
    · exact .inr (hAX b e)
    · exact .inr (.inr (Nat.le_trans r.size e))
  · rw [List.flatten_append] at hp
    rcases List.mem_append.1 hp with hp | hp
    · obtain ⟨p1, p2, p3⟩ := k.trk p hp
      refine ⟨p1, p2, ?_⟩
      rcases p3 with e | e
      · exact hAX _ e
      · exact .inr (Nat.le_trans r.size e)
    · obtain ⟨p1, p2, p3⟩ := r1.trk p (hR p hp)
      have hm : p.1 ∉ blA.flatten.map Prod.fst := fun hm => hAR _ hm (List.mem_map.2 ⟨p, hp, rfl⟩)
      refine ⟨by rw [k.frame p.1 (lt_of_some p1) hm]; exact p1, ?_, p3⟩
      cases hh : h' p.1 with
      | none => rfl
      | some o =>
        rcases k.new _ _ hh with e | e | e
        · rw [show h p.1 = some o from e] at p2; cases p2
        · exact absurd e hm
        · exact absurd (lt_of_some p1) (by simp at e; omega)
  · rw [List.flatten_append, List.map_append]
    refine List.nodup_append.2 ⟨k.nodup, (List.nodup_append.1 hn).2.1, ?_⟩
    rintro b hb c hc rfl
    obtain ⟨p, hp, rfl⟩ := List.mem_map.1 hb
    rcases (k.trk p hp).2.2 with e | e
    · exact hAR _ e hc
    · obtain ⟨q, hq, he⟩ := List.mem_map.1 hc
      have := lt_of_some (r1.trk q (hR q hq)).1
      simp at e
      omega
end
end Go.Proofs.Ytdglignjoojimaa
