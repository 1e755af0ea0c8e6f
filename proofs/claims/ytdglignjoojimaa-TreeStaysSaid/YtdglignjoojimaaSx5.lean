/- A region that draws its order may be walked in the order of its text, where what is unordered commutes. No conditions. -/
import Derived.Test.YtdglignjoojimaaSx4
import Derived.Orders
set_option linter.unusedVariables false
set_option linter.unusedSimpArgs false
namespace Go.Proofs.Ytdglignjoojimaa

section
variable {P : Program} {ops : Array Oper} {S : World → Prop} {E : Nat} {F : Act → World → Prop}

/-- One operation: it acts, or it yields something that S alone decides. -/
def Gs (P : Program) (ops : Array Oper) (S : World → Prop) (E : Nat) (i : Nat) (K : Act → World → Prop) (a : Act) (w : World) : Prop :=
  S w ∧ ∃ o, ops[i]? = some o ∧
    if Region.wanted o (yielded ops a.tmps) then
      if E.testBit i then o.wp P a w K Bot
      else ∃ v, (∀ w', S w' → (execOp a.eval o).run P w' = .ok (.value v) w') ∧ K (a.put o.dst v) w
    else K (a.put o.dst undef) w
def G (P : Program) (ops : Array Oper) (S : World → Prop) (E : Nat) (F : Act → World → Prop) : List Nat → Act → World → Prop
  | [], a, w => F a w
  | i :: rest, a, w => Gs P ops S E i (G P ops S E F rest) a w

theorem G.S_ {l : List Nat} {a : Act} {w : World} (hl : l ≠ []) (h : G P ops S E F l a w) : S w := by
  cases l with
  | nil => exact absurd rfl hl
  | cons i l => exact h.1

theorem Gs.mono {i : Nat} {K K' : Act → World → Prop} {a : Act} {w : World} (h : Gs P ops S E i K a w) (hk : ∀ a w, K a w → K' a w) : Gs P ops S E i K' a w := by
  obtain ⟨hs, o, ho, h⟩ := h
  refine ⟨hs, o, ho, ?_⟩
  split
  · rename_i hw
    rw [if_pos hw] at h
    split
    · rename_i he; rw [if_pos he] at h; exact Oper.wp_mono hk h
    · rename_i he
      rw [if_neg he] at h
      obtain ⟨v, h1, h2⟩ := h
      exact ⟨v, h1, hk _ _ h2⟩
  · rename_i hw; rw [if_neg hw] at h; exact hk _ _ h

/-- The operation yields v, whatever else happens while S holds. -/
def SY (P : Program) (ops : Array Oper) (S : World → Prop) (o : Oper) (v : Value) (a : Act) : Prop :=
  (Region.wanted o (yielded ops a.tmps) = true ∧ ∀ w, S w → (execOp a.eval o).run P w = .ok (.value v) w) ∨
  (Region.wanted o (yielded ops a.tmps) = false ∧ v = undef)
theorem SY.same {o : Oper} {v : Value} {a a' : Act} (hy : SY P ops S o v a) (he : execOp a'.eval o = execOp a.eval o)
    (hw : Region.wanted o (yielded ops a'.tmps) = Region.wanted o (yielded ops a.tmps)) : SY P ops S o v a' := by
  unfold SY at *
  rw [he, hw]
  exact hy
theorem SY.inj {o : Oper} {v u : Value} {a : Act} {w : World} (hs : S w) (h : SY P ops S o v a) (k : SY P ops S o u a) : v = u := by
  rcases h with ⟨h1, h2⟩ | ⟨h1, h2⟩ <;> rcases k with ⟨k1, k2⟩ | ⟨k1, k2⟩
  · have := (h2 w hs).symm.trans (k2 w hs); cases this; rfl
  · rw [h1] at k1; cases k1
  · rw [h1] at k1; cases k1
  · rw [h2, k2]

/-- Either it yields, or it acts. -/
theorem Gs.cases {i : Nat} {K : Act → World → Prop} {a : Act} {w : World} {o : Oper} (ho : ops[i]? = some o) (h : Gs P ops S E i K a w) :
    (∃ v, SY P ops S o v a ∧ (E.testBit i = false ∨ Region.wanted o (yielded ops a.tmps) = false) ∧ K (a.put o.dst v) w) ∨ (Region.wanted o (yielded ops a.tmps) = true ∧ E.testBit i = true ∧ o.wp P a w K Bot) := by
  obtain ⟨hs, o', ho', h⟩ := h
  rw [ho] at ho'; cases ho'
  by_cases hw : Region.wanted o (yielded ops a.tmps) = true
  · rw [if_pos hw] at h
    by_cases he : E.testBit i = true
    · rw [if_pos he] at h; exact .inr ⟨hw, he, h⟩
    · rw [if_neg he] at h
      obtain ⟨v, h1, h2⟩ := h
      exact .inl ⟨v, .inl ⟨hw, h1⟩, .inl (by simpa using he), h2⟩
  · rw [if_neg hw] at h
    exact .inl ⟨undef, .inr ⟨by simpa using hw, rfl⟩, .inr (by simpa using hw), h⟩
theorem Gs.yield {i : Nat} {K : Act → World → Prop} {a : Act} {w : World} {o : Oper} {v : Value} (ho : ops[i]? = some o) (hs : S w) (hy : SY P ops S o v a)
    (he : E.testBit i = false ∨ Region.wanted o (yielded ops a.tmps) = false) (k : K (a.put o.dst v) w) : Gs P ops S E i K a w := by
  refine ⟨hs, o, ho, ?_⟩
  rcases hy with ⟨hw, hv⟩ | ⟨hw, rfl⟩
  · rw [if_pos hw]
    rcases he with he | he
    · rw [if_neg (by rw [he]; simp)]; exact ⟨v, hv, k⟩
    · rw [he] at hw; cases hw
  · rw [if_neg (by rw [hw]; simp)]; exact k
theorem Gs.act {i : Nat} {K : Act → World → Prop} {a : Act} {w : World} {o : Oper} (ho : ops[i]? = some o) (hs : S w) (hw : Region.wanted o (yielded ops a.tmps) = true) (he : E.testBit i = true)
    (k : o.wp P a w K Bot) : Gs P ops S E i K a w := by
  refine ⟨hs, o, ho, ?_⟩
  rw [if_pos hw, if_pos he]; exact k

theorem not_letsOut : ¬ LetsOut Bot := fun ⟨_, _, h⟩ => h

/-- What acts comes to something. -/
theorem wp_some {o : Oper} {a : Act} {w : World} {K : Act → World → Prop} (h : o.wp P a w K Bot) : ∃ u w' ds, K ({ a with defers := ds }.put o.dst u) w' := by
  unfold Oper.wp at h
  generalize (execOp a.eval o).run P w = r at h
  cases r with
  | ok n w' =>
    cases n <;> simp only [Oper.upon] at h
    case value u => exact ⟨u, w', a.defers, h⟩
    case skip => exact ⟨undef, w', a.defers, h⟩
    case defer d => exact ⟨undef, w', d :: a.defers, h⟩
    case enter f args =>
      obtain ⟨e, w'', fr, he, _⟩ := h []
      cases e with
      | returned v => exact ⟨v, w'', a.defers, he⟩
      | panicked c => exact he.elim
      | outgrown => exact absurd he not_letsOut
    case row row args =>
      obtain ⟨v, w'', hr, _⟩ := h default []
      exact ⟨v, w'', a.defers, hr⟩
  | halt x w' =>
    cases x <;> simp only [Oper.upon] at h
    case panic v => exact h.elim

/-- What acts, acts the same in a frame that has one slot more. -/
theorem wp_put {o : Oper} {a : Act} {w : World} {K K' : Act → World → Prop} {dx : Option Tmp} {v : Value} (hs : ∀ cs b, o.op ≠ .select cs b) (h1 : ∀ d, dx = some d → d ∉ o.looksAt ops) 
    (h : o.wp P a w K Bot) (hk : ∀ u ds w', K ({ a with defers := ds }.put o.dst u) w' → K' (({ a with defers := ds }.put dx v).put o.dst u) w') : o.wp P (a.put dx v) w K' Bot := by
  unfold Oper.wp at *
  rw [execOp_put o hs a dx v h1]
  have hd : ∀ ds, ({ a.put dx v with defers := ds } : Act) = { a with defers := ds }.put dx v := by cases dx <;> intro ds <;> rfl
  have hd0 : (a.put dx v).defers = a.defers := by cases dx <;> rfl
  generalize (execOp a.eval o).run P w = r at *
  cases r with
  | ok n w' =>
    cases n <;> simp only [Oper.upon] at h ⊢
    case value u => exact hk u a.defers w' h
    case skip => exact hk undef a.defers w' h
    case defer d => rw [hd0, hd]; exact hk undef _ w' h
    case enter f args =>
      refine Calls.mono h fun e w'' he => ?_
      cases e with
      | returned u => exact hk u a.defers w'' he
      | panicked c => exact he
      | outgrown => exact he
    case row row args => exact Rows.mono h fun u w'' he => hk u a.defers w'' he
  | halt x w' => cases x <;> simp only [Oper.upon] at h ⊢; exact h

theorem wp_unput {o : Oper} {a : Act} {w : World} {K K' : Act → World → Prop} {dx : Option Tmp} {v : Value} (hs : ∀ cs b, o.op ≠ .select cs b) (h1 : ∀ d, dx = some d → d ∉ o.looksAt ops) 
    (h : o.wp P (a.put dx v) w K Bot) (hk : ∀ u ds w', K (({ a with defers := ds }.put dx v).put o.dst u) w' → K' ({ a with defers := ds }.put o.dst u) w') : o.wp P a w K' Bot := by
  unfold Oper.wp at *
  rw [execOp_put o hs a dx v h1] at h
  have hd : ∀ ds, ({ a.put dx v with defers := ds } : Act) = { a with defers := ds }.put dx v := by cases dx <;> intro ds <;> rfl
  have hd0 : (a.put dx v).defers = a.defers := by cases dx <;> rfl
  generalize (execOp a.eval o).run P w = r at *
  cases r with
  | ok n w' =>
    cases n <;> simp only [Oper.upon] at h ⊢
    case value u => exact hk u a.defers w' h
    case skip => exact hk undef a.defers w' h
    case defer d => rw [hd0, hd] at h; exact hk undef _ w' h
    case enter f args =>
      refine Calls.mono h fun e w'' he => ?_
      cases e with
      | returned u => exact hk u a.defers w'' he
      | panicked c => exact he
      | outgrown => exact he
    case row row args => exact Rows.mono h fun u w'' he => hk u a.defers w'' he
  | halt x w' => cases x <;> simp only [Oper.upon] at h ⊢; exact h

theorem apart_symm {x y : Oper} (h : x.apart ops y = true) : y.apart ops x = true := by
  obtain ⟨h1, h2, h3⟩ := Oper.apart_spec h
  unfold Oper.apart
  cases hy : y.dst with
  | none =>
    cases hx : x.dst with
    | none => rfl
    | some d => have := h1 d hx; simp [this]
  | some e =>
    have k3 := h3 e hy
    cases hx : x.dst with
    | none => simp [k3]
    | some d =>
      have k1 := h1 d hx
      have k2 := h2 d hx
      rw [hy] at k2
      have : d ≠ e := fun he => k2 (by rw [he])
      simp [k1, k3, this]

theorem Gs.swap {i j : Nat} {oi oj : Oper} {K : Act → World → Prop} {a : Act} {w : World} (hsel : Region.noSelect ops = true) (hi : ops[i]? = some oi) (hj : ops[j]? = some oj) (hap : oi.apart ops oj = true)
    (hE : E.testBit i = false ∨ E.testBit j = false) (hK : E.testBit j = true → ∀ a w, K a w → S w) (h : Gs P ops S E i (Gs P ops S E j K) a w) : Gs P ops S E j (Gs P ops S E i K) a w := by
  obtain ⟨h1, h2, h3⟩ := Oper.apart_spec hap
  have hsi : ∀ cs b, oi.op ≠ .select cs b := fun cs b => Region.noSelect_spec hsel i oi cs b hi
  have hsj : ∀ cs b, oj.op ≠ .select cs b := fun cs b => Region.noSelect_spec hsel j oj cs b hj
  have h2' : ∀ d, oj.dst = some d → oi.dst ≠ some d := fun d hd hd' => h2 d hd' hd
  have toI : ∀ (a : Act) (u v : Value), SY P ops S oi v (a.put oj.dst u) ↔ SY P ops S oi v a := fun a u v =>
    ⟨fun k => k.same (execOp_put oi hsi a oj.dst u h3).symm (wanted_put oi a oj.dst u h3).symm, fun k => k.same (execOp_put oi hsi a oj.dst u h3) (wanted_put oi a oj.dst u h3)⟩
  have toJ : ∀ (a : Act) (u v : Value), SY P ops S oj v (a.put oi.dst u) ↔ SY P ops S oj v a := fun a u v =>
    ⟨fun k => k.same (execOp_put oj hsj a oi.dst u h1).symm (wanted_put oj a oi.dst u h1).symm, fun k => k.same (execOp_put oj hsj a oi.dst u h1) (wanted_put oj a oi.dst u h1)⟩
  have toD : ∀ (o : Oper) (a : Act) (ds : List Deferred) (v : Value), SY P ops S o v { a with defers := ds } ↔ SY P ops S o v a := fun o a ds v => ⟨fun k => k.same rfl rfl, fun k => k.same rfl rfl⟩
  have hs := h.1
  have wI : ∀ (a : Act) (u : Value), Region.wanted oi (yielded ops (a.put oj.dst u).tmps) = Region.wanted oi (yielded ops a.tmps) := fun a u => wanted_put oi a oj.dst u h3
  have wJ : ∀ (a : Act) (u : Value), Region.wanted oj (yielded ops (a.put oi.dst u).tmps) = Region.wanted oj (yielded ops a.tmps) := fun a u => wanted_put oj a oi.dst u h1
  rcases h.cases hi with ⟨v, hy, hei, h⟩ | ⟨hw, he, h⟩
  · rcases h.cases hj with ⟨u, hy', hej, h'⟩ | ⟨hw', he', h'⟩
    · -- both yield
      refine Gs.yield hj hs ((toJ a v u).1 hy') (by rw [wJ] at hej; exact hej) ?_
      refine Gs.yield hi hs ((toI a u v).2 hy) (by rw [wI]; exact hei) ?_
      rw [← Act.put_comm a v u h2]; exact h'
    · -- the second acts
      refine Gs.act hj hs (by rw [wJ] at hw'; exact hw') he' ?_
      refine wp_unput hsj h1 h' fun u ds w' hk => ?_
      refine Gs.yield hi (hK he' _ _ hk) ((toI _ u v).2 ((toD oi a ds v).2 hy)) (by rw [wI]; exact hei) ?_
      rw [← Act.put_comm _ v u h2]; exact hk
  · -- the first acts: the second yields
    have hEj : E.testBit j = false := hE.resolve_left (by rw [he]; simp)
    obtain ⟨u0, w0, ds0, h0⟩ := wp_some h
    have key : ∀ u ds w', Gs P ops S E j K ({ a with defers := ds }.put oi.dst u) w' → ∃ v, SY P ops S oj v a ∧ K (({ a with defers := ds }.put oi.dst u).put oj.dst v) w' := by
      intro u ds w' hk
      rcases hk.cases hj with ⟨v, hy, _, hk'⟩ | ⟨_, he', _⟩
      · exact ⟨v, (toD oj a ds v).1 ((toJ _ u v).1 hy), hk'⟩
      · rw [hEj] at he'; cases he'
    obtain ⟨v, hv, _⟩ := key u0 ds0 w0 h0
    refine Gs.yield hj hs hv (.inl hEj) ?_
    refine Gs.act hi hs (by rw [wI]; exact hw) he ?_
    refine wp_put hsi h3 h fun u ds w' hk => ?_
    obtain ⟨v', hv', hk'⟩ := key u ds w' hk
    have := SY.inj hs hv hv'
    subst this
    rw [Act.put_comm _ v u h2']; exact hk'

/-- What is not ordered comes to the front. -/
theorem G.front {F : Act → World → Prop} {j : Nat} {oj : Oper} (hsel : Region.noSelect ops = true) (hj : ops[j]? = some oj) : ∀ (p q : List Nat) (a : Act) (w : World),
    (∀ i ∈ p, ∃ oi, ops[i]? = some oi ∧ oi.apart ops oj = true ∧ (E.testBit i = false ∨ E.testBit j = false)) → ((∀ a w, F a w → S w) ∨ (E.testBit j = true → p ≠ [] → q ≠ [])) → G P ops S E F (p ++ j :: q) a w → G P ops S E F (j :: (p ++ q)) a w
  | [], q, a, w, _, _, h => h
  | i :: p, q, a, w, hp, hF, h => by
    obtain ⟨oi, hi, hap, hE⟩ := hp i (by simp)
    have h' : Gs P ops S E i (G P ops S E F (j :: (p ++ q))) a w := Gs.mono h fun a w k => G.front hsel hj p q a w (fun i hi => hp i (by simp [hi])) (hF.imp id (fun f he _ => f he (by simp))) k
    refine Gs.swap hsel hi hj hap hE (fun he a w k => ?_) h'
    replace k : G P ops S E F (p ++ q) a w := k
    rcases hF with hF | hF
    · cases hpq : p ++ q with
      | nil => rw [hpq] at k; exact hF _ _ k
      | cons x l => exact G.S_ (l := p ++ q) (by rw [hpq]; simp) k
    · exact G.S_ (l := p ++ q) (fun e => hF he (by simp) (List.append_eq_nil_iff.1 e).2) k

/-- The bits of what comes ahead of an operation: those that it names, and those ahead of them. -/
def ahead (B : List Nat) (es : List Edge) : Nat := es.foldl (fun s e => if Region.binds .any e then s ||| 2 ^ e.on ||| B.getD e.on 0 else s) 0

def chkOne (ops : Array Oper) (B : List Nat) (E : Nat) (j : Nat) (oj : Oper) : Bool :=
  oj.after.toList.all (fun e => !(Region.binds .any e) || Nat.blt e.on j) && Nat.beq (B.getD j 0 ||| ahead B oj.after.toList) (ahead B oj.after.toList) &&
  (List.range j).all fun i => (B.getD j 0).testBit i || (match ops[i]? with
    | some oi => !(E.testBit i && E.testBit j) && oi.apart ops oj
    | none => false)
def chkFrom (ops : Array Oper) (B : List Nat) (E : Nat) : Nat → List Oper → Bool
  | _, [] => true
  | j, o :: r => chkOne ops B E j o && chkFrom ops B E (j + 1) r
def chk (ops : Array Oper) (B : List Nat) (E : Nat) : Bool := Region.noSelect ops && chkFrom ops B E 0 ops.toList

theorem chkFrom_at {ops : Array Oper} {B : List Nat} {E : Nat} (l : List Oper) : ∀ (k : Nat), chkFrom ops B E k l = true → ∀ (i : Nat) (o : Oper), l[i]? = some o → chkOne ops B E (k + i) o = true := by
  induction l with
  | nil => intro k _ i o ho; simp at ho
  | cons x r ih =>
    intro k h i o ho
    rw [chkFrom, Bool.and_eq_true] at h
    cases i with
    | zero =>
      have : x = o := by simpa using ho
      subst this
      exact h.1
    | succ i =>
      have := ih (k + 1) h.2 i o (by simpa using ho)
      rw [show k + (i + 1) = k + 1 + i by omega]; exact this

theorem ahead_bit {B : List Nat} {i : Nat} : ∀ {es : List Edge} {s : Nat}, (es.foldl (fun s e => if Region.binds .any e then s ||| 2 ^ e.on ||| B.getD e.on 0 else s) s).testBit i = true →
    s.testBit i = true ∨ ∃ e ∈ es, Region.binds .any e = true ∧ (e.on = i ∨ (B.getD e.on 0).testBit i = true)
  | [], s, h => .inl h
  | e :: es, s, h => by
    simp only [List.foldl_cons] at h
    rcases ahead_bit h with h | ⟨e', he', hb, h⟩
    · by_cases hb : Region.binds .any e = true
      · rw [if_pos hb] at h
        simp only [Nat.testBit_or, Bool.or_eq_true, Nat.testBit_two_pow, decide_eq_true_eq] at h
        rcases h with (h | h) | h
        · exact .inl h
        · exact .inr ⟨e, by simp, hb, .inl h⟩
        · exact .inr ⟨e, by simp, hb, .inr h⟩
      · rw [if_neg hb] at h; exact .inl h
    · exact .inr ⟨e', by simp [he'], hb, h⟩

theorem chk_spec {ops : Array Oper} {B : List Nat} {E : Nat} (h : chk ops B E = true) : Region.noSelect ops = true ∧ ∀ j oj, ops[j]? = some oj →
    (∀ e ∈ oj.after, Region.binds .any e = true → e.on < j) ∧ (∀ i, (B.getD j 0).testBit i = true → ∃ e ∈ oj.after, Region.binds .any e = true ∧ (e.on = i ∨ (B.getD e.on 0).testBit i = true)) ∧
    (∀ i, i < j → (B.getD j 0).testBit i = true ∨ ∃ oi, ops[i]? = some oi ∧ oi.apart ops oj = true ∧ (E.testBit i = false ∨ E.testBit j = false)) := by
  simp only [chk, Bool.and_eq_true] at h
  refine ⟨h.1, fun j oj hj => ?_⟩
  have := chkFrom_at ops.toList 0 h.2 j oj (by simpa using hj)
  simp only [chkOne, Nat.zero_add, Bool.and_eq_true, List.all_eq_true] at this
  obtain ⟨⟨h1, h2⟩, h3⟩ := this
  refine ⟨fun e he hb => ?_, fun i hi => ?_, fun i hi => ?_⟩
  · have := h1 e (by simpa using he)
    simp [Nat.blt, hb] at this
    omega
  · have e2 := Nat.eq_of_beq_eq_true h2
    have : (ahead B oj.after.toList).testBit i = true := by
      rw [← e2, Nat.testBit_or, hi]; rfl
    rcases ahead_bit this with h | ⟨e, he, hb, h⟩
    · simp at h
    · exact ⟨e, by simpa using he, hb, h⟩
  · have := h3 i (List.mem_range.2 hi)
    rcases Bool.or_eq_true _ _ ▸ this with h | h
    · exact .inl h
    · right
      split at h
      · rename_i oi hoi
        simp only [Bool.and_eq_true, Bool.not_eq_true', Bool.and_eq_false_iff] at h
        exact ⟨oi, hoi, h.2, h.1⟩
      · cases h

/-- The last operation acts, and comes behind all others. -/
def finOk (ops : Array Oper) (B : List Nat) (E : Nat) : Bool := E.testBit (ops.size - 1) && (List.range (ops.size - 1)).all fun i => (B.getD (ops.size - 1) 0).testBit i

theorem getD_mark {listed : Array Bool} {i j : Nat} (hi : i < listed.size) : (listed.setIfInBounds i true).getD j true = if i = j then true else listed.getD j true := by
  by_cases h : i = j
  · subst h; simp [hi]
  · rw [if_neg h]; exact getD_set_ne true h

theorem wpAny_of_G {Q : Exit → Act → World → Prop} {B : List Nat} (hchk : chk ops B E = true) (hF : (∀ a w, Q .normal a w → S w) ∨ finOk ops B E = true) : ∀ (n : Nat) (L : List Nat) (listed : Array Bool) (a : Act) (w : World), L.length = n →
    (∀ i, i ∈ L ↔ i < ops.size ∧ listed.getD i true = false) → L.Pairwise (· < ·) → listed.size = ops.size →
    (∀ x y, x < ops.size → listed.getD x true = true → (B.getD x 0).testBit y = true → listed.getD y true = true) → G P ops S E (Q .normal) L a w → wpAny P .any ops Q n listed a w := by
  obtain ⟨hsel, hc⟩ := chk_spec hchk
  intro n
  induction n with
  | zero =>
    intro L listed a w hn hL _ _ _ hG
    have : L = [] := List.eq_nil_of_length_eq_zero hn
    subst this
    refine ⟨List.eq_nil_iff_forall_not_mem.2 fun j hj => ?_, hG⟩
    obtain ⟨h0, o, ho, _⟩ := mem_ready.1 hj
    have := (hL j).2 ⟨(Array.getElem?_eq_some_iff.1 ho).1, h0⟩
    cases this
  | succ n ih =>
    intro L listed a w hn hL hP hsz hcl hG
    refine ⟨fun hr => ?_, fun j hj => ?_⟩
    · -- the least that isn't listed is ready
      cases L with
      | nil => cases hn
      | cons i0 L =>
        obtain ⟨h1, h2⟩ := (hL i0).1 (by simp)
        obtain ⟨o, ho⟩ : ∃ o, ops[i0]? = some o := ⟨_, Array.getElem?_eq_getElem h1⟩
        have : i0 ∈ Region.ready .any ops listed := by
          refine mem_ready.2 ⟨h2, o, ho, fun e he hb0 => ?_⟩
          have hlt := (hc i0 o ho).1 e he hb0
          cases hb : listed.getD e.on true with
          | true =>
            have : e.on < listed.size := by omega
            simpa [this] using hb
          | false =>
            have hm := (hL e.on).2 ⟨by omega, hb⟩
            rcases List.mem_cons.1 hm with he' | hm
            · omega
            · have := List.rel_of_pairwise_cons hP hm
              omega
        rw [hr] at this; cases this
    · obtain ⟨h0, oj, hoj, hall⟩ := mem_ready.1 hj
      have hjlt : j < ops.size := (Array.getElem?_eq_some_iff.1 hoj).1
      have hjL : j ∈ L := (hL j).2 ⟨hjlt, h0⟩
      obtain ⟨p, q, rfl⟩ := List.append_of_mem hjL
      -- what is ahead of j is listed
      have hah : ∀ i, (B.getD j 0).testBit i = true → listed.getD i true = true := by
        intro i hi
        obtain ⟨e, he, hb, hi⟩ := (hc j oj hoj).2.1 i hi
        have hl := hall e he hb
        have hlt := (hc j oj hoj).1 e he hb
        have hl' : listed.getD e.on true = true := by
          have : e.on < listed.size := by omega
          simpa [this] using hl
        rcases hi with rfl | hi
        · exact hl'
        · exact hcl e.on i (by omega) hl' hi
      have hP' := List.pairwise_append.1 hP
      have hfront := G.front (P := P) (S := S) (E := E) (F := Q .normal) hsel hoj p q a w (fun i hi => by
        have hij : i < j := hP'.2.2 i hi j (by simp)
        rcases (hc j oj hoj).2.2 i hij with hb | h
        · have h1 := hah i hb
          have h2 := ((hL i).1 (List.mem_append.2 (.inl hi))).2
          rw [h1] at h2; cases h2
        · exact h) (hF.imp id fun hf he hp0 => by
          -- the last is there still
          simp only [finOk, Bool.and_eq_true, List.all_eq_true, List.mem_range] at hf
          have hlastL : ops.size - 1 ∈ p ++ j :: q := by
            refine (hL _).2 ⟨by omega, ?_⟩
            cases hb : listed.getD (ops.size - 1) true with
            | false => rfl
            | true =>
              by_cases hj1 : j = ops.size - 1
              · rw [hj1, hb] at h0; cases h0
              · have := hcl (ops.size - 1) j (by omega) hb (hf.2 j (by omega))
                rw [this] at h0; cases h0
          obtain ⟨i, hi⟩ := List.exists_mem_of_ne_nil p hp0
          have hij : i < j := hP'.2.2 i hi j (by simp)
          by_cases hj1 : j = ops.size - 1
          · -- then what is ahead of it is listed
            have h1 := hah i (by rw [hj1]; exact hf.2 i (by omega))
            have h2 := ((hL i).1 (List.mem_append.2 (.inl hi))).2
            rw [h1] at h2; cases h2
          · intro hq
            subst hq
            rcases List.mem_append.1 hlastL with h | h
            · have := hP'.2.2 _ h j (by simp); omega
            · simp at h; omega) hG
      have hjs : j < listed.size := by omega
      have ih' : ∀ a w, G P ops S E (Q .normal) (p ++ q) a w → wpAny P .any ops Q n (listed.setIfInBounds j true) a w := by
        intro a w h
        have hnd : j ∉ p ++ q := by
          intro hm
          rcases List.mem_append.1 hm with hm | hm
          · have := hP'.2.2 j hm j (by simp); omega
          · have := List.rel_of_pairwise_cons hP'.2.1 hm; omega
        refine ih (p ++ q) (listed.setIfInBounds j true) a w (by simp at hn ⊢; omega) (fun i => ?_) ?_ (by simpa using hsz) (fun x y hx hlx hb => ?_) h
        · rw [getD_mark hjs]
          by_cases hij : j = i
          · subst hij
            simp only [if_true, Bool.true_eq_false, and_false, iff_false]
            exact hnd
          · rw [if_neg hij, ← hL i]
            simp only [List.mem_append, List.mem_cons]
            constructor
            · rintro (h | h)
              · exact .inl h
              · exact .inr (.inr h)
            · rintro (h | h | h)
              · exact .inl h
              · exact absurd h.symm hij
              · exact .inr h
        · exact List.pairwise_append.2 ⟨hP'.1, (List.pairwise_cons.1 hP'.2.1).2, fun x hx y hy => hP'.2.2 x hx y (List.mem_cons_of_mem _ hy)⟩
        · rw [getD_mark hjs] at hlx ⊢
          split
          · rfl
          · rename_i hne
            split at hlx
            · rename_i hjx; subst hjx; exact hah y hb
            · exact hcl x y hx hlx hb
      -- one step
      have hst : Gs P ops S E j (wpAny P .any ops Q n (listed.setIfInBounds j true)) a w := Gs.mono hfront ih'
      unfold wpOp
      simp only [hoj]
      rcases hst.cases hoj with ⟨v, hy, _, hk⟩ | ⟨hw, _, hk⟩
      · rcases hy with ⟨hw, hv⟩ | ⟨hw, rfl⟩
        · rw [if_pos hw]
          left
          rw [Oper.wp, hv w hst.1, Oper.upon_value]; exact hk
        · rw [if_neg (by rw [hw]; simp)]; exact hk
      · rw [if_pos hw]
        left
        -- the weaker exits
        unfold Oper.wp at hk ⊢
        generalize (execOp a.eval oj).run P w = r at hk
        cases r with
        | ok nx w' =>
          cases nx <;> simp only [Oper.upon] at hk ⊢
          case value u => exact hk
          case skip => exact hk
          case defer d => exact hk
          case enter f args =>
            refine Calls.mono hk fun e w'' he => ?_
            cases e with
            | returned u => exact he
            | panicked c => exact he.elim
            | outgrown => exact absurd he not_letsOut
          case row row args => exact hk
        | halt x w' => cases x <;> simp only [Oper.upon] at hk ⊢; exact hk.elim

theorem wp_draw {Q : Exit → Act → World → Prop} {B : List Nat} {id : Nat} {a : Act} {w : World} (hm : P.follows .mixedOrders = true) (hchk : chk ops B E = true) (hF : (∀ a w, Q .normal a w → S w) ∨ finOk ops B E = true)
    (h : G P ops S E (Q .normal) (List.range ops.size) a { w with drawn := w.drawn + 1 }) : (Code.region id ops true).wp P Q a w := by
  refine wp_region_any hm (wpAny_of_G hchk hF ops.size (List.range ops.size) _ a _ (by simp) (fun i => ?_) ?_ (by simp) (fun x y hx hl _ => ?_) h)
  · simp only [List.mem_range]
    constructor
    · intro hi; exact ⟨hi, by simp [hi]⟩
    · exact fun h => h.1
  · exact List.pairwise_lt_range
  · simp [hx] at hl
end

def clos (l : List Oper) : List Nat := l.foldl (fun acc o => acc ++ [ahead acc o.after.toList]) []

/-- The judgement within a region that draws: S is what hS and blS tell. -/
def VD (X : Cx) (P : Program) (N : Nat) (ops : Array Oper) (hS : Hp) (blS : Bl) (E : Nat) (F : Act → World → Prop) (k : Nat) (l : List Oper) (σ : List (Nat × Value)) (h : Hp) (bl : Bl) : Prop :=
  ∀ a w, Fr N σ a → Rel X h bl w → Knows hS blS w → (∀ j, l[j]? = ops[k + j]?) → G P ops (Knows hS blS) E F (List.range' k l.length) a w

section
variable {X : Cx} {P : Program} {N : Nat} {ops : Array Oper} {hS h : Hp} {blS bl : Bl} {E k : Nat} {F : Act → World → Prop} {Q : Exit → Act → World → Prop} {σ : List (Nat × Value)} {rest : List Oper}

theorem SubB.knows {w : World} (r : Rel X h bl w) (h1 : Sub hS h) (h2 : SubB bl blS) : Knows hS blS w :=
  ⟨fun b o hb => r.know b o (h1 b o hb), fun p hp => ((r.sub h2).trk p hp).1⟩

theorem V_draw {id : Nat} {l : List Oper} (hS : Hp) (blS : Bl) (E : Nat) (hm : P.follows .mixedOrders = true) (hc : chk l.toArray (clos l) E = true) (h1 : Sub hS h) (h2 : SubB bl blS)
    (k : VD X P N l.toArray hS blS E (fun a w => Knows hS blS w ∧ Q .normal a w) 0 l σ h bl) : V X P N Q (.region id l.toArray true) σ h bl := by
  intro a w ha hr
  let Q' : Exit → Act → World → Prop := fun e a w => (e = .normal → Knows hS blS w) ∧ Q e a w
  refine Code.wp_mono (Q := Q') (fun e a w q => q.2) ?_
  refine wp_draw (S := Knows hS blS) hm hc (.inl fun a w q => q.1 rfl) ?_
  have hr' := hr.drew (w.drawn + 1)
  have := k a _ ha hr' (SubB.knows hr' h1 h2) (fun j => by simp)
  rw [List.range_eq_range']
  have e : (fun a w => Knows hS blS w ∧ Q .normal a w) = Q' .normal := by
    funext a w; simp [Q']
  rw [e] at this
  simpa using this

/-- The last operation acts behind all others: what is known need not hold behind it. -/
theorem V_drawL {id : Nat} {l : List Oper} (hS : Hp) (blS : Bl) (E : Nat) (hm : P.follows .mixedOrders = true) (hc : chk l.toArray (clos l) E = true) (hf : finOk l.toArray (clos l) E = true) (h1 : Sub hS h) (h2 : SubB bl blS)
    (k : VD X P N l.toArray hS blS E (Q .normal) 0 l σ h bl) : V X P N Q (.region id l.toArray true) σ h bl := by
  intro a w ha hr
  refine wp_draw (S := Knows hS blS) hm hc (.inr hf) ?_
  have hr' := hr.drew (w.drawn + 1)
  have := k a _ ha hr' (SubB.knows hr' h1 h2) (fun j => by simp)
  rw [List.range_eq_range']
  simpa using this

theorem VD_nil (q : VQ X N Q .normal σ h bl) : VD X P N ops hS blS E (fun a w => Knows hS blS w ∧ Q .normal a w) k [] σ h bl := fun a w ha hr hk _ => ⟨hk, q a w ha hr⟩

theorem VD_last {o : Oper} {Post : List (Nat × Value) → Hp → Bl → Prop} (hw : wantd ops σ o = some true) (hE : Nat.testBit E k = true) (he : Eff X P N o σ h bl Post)
    (q : ∀ σ' h' bl', Post σ' h' bl' → VQ X N Q .normal σ' h' bl') : VD X P N ops hS blS E (Q .normal) k [o] σ h bl := by
  intro a w ha hr hk ho
  have h0 : ops[k]? = some o := by simpa using (ho 0).symm
  show Gs _ _ _ _ _ (G _ _ _ _ _ []) _ _
  refine ⟨hk, o, h0, ?_⟩
  rw [if_pos (wanted_of ha hw), if_pos hE]
  exact wp_exits (fun a' w' ⟨σ', h', bl', hp, hf, hr'⟩ => q σ' h' bl' hp a' w' hf hr') (he a w ha hr)

theorem tail_ops {o : Oper} (h : ∀ j, (o :: rest)[j]? = ops[k + j]?) : ∀ j, rest[j]? = ops[k + 1 + j]? := fun j => by
  have := h (j + 1)
  rw [show k + 1 + j = k + (j + 1) by omega]
  simpa using this

theorem VD_still {o : Oper} {d : Nat} {v : Value} (hw : wantd ops σ o = some true) (hE : Nat.testBit E k = false) (hd : o.dst = some d) (hlt : Nat.blt d N = true) (hs : Still P N σ hS blS o v)
    (q : VD X P N ops hS blS E F (k + 1) rest ((d, v) :: σ) h bl) : VD X P N ops hS blS E F k (o :: rest) σ h bl := by
  intro a w ha hr hk ho
  have h0 : ops[k]? = some o := by simpa using (ho 0).symm
  show Gs _ _ _ _ _ (G _ _ _ _ _ (List.range' (k + 1) rest.length)) _ _
  refine ⟨hk, o, h0, ?_⟩
  rw [if_pos (wanted_of ha hw), if_neg (by rw [hE]; simp), hd]
  exact ⟨v, fun w' hw' => hs a w' ha hw', q _ _ (ha.put (Nat.le_of_ble_eq_true hlt) v) hr hk (tail_ops ho)⟩

theorem VD_skip {o : Oper} {d : Nat} (hw : wantd ops σ o = some false) (hd : o.dst = some d) (hlt : Nat.blt d N = true)
    (q : VD X P N ops hS blS E F (k + 1) rest ((d, undef) :: σ) h bl) : VD X P N ops hS blS E F k (o :: rest) σ h bl := by
  intro a w ha hr hk ho
  have h0 : ops[k]? = some o := by simpa using (ho 0).symm
  show Gs _ _ _ _ _ (G _ _ _ _ _ (List.range' (k + 1) rest.length)) _ _
  refine ⟨hk, o, h0, ?_⟩
  rw [if_neg (by rw [wanted_of ha hw]; simp), hd]
  exact q _ _ (ha.put (Nat.le_of_ble_eq_true hlt) _) hr hk (tail_ops ho)

theorem VD_skip0 {o : Oper} (hw : wantd ops σ o = some false) (hd : o.dst = none)
    (q : VD X P N ops hS blS E F (k + 1) rest σ h bl) : VD X P N ops hS blS E F k (o :: rest) σ h bl := by
  intro a w ha hr hk ho
  have h0 : ops[k]? = some o := by simpa using (ho 0).symm
  show Gs _ _ _ _ _ (G _ _ _ _ _ (List.range' (k + 1) rest.length)) _ _
  refine ⟨hk, o, h0, ?_⟩
  rw [if_neg (by rw [wanted_of ha hw]; simp), hd]
  exact q _ _ ha hr hk (tail_ops ho)

theorem VD_eff {o : Oper} {Post : List (Nat × Value) → Hp → Bl → Prop} (hw : wantd ops σ o = some true) (hE : Nat.testBit E k = true) (he : Eff X P N o σ h bl Post)
    (q : ∀ σ' h' bl', Post σ' h' bl' → (Sub hS h' ∧ SubB bl' blS) ∧ VD X P N ops hS blS E F (k + 1) rest σ' h' bl') : VD X P N ops hS blS E F k (o :: rest) σ h bl := by
  intro a w ha hr hk ho
  have h0 : ops[k]? = some o := by simpa using (ho 0).symm
  show Gs _ _ _ _ _ (G _ _ _ _ _ (List.range' (k + 1) rest.length)) _ _
  refine ⟨hk, o, h0, ?_⟩
  rw [if_pos (wanted_of ha hw), if_pos hE]
  exact wp_exits (fun a' w' ⟨σ', h', bl', hp, hf, hr'⟩ => (q σ' h' bl' hp).2 a' w' hf hr' (SubB.knows hr' (q σ' h' bl' hp).1.1 (q σ' h' bl' hp).1.2) (tail_ops ho)) (he a w ha hr)

/-- A bool in a slot is decided. -/
theorem VD_bool {l : List Oper} (t : Nat) {b : Bool} (ht : look σ t = some (.bool b)) (k1 : b = true → VD X P N ops hS blS E F k l ((t, .bool true) :: σ) h bl)
    (k2 : b = false → VD X P N ops hS blS E F k l ((t, .bool false) :: σ) h bl) : VD X P N ops hS blS E F k l σ h bl := by
  intro a w ha hr hk ho
  have key : ∀ c, b = c → Fr N ((t, .bool c) :: σ) a := by
    rintro c rfl
    refine ⟨ha.defers, ha.size, fun s u hs => ?_⟩
    rw [look_cons] at hs
    split at hs
    · rename_i e; subst e; cases hs; exact ha.at_ _ _ ht
    · exact ha.at_ _ _ hs
  cases hb : b with
  | true => exact k1 hb a w (key _ hb) hr hk ho
  | false => exact k2 hb a w (key _ hb) hr hk ho
end
end Go.Proofs.Ytdglignjoojimaa
