/- A region that draws its order, in which several operations act in any order: each may come first. No conditions. -/
import Derived.Test.YtdglignjoojimaaSx19
import Derived.Orders
set_option linter.unusedVariables false
set_option linter.unusedSimpArgs false
namespace Go.Proofs.Ytdglignjoojimaa

section
variable {P : Program} {ops : Array Oper} {S : World → Prop} {B : List Nat} {E M F : Nat} {Z : Act → World → Prop}

def Cm (S : World → Prop) (E F i : Nat) (w : World) : Prop := E.testBit i = true → F.testBit i = true → S w
/-- One operation: it acts, or it yields what S alone decides. -/
def Xs (P : Program) (ops : Array Oper) (S : World → Prop) (E M F : Nat) (i : Nat) (K : Act → World → Prop) (a : Act) (w : World) : Prop :=
  Cm S E F i w ∧ Dk S M i w ∧ ∃ o, ops[i]? = some o ∧
    if Region.wanted o (yielded ops a.tmps) then
      if E.testBit i then o.wp P a w K Bot
      else ∃ v, (∀ w', Dk S M i w' → (execOp a.eval o).run P w' = .ok (.value v) w') ∧ K (a.put o.dst v) w
    else K (a.put o.dst undef) w
/-- Some operations, one behind the other. -/
def Xl (P : Program) (ops : Array Oper) (S : World → Prop) (E M F : Nat) (Z : Act → World → Prop) : List Nat → Act → World → Prop
  | [], a, w => Z a w
  | i :: r, a, w => Xs P ops S E M F i (Xl P ops S E M F Z r) a w
def preOf (B : List Nat) (l : List Nat) (j : Nat) : List Nat := l.filter fun i => (B.getD j 0).testBit i
def minE (B : List Nat) (E : Nat) (l : List Nat) : List Nat := l.filter fun j => E.testBit j && l.all fun i => !(E.testBit i && (B.getD j 0).testBit i)
def restOf (B : List Nat) (l : List Nat) (j : Nat) : List Nat := l.filter fun i => !(Nat.beq i j || (B.getD j 0).testBit i)
def anyE (E : Nat) (l : List Nat) : Bool := l.any fun i => E.testBit i
/-- Whatever acts first: what must be ahead of it, then it, then the others. -/
def XB (P : Program) (ops : Array Oper) (S : World → Prop) (B : List Nat) (E M F : Nat) (Z : Act → World → Prop) : Nat → List Nat → Act → World → Prop
  | 0, l, a, w => anyE E l = false ∧ Xl P ops S E M F Z l a w
  | n + 1, l, a, w => if anyE E l then ∀ j ∈ minE B E l, Xl P ops S E M F (XB P ops S B E M F Z n (restOf B l j)) (preOf B l j ++ [j]) a w
    else Xl P ops S E M F Z l a w

theorem Xs.mono {i : Nat} {K K' : Act → World → Prop} {a : Act} {w : World} (h : Xs P ops S E M F i K a w) (hk : ∀ a w, K a w → K' a w) : Xs P ops S E M F i K' a w := by
  obtain ⟨hc, hd, o, ho, h⟩ := h
  refine ⟨hc, hd, o, ho, ?_⟩
  split
  · rename_i hw
    rw [if_pos hw] at h
    split
    · rename_i he; rw [if_pos he] at h; exact Oper.wp_mono hk h
    · rename_i he
      rw [if_neg he] at h
      obtain ⟨v, h1, h2⟩ := h
      exact ⟨v, h1, hk _ _ h2⟩
  · rename_i hw; rw [if_neg hw] at h; exact hk _ _ h
theorem Xl.mono {K K' : Act → World → Prop} (hk : ∀ a w, K a w → K' a w) : ∀ {l : List Nat} {a : Act} {w : World}, Xl P ops S E M F K l a w → Xl P ops S E M F K' l a w
  | [], _, _, h => hk _ _ h
  | _ :: _, _, _, h => Xs.mono h fun _ _ k => Xl.mono hk k
theorem Xl_app {K : Act → World → Prop} : ∀ {p q : List Nat} {a : Act} {w : World}, Xl P ops S E M F K (p ++ q) a w ↔ Xl P ops S E M F (Xl P ops S E M F K q) p a w
  | [], q, a, w => Iff.rfl
  | i :: p, q, a, w => ⟨fun h => Xs.mono h fun _ _ k => Xl_app.1 k, fun h => Xs.mono h fun _ _ k => Xl_app.2 k⟩

theorem Xs.cases {i : Nat} {K : Act → World → Prop} {a : Act} {w : World} {o : Oper} (ho : ops[i]? = some o) (h : Xs P ops S E M F i K a w) :
    (∃ v, SY P ops (Dk S M i) o v a ∧ (E.testBit i = false ∨ Region.wanted o (yielded ops a.tmps) = false) ∧ K (a.put o.dst v) w) ∨ (Region.wanted o (yielded ops a.tmps) = true ∧ E.testBit i = true ∧ o.wp P a w K Bot) := by
  obtain ⟨_, _, o', ho', h⟩ := h
  rw [ho] at ho'; cases ho'
  by_cases hw : Region.wanted o (yielded ops a.tmps) = true
  · rw [if_pos hw] at h
    by_cases he : E.testBit i = true
    · rw [if_pos he] at h; exact .inr ⟨hw, he, h⟩
    · rw [if_neg he] at h
      obtain ⟨v, h1, h2⟩ := h
      exact .inl ⟨v, .inl ⟨hw, h1⟩, .inl (by simpa using he), h2⟩
  · rw [if_neg hw] at h
    exact .inl ⟨undef, .inr ⟨by simpa using hw, rfl⟩, .inr (by simpa using hw), h⟩
theorem Xs.yield {i : Nat} {K : Act → World → Prop} {a : Act} {w : World} {o : Oper} {v : Value} (ho : ops[i]? = some o) (hc : Cm S E F i w) (hd : Dk S M i w) (hy : SY P ops (Dk S M i) o v a)
    (he : E.testBit i = false ∨ Region.wanted o (yielded ops a.tmps) = false) (kk : K (a.put o.dst v) w) : Xs P ops S E M F i K a w := by
  refine ⟨hc, hd, o, ho, ?_⟩
  rcases hy with ⟨hw, hv⟩ | ⟨hw, rfl⟩
  · rw [if_pos hw]
    rcases he with he | he
    · rw [if_neg (by rw [he]; simp)]; exact ⟨v, hv, kk⟩
    · rw [he] at hw; cases hw
  · rw [if_neg (by rw [hw]; simp)]; exact kk
theorem Xs.act {i : Nat} {K : Act → World → Prop} {a : Act} {w : World} {o : Oper} (ho : ops[i]? = some o) (hc : Cm S E F i w) (hd : Dk S M i w) (hw : Region.wanted o (yielded ops a.tmps) = true) (he : E.testBit i = true)
    (kk : o.wp P a w K Bot) : Xs P ops S E M F i K a w := by
  refine ⟨hc, hd, o, ho, ?_⟩
  rw [if_pos hw, if_pos he]; exact kk

/-- What yields comes ahead of what is unordered with it. -/
theorem Xs.swap {i j : Nat} {oi oj : Oper} {K : Act → World → Prop} {a : Act} {w : World} (hsel : Region.noSelect ops = true) (hi : ops[i]? = some oi) (hj : ops[j]? = some oj) (hap : oi.apart ops oj = true)
    (hEj : E.testBit j = false) (hji : E.testBit i = true → M.testBit j = true → F.testBit i = true)
    (h : Xs P ops S E M F i (Xs P ops S E M F j K) a w) : Xs P ops S E M F j (Xs P ops S E M F i K) a w := by
  obtain ⟨h1, h2, h3⟩ := Oper.apart_spec hap
  have hsi : ∀ cs b, oi.op ≠ .select cs b := fun cs b => Region.noSelect_spec hsel i oi cs b hi
  have hsj : ∀ cs b, oj.op ≠ .select cs b := fun cs b => Region.noSelect_spec hsel j oj cs b hj
  have h2' : ∀ d, oj.dst = some d → oi.dst ≠ some d := fun d hd hd' => h2 d hd' hd
  have toI : ∀ (D : World → Prop) (a : Act) (u v : Value), SY P ops D oi v (a.put oj.dst u) ↔ SY P ops D oi v a := fun D a u v =>
    ⟨fun k => k.same (execOp_put oi hsi a oj.dst u h3).symm (wanted_put oi a oj.dst u h3).symm, fun k => k.same (execOp_put oi hsi a oj.dst u h3) (wanted_put oi a oj.dst u h3)⟩
  have toJ : ∀ (D : World → Prop) (a : Act) (u v : Value), SY P ops D oj v (a.put oi.dst u) ↔ SY P ops D oj v a := fun D a u v =>
    ⟨fun k => k.same (execOp_put oj hsj a oi.dst u h1).symm (wanted_put oj a oi.dst u h1).symm, fun k => k.same (execOp_put oj hsj a oi.dst u h1) (wanted_put oj a oi.dst u h1)⟩
  have toD : ∀ (D : World → Prop) (o : Oper) (a : Act) (ds : List Deferred) (v : Value), SY P ops D o v { a with defers := ds } ↔ SY P ops D o v a := fun D o a ds v => ⟨fun k => k.same rfl rfl, fun k => k.same rfl rfl⟩
  have wI : ∀ (a : Act) (u : Value), Region.wanted oi (yielded ops (a.put oj.dst u).tmps) = Region.wanted oi (yielded ops a.tmps) := fun a u => wanted_put oi a oj.dst u h3
  have hci := h.1
  have hdi := h.2.1
  rcases h.cases hi with ⟨v, hy, hei, h⟩ | ⟨hw, he, h⟩
  · have hcj := h.1
    have hdj := h.2.1
    rcases h.cases hj with ⟨u, hy', hej, h'⟩ | ⟨_, he', _⟩
    · refine Xs.yield hj hcj hdj ((toJ _ a v u).1 hy') (.inl hEj) ?_
      refine Xs.yield hi hci hdi ((toI _ a u v).2 hy) (by rw [wI]; exact hei) ?_
      rw [← Act.put_comm a v u h2]; exact h'
    · rw [hEj] at he'; cases he'
  · obtain ⟨u0, w0, ds0, h0⟩ := wp_some h
    have key : ∀ u ds w', Xs P ops S E M F j K ({ a with defers := ds }.put oi.dst u) w' → ∃ v, SY P ops (Dk S M j) oj v a ∧ K (({ a with defers := ds }.put oi.dst u).put oj.dst v) w' := by
      intro u ds w' hk
      rcases hk.cases hj with ⟨v, hy, _, hk'⟩ | ⟨_, he', _⟩
      · exact ⟨v, (toD _ oj a ds v).1 ((toJ _ _ u v).1 hy), hk'⟩
      · rw [hEj] at he'; cases he'
    obtain ⟨v, hv, _⟩ := key u0 ds0 w0 h0
    have hdj : Dk S M j w := fun m => hci he (hji he m)
    refine Xs.yield hj (fun e _ => by rw [hEj] at e; cases e) hdj hv (.inl hEj) ?_
    refine Xs.act hi hci hdi (by rw [wI]; exact hw) he ?_
    refine wp_put hsi h3 h fun u ds w' hk => ?_
    obtain ⟨v', hv', hk'⟩ := key u ds w' hk
    have := SY.inj hdj hv hv'
    subst this
    rw [Act.put_comm _ v u h2']; exact hk'

/-- What must hold of two operations of which none is ahead of the other: one of them may come to the front of the other. -/
def PairOk (ops : Array Oper) (E M F : Nat) (i j : Nat) : Prop := ∃ oi oj, ops[i]? = some oi ∧ ops[j]? = some oj ∧ oi.apart ops oj = true ∧ (E.testBit i = true → M.testBit j = true → F.testBit i = true)

theorem Xl.pull {j : Nat} (hsel : Region.noSelect ops = true) (hEj : E.testBit j = false) {K : Act → World → Prop} : ∀ (p : List Nat) (a : Act) (w : World), (∀ i ∈ p, PairOk ops E M F i j) →
    Xl P ops S E M F (Xs P ops S E M F j K) p a w → Xs P ops S E M F j (Xl P ops S E M F K p) a w
  | [], a, w, _, h => h
  | i :: p, a, w, hp, h => by
    obtain ⟨oi, oj, hi, hj, hap, hm⟩ := hp i (by simp)
    exact Xs.swap hsel hi hj hap hEj hm (Xs.mono h fun a w k => Xl.pull hsel hEj p a w (fun i hi => hp i (by simp [hi])) k)

/-- Two continuations at once, where what yields is one. -/
theorem Xs.all {j : Nat} {oj : Oper} (hj : ops[j]? = some oj) (hEj : E.testBit j = false) {ι : Type} {I : ι → Prop} {K : ι → Act → World → Prop} {a : Act} {w : World} (x0 : ι) (h0 : I x0) (h : ∀ x, I x → Xs P ops S E M F j (K x) a w) :
    Xs P ops S E M F j (fun a w => ∀ x, I x → K x a w) a w := by
  have hx := h x0 h0
  have hc := hx.1
  have hd := hx.2.1
  rcases hx.cases hj with ⟨v, hy, hei, _⟩ | ⟨_, he, _⟩
  · refine Xs.yield hj hc hd hy hei fun x hx => ?_
    rcases (h x hx).cases hj with ⟨u, hy', _, hk⟩ | ⟨_, he, _⟩
    · have := SY.inj hd hy hy'
      subst this; exact hk
    · rw [hEj] at he; cases he
  · rw [hEj] at he; cases he

/-- The facts of a region. -/
structure RegOk (ops : Array Oper) (B : List Nat) (E M F : Nat) : Prop where
  sel : Region.noSelect ops = true
  edge : ∀ j oj, ops[j]? = some oj → ∀ e ∈ oj.after, Region.binds .any e = true → e.on < j
  from_ : ∀ j oj, ops[j]? = some oj → ∀ i, (B.getD j 0).testBit i = true → ∃ e ∈ oj.after, Region.binds .any e = true ∧ (e.on = i ∨ (B.getD e.on 0).testBit i = true)
  lt : ∀ j i, j < ops.size → (B.getD j 0).testBit i = true → i < j
  trans : ∀ j i k, j < ops.size → (B.getD j 0).testBit i = true → (B.getD i 0).testBit k = true → (B.getD j 0).testBit k = true
  pair : ∀ i j, i < ops.size → j < ops.size → i ≠ j → E.testBit j = false → (B.getD i 0).testBit j = false → (B.getD j 0).testBit i = false → PairOk ops E M F i j

theorem nbeq {i j : Nat} : Nat.beq i j = false ↔ i ≠ j := by
  constructor
  · intro h e; subst e; simp at h
  · intro h
    cases hb : Nat.beq i j with
    | false => rfl
    | true => exact absurd (Nat.eq_of_beq_eq_true hb) h
theorem mem_preOf {l : List Nat} {i j : Nat} : i ∈ preOf B l j ↔ i ∈ l ∧ (B.getD j 0).testBit i = true := by simp [preOf]
theorem mem_restOf {l : List Nat} {i j : Nat} : i ∈ restOf B l j ↔ i ∈ l ∧ i ≠ j ∧ (B.getD j 0).testBit i = false := by
  simp [restOf, nbeq]
theorem mem_minE {l : List Nat} {j : Nat} : j ∈ minE B E l ↔ j ∈ l ∧ E.testBit j = true ∧ ∀ i ∈ l, E.testBit i = true → (B.getD j 0).testBit i = false := by
  simp only [minE, List.mem_filter, Bool.and_eq_true, List.all_eq_true, Bool.not_eq_true', Bool.and_eq_false_iff]
  constructor
  · rintro ⟨h1, h2, h3⟩; exact ⟨h1, h2, fun i hi he => (h3 i hi).resolve_left (by rw [he]; simp)⟩
  · rintro ⟨h1, h2, h3⟩; exact ⟨h1, h2, fun i hi => by
      cases he : E.testBit i with
      | false => exact .inl rfl
      | true => exact .inr (h3 i hi he)⟩
theorem minE_some (R : RegOk ops B E M F) {l : List Nat} (hl : ∀ i ∈ l, i < ops.size) (h : anyE E l = true) : ∃ j, j ∈ minE B E l := by
  have key : ∀ n, ∀ j ∈ l, j < n → E.testBit j = true → ∃ j, j ∈ minE B E l := by
    intro n
    induction n with
    | zero => intro j _ h; omega
    | succ n ih =>
      intro j hj hn hE
      by_cases hm : ∀ i ∈ l, E.testBit i = true → (B.getD j 0).testBit i = false
      · exact ⟨j, mem_minE.2 ⟨hj, hE, hm⟩⟩
      · simp only [Classical.not_forall] at hm
        obtain ⟨i, hi, he, hb⟩ := hm
        have := R.lt j i (hl j hj) (by simpa using hb)
        exact ih i hi (by omega) he
  simp only [anyE, List.any_eq_true] at h
  obtain ⟨j, hj, hE⟩ := h
  exact key (j + 1) j hj (by omega) hE

theorem filter_ne_app {p q : List Nat} {j : Nat} (h : (p ++ j :: q).Nodup) : (p ++ j :: q).filter (fun i => !(Nat.beq i j)) = p ++ q := by
  have hn := List.nodup_append.1 h
  have h1 : p.filter (fun i => !(Nat.beq i j)) = p := List.filter_eq_self.2 fun x hx => by
    have : x ≠ j := fun e => hn.2.2 x hx j (by simp) e
    rw [nbeq.2 this]; rfl
  have h2 : q.filter (fun i => !(Nat.beq i j)) = q := List.filter_eq_self.2 fun x hx => by
    have : x ≠ j := fun e => (List.nodup_cons.1 hn.2.1).1 (e ▸ hx)
    rw [nbeq.2 this]; rfl
  rw [List.filter_append, List.filter_cons_of_neg (by simp), h1, h2]

/-- What yields, and waits for nothing, comes first. -/
theorem XB.pull (R : RegOk ops B E M F) {j : Nat} (hEj : E.testBit j = false) : ∀ (n : Nat) (l : List Nat) (a : Act) (w : World), (∀ i ∈ l, i < ops.size) → l.Nodup → l.Pairwise (· < ·) → j ∈ l → (∀ i ∈ l, (B.getD j 0).testBit i = false) →
    XB P ops S B E M F Z n l a w → Xs P ops S E M F j (XB P ops S B E M F Z n (l.filter fun i => !(Nat.beq i j))) a w := by
  have pure_ : ∀ (l : List Nat) (a : Act) (w : World), (∀ i ∈ l, i < ops.size) → l.Nodup → l.Pairwise (· < ·) → j ∈ l → (∀ i ∈ l, (B.getD j 0).testBit i = false) → ∀ (K : Act → World → Prop),
      Xl P ops S E M F K l a w → Xs P ops S E M F j (Xl P ops S E M F K (l.filter fun i => !(Nat.beq i j))) a w := by
    intro l a w hsz hnd hP hj hfree K h
    obtain ⟨p, q, rfl⟩ := List.append_of_mem hj
    rw [filter_ne_app hnd]
    have h' := Xl_app.1 h
    have h2 := Xl.pull R.sel hEj p a w (fun i hi => by
      have hij : i < j := (List.pairwise_append.1 hP).2.2 i hi j (by simp)
      refine R.pair i j (hsz i (by simp [hi])) (hsz j (by simp)) (by omega) hEj ?_ (hfree i (by simp [hi]))
      cases hb : (B.getD i 0).testBit j with
      | false => rfl
      | true => have := R.lt i j (hsz i (by simp [hi])) hb; omega) h'
    exact Xs.mono h2 fun a w k => Xl_app.2 k
  intro n
  induction n with
  | zero =>
    rintro l a w hsz hnd hP hj hfree ⟨h0, h⟩
    refine Xs.mono (pure_ l a w hsz hnd hP hj hfree Z h) fun a w k => ⟨?_, k⟩
    simp only [anyE, List.any_eq_false, List.mem_filter] at h0 ⊢
    exact fun x hx => h0 x hx.1
  | succ n ih =>
    intro l a w hsz hnd hP hj hfree h
    unfold XB at h
    by_cases hany : anyE E l = true
    · rw [if_pos hany] at h
      have hany' : anyE E (l.filter fun i => !(Nat.beq i j)) = true := by
        simp only [anyE, List.any_eq_true, List.mem_filter] at hany ⊢
        obtain ⟨x, hx, he⟩ := hany
        exact ⟨x, ⟨hx, by have : x ≠ j := (fun e => by rw [e, hEj] at he; cases he); rw [nbeq.2 this]; rfl⟩, he⟩
      have hmin : ∀ x, x ∈ minE B E (l.filter fun i => !(Nat.beq i j)) ↔ x ∈ minE B E l := by
        intro x
        rw [mem_minE, mem_minE]
        simp only [List.mem_filter, Bool.not_eq_true', nbeq]
        constructor
        · rintro ⟨⟨h1, h1'⟩, h2, h3⟩
          refine ⟨h1, h2, fun i hi he => h3 i ⟨hi, ?_⟩ he⟩
          rintro rfl; rw [hEj] at he; cases he
        · rintro ⟨h1, h2, h3⟩
          exact ⟨⟨h1, by rintro rfl; rw [hEj] at h2; cases h2⟩, h2, fun i hi he => h3 i hi.1 he⟩
      obtain ⟨oj, hoj⟩ : ∃ o, ops[j]? = some o := ⟨_, Array.getElem?_eq_getElem (hsz j hj)⟩
      obtain ⟨x0, hx0⟩ := minE_some R hsz hany
      have := Xs.all (P := P) (S := S) (M := M) (F := F) hoj hEj (I := fun x => x ∈ minE B E l) (K := fun x => Xl P ops S E M F (XB P ops S B E M F Z n (restOf B (l.filter fun i => !(Nat.beq i j)) x)) (preOf B (l.filter fun i => !(Nat.beq i j)) x ++ [x])) (a := a) (w := w) x0 hx0 (fun x hx => ?_)
      · refine Xs.mono this fun a w k => ?_
        show XB P ops S B E M F Z (n + 1) _ a w
        unfold XB
        rw [if_pos hany']
        exact fun x hx => k x ((hmin x).1 hx)
      · have hk := h x hx
        obtain ⟨hxl, hxE, hxm⟩ := mem_minE.1 hx
        have hxj : x ≠ j := by rintro rfl; rw [hEj] at hxE; cases hxE
        by_cases hpre : (B.getD x 0).testBit j = true
        · -- it is ahead of what acts
          have hrest : restOf B (l.filter fun i => !(Nat.beq i j)) x = restOf B l x := by
            unfold restOf
            rw [List.filter_filter]
            refine List.filter_congr fun i _ => ?_
            by_cases hij : i = j
            · subst hij; simp; exact fun _ => by simpa using hpre
            · have : Nat.beq i j = false := nbeq.2 hij
              rw [this]; simp
          have hprel : preOf B (l.filter fun i => !(Nat.beq i j)) x = (preOf B l x).filter fun i => !(Nat.beq i j) := by
            unfold preOf
            rw [List.filter_filter, List.filter_filter]
            exact List.filter_congr fun i _ => Bool.and_comm _ _
          rw [hrest, hprel]
          have h1 := Xl_app.1 hk
          have h2 := pure_ (preOf B l x) a w (fun i hi => hsz i (mem_preOf.1 hi).1) (hnd.filter _) (hP.filter _) (mem_preOf.2 ⟨hj, hpre⟩) (fun i hi => hfree i (mem_preOf.1 hi).1) _ h1
          exact Xs.mono h2 fun a w k => Xl_app.2 k
        · -- it comes behind
          have hpre : (B.getD x 0).testBit j = false := by simpa using hpre
          have hprel : preOf B (l.filter fun i => !(Nat.beq i j)) x = preOf B l x := by
            unfold preOf
            rw [List.filter_filter]
            refine List.filter_congr fun i _ => ?_
            by_cases hij : i = j
            · subst hij
              simp only [hpre, Bool.false_and]
            · have : Nat.beq i j = false := nbeq.2 hij
              rw [this]; simp
          have hrest : restOf B (l.filter fun i => !(Nat.beq i j)) x = (restOf B l x).filter fun i => !(Nat.beq i j) := by
            unfold restOf
            rw [List.filter_filter, List.filter_filter]
            exact List.filter_congr fun i _ => Bool.and_comm _ _
          rw [hprel, hrest]
          have h1 : Xl P ops S E M F (Xs P ops S E M F j (XB P ops S B E M F Z n ((restOf B l x).filter fun i => !(Nat.beq i j)))) (preOf B l x ++ [x]) a w :=
            Xl.mono (fun a w k => ih (restOf B l x) a w (fun i hi => hsz i (mem_restOf.1 hi).1) (hnd.filter _) (hP.filter _) (mem_restOf.2 ⟨hj, fun e => hxj e.symm, hpre⟩) (fun i hi => hfree i (mem_restOf.1 hi).1) k) hk
          refine Xl.pull R.sel hEj _ a w (fun i hi => ?_) h1
          rcases List.mem_append.1 hi with hi | hi
          · obtain ⟨hil, hib⟩ := mem_preOf.1 hi
            refine R.pair i j (hsz i hil) (hsz j hj) (by rintro rfl; rw [hpre] at hib; cases hib) hEj ?_ (hfree i hil)
            cases hb : (B.getD i 0).testBit j with
            | false => rfl
            | true => have := R.trans x i j (hsz x hxl) hib hb; rw [hpre] at this; cases this
          · obtain rfl := List.mem_singleton.1 hi
            exact R.pair i j (hsz i hxl) (hsz j hj) hxj hEj hpre (hfree i hxl)
    · rw [if_neg hany] at h
      have hany' : ¬ anyE E (l.filter fun i => !(Nat.beq i j)) = true := by
        simp only [anyE, List.any_eq_true, List.mem_filter, not_exists, not_and] at hany ⊢
        exact fun x hx => hany x hx.1
      refine Xs.mono (pure_ l a w hsz hnd hP hj hfree Z h) fun a w k => ?_
      show XB P ops S B E M F Z (n + 1) _ a w
      unfold XB
      rw [if_neg hany']; exact k

theorem XB.first (R : RegOk ops B E M F) {j : Nat} (hEj : E.testBit j = true) {n : Nat} {l : List Nat} {a : Act} {w : World} (hj : j ∈ l) (hfree : ∀ i ∈ l, (B.getD j 0).testBit i = false)
    (h : XB P ops S B E M F Z n l a w) : ∃ m, Xs P ops S E M F j (XB P ops S B E M F Z m (l.filter fun i => !(Nat.beq i j))) a w := by
  cases n with
  | zero =>
    have := h.1
    simp only [anyE, List.any_eq_false] at this
    exact absurd hEj (this j hj)
  | succ n =>
    unfold XB at h
    rw [if_pos (by simp only [anyE, List.any_eq_true]; exact ⟨j, hj, hEj⟩)] at h
    have hk := h j (mem_minE.2 ⟨hj, hEj, fun i hi _ => hfree i hi⟩)
    have hp : preOf B l j = [] := List.filter_eq_nil_iff.2 fun i hi => by rw [hfree i hi]; simp
    have hr : restOf B l j = l.filter fun i => !(Nat.beq i j) := List.filter_congr fun i hi => by rw [hfree i hi]; simp
    rw [hp, hr] at hk
    exact ⟨n, hk⟩

theorem wpAny_of_XB {Q : Exit → Act → World → Prop} (R : RegOk ops B E M F) : ∀ (n : Nat) (L : List Nat) (listed : Array Bool) (a : Act) (w : World), L.length = n →
    (∀ i, i ∈ L ↔ i < ops.size ∧ listed.getD i true = false) → L.Pairwise (· < ·) → listed.size = ops.size →
    (∀ x y, x < ops.size → listed.getD x true = true → (B.getD x 0).testBit y = true → listed.getD y true = true) → (∃ m, XB P ops S B E M F (Q .normal) m L a w) → wpAny P .any ops Q n listed a w := by
  intro n
  induction n with
  | zero =>
    rintro L listed a w hn hL _ _ _ ⟨m, hG⟩
    have : L = [] := List.eq_nil_of_length_eq_zero hn
    subst this
    refine ⟨List.eq_nil_iff_forall_not_mem.2 fun j hj => ?_, ?_⟩
    · obtain ⟨h0, o, ho, _⟩ := mem_ready.1 hj
      have := (hL j).2 ⟨(Array.getElem?_eq_some_iff.1 ho).1, h0⟩
      cases this
    · cases m with
      | zero => exact hG.2
      | succ m => exact hG
  | succ n ih =>
    rintro L listed a w hn hL hP hsz hcl ⟨m, hG⟩
    have hLsz : ∀ i ∈ L, i < ops.size := fun i hi => ((hL i).1 hi).1
    refine ⟨fun hr => ?_, fun j hj => ?_⟩
    · cases L with
      | nil => cases hn
      | cons i0 L =>
        obtain ⟨h1, h2⟩ := (hL i0).1 (by simp)
        obtain ⟨o, ho⟩ : ∃ o, ops[i0]? = some o := ⟨_, Array.getElem?_eq_getElem h1⟩
        have : i0 ∈ Region.ready .any ops listed := by
          refine mem_ready.2 ⟨h2, o, ho, fun e he hb0 => ?_⟩
          have hlt := R.edge i0 o ho e he hb0
          cases hb : listed.getD e.on true with
          | true =>
            have : e.on < listed.size := by omega
            simpa [this] using hb
          | false =>
            have hm := (hL e.on).2 ⟨by omega, hb⟩
            rcases List.mem_cons.1 hm with he' | hm
            · omega
            · have := List.rel_of_pairwise_cons hP hm
              omega
        rw [hr] at this; cases this
    · obtain ⟨h0, oj, hoj, hall⟩ := mem_ready.1 hj
      have hjlt : j < ops.size := (Array.getElem?_eq_some_iff.1 hoj).1
      have hjL : j ∈ L := (hL j).2 ⟨hjlt, h0⟩
      have hah : ∀ i, (B.getD j 0).testBit i = true → listed.getD i true = true := by
        intro i hi
        obtain ⟨e, he, hb, hi⟩ := R.from_ j oj hoj i hi
        have hl := hall e he hb
        have hlt := R.edge j oj hoj e he hb
        have hl' : listed.getD e.on true = true := by
          have : e.on < listed.size := by omega
          simpa [this] using hl
        rcases hi with rfl | hi
        · exact hl'
        · exact hcl e.on i (by omega) hl' hi
      have hfree : ∀ i ∈ L, (B.getD j 0).testBit i = false := fun i hi => by
        cases hb : (B.getD j 0).testBit i with
        | false => rfl
        | true => have h1 := hah i hb; have h2 := ((hL i).1 hi).2; rw [h1] at h2; cases h2
      have hnd : L.Nodup := hP.imp fun h => by omega
      have hfront : ∃ m, Xs P ops S E M F j (XB P ops S B E M F (Q .normal) m (L.filter fun i => !(Nat.beq i j))) a w := by
        cases hE : E.testBit j with
        | false => exact ⟨m, XB.pull R hE m L a w hLsz hnd hP hjL hfree hG⟩
        | true => exact XB.first R hE hjL hfree hG
      obtain ⟨m', hfront⟩ := hfront
      have hjs : j < listed.size := by omega
      have hlen : (L.filter fun i => !(Nat.beq i j)).length = n := by
        obtain ⟨p, q, rfl⟩ := List.append_of_mem hjL
        rw [filter_ne_app hnd]
        simp at hn ⊢; omega
      have ih' : ∀ a w, XB P ops S B E M F (Q .normal) m' (L.filter fun i => !(Nat.beq i j)) a w → wpAny P .any ops Q n (listed.setIfInBounds j true) a w := by
        intro a w h
        refine ih (L.filter fun i => !(Nat.beq i j)) (listed.setIfInBounds j true) a w hlen (fun i => ?_) (hP.filter _) (by simpa using hsz) (fun x y hx hlx hb => ?_) ⟨m', h⟩
        · rw [getD_mark hjs]
          by_cases hij : j = i
          · subst hij
            simp
          · rw [if_neg hij, ← hL i]
            have : Nat.beq i j = false := nbeq.2 fun e => hij e.symm
            simp [this]
        · rw [getD_mark hjs] at hlx ⊢
          split
          · rfl
          · rename_i hne
            split at hlx
            · rename_i hjx; subst hjx; exact hah y hb
            · exact hcl x y hx hlx hb
      have hst : Xs P ops S E M F j (wpAny P .any ops Q n (listed.setIfInBounds j true)) a w := Xs.mono hfront ih'
      unfold wpOp
      simp only [hoj]
      rcases hst.cases hoj with ⟨v, hy, _, hk⟩ | ⟨hw, _, hk⟩
      · rcases hy with ⟨hw, hv⟩ | ⟨hw, rfl⟩
        · rw [if_pos hw]
          left
          rw [Oper.wp, hv w hst.2.1, Oper.upon_value]; exact hk
        · rw [if_neg (by rw [hw]; simp)]; exact hk
      · rw [if_pos hw]
        left
        unfold Oper.wp at hk ⊢
        generalize (execOp a.eval oj).run P w = r at hk
        cases r with
        | ok nx w' =>
          cases nx <;> simp only [Oper.upon] at hk ⊢
          case value u => exact hk
          case skip => exact hk
          case defer d => exact hk
          case enter f args =>
            refine Calls.mono hk fun e w'' he => ?_
            cases e with
            | returned u => exact he
            | panicked c => exact he.elim
            | outgrown => exact absurd he not_letsOut
          case row row args => exact hk
        | halt x w' => cases x <;> simp only [Oper.upon] at hk ⊢; exact hk.elim

/-! ### The check -/
def bitsIn (a b : Nat) : Bool := Nat.beq (a ||| b) b
theorem bitsIn_spec {a b i : Nat} (h : bitsIn a b = true) (ha : a.testBit i = true) : b.testBit i = true := by
  have e := Nat.eq_of_beq_eq_true h
  rw [← e, Nat.testBit_or, ha]; rfl
def pairB (ops : Array Oper) (E M F i j : Nat) (oi oj : Oper) : Bool :=
  (E.testBit i && E.testBit j) || (oi.apart ops oj && (!(E.testBit i && M.testBit j) || F.testBit i) && (!(E.testBit j && M.testBit i) || F.testBit j))
def chkOneX (ops : Array Oper) (B : List Nat) (E M F : Nat) (j : Nat) (oj : Oper) : Bool :=
  oj.after.toList.all (fun e => !(Region.binds .any e) || Nat.blt e.on j) && bitsIn (B.getD j 0) (ahead B oj.after.toList) && Nat.blt (B.getD j 0) (2 ^ j) &&
  (List.range j).all fun i => match ops[i]? with
    | some oi => if (B.getD j 0).testBit i then bitsIn (B.getD i 0) (B.getD j 0) else pairB ops E M F i j oi oj
    | none => false
def chkFromX (ops : Array Oper) (B : List Nat) (E M F : Nat) : Nat → List Oper → Bool
  | _, [] => true
  | j, o :: r => chkOneX ops B E M F j o && chkFromX ops B E M F (j + 1) r
def chkX (ops : Array Oper) (B : List Nat) (E M F : Nat) : Bool := Region.noSelect ops && chkFromX ops B E M F 0 ops.toList
theorem chkFromX_at {ops : Array Oper} {B : List Nat} {E M F : Nat} (l : List Oper) : ∀ (k : Nat), chkFromX ops B E M F k l = true → ∀ (i : Nat) (o : Oper), l[i]? = some o → chkOneX ops B E M F (k + i) o = true := by
  induction l with
  | nil => intro k _ i o ho; simp at ho
  | cons x r ih =>
    intro k h i o ho
    rw [chkFromX, Bool.and_eq_true] at h
    cases i with
    | zero =>
      have : x = o := by simpa using ho
      subst this
      exact h.1
    | succ i =>
      have := ih (k + 1) h.2 i o (by simpa using ho)
      rw [show k + (i + 1) = k + 1 + i by omega]; exact this
theorem chkX_spec (h : chkX ops B E M F = true) : RegOk ops B E M F := by
  simp only [chkX, Bool.and_eq_true] at h
  have one : ∀ j oj, ops[j]? = some oj → (∀ e ∈ oj.after, Region.binds .any e = true → e.on < j) ∧ bitsIn (B.getD j 0) (ahead B oj.after.toList) = true ∧ B.getD j 0 < 2 ^ j ∧
      ∀ i, i < j → ∃ oi, ops[i]? = some oi ∧ if (B.getD j 0).testBit i then bitsIn (B.getD i 0) (B.getD j 0) = true else pairB ops E M F i j oi oj = true := by
    intro j oj hj
    have := chkFromX_at ops.toList 0 h.2 j oj (by simpa using hj)
    simp only [chkOneX, Nat.zero_add, Bool.and_eq_true, List.all_eq_true] at this
    obtain ⟨⟨⟨h1, h2⟩, h3⟩, h4⟩ := this
    refine ⟨fun e he hb => ?_, h2, by have := Nat.le_of_ble_eq_true h3; omega, fun i hi => ?_⟩
    · have := h1 e (by simpa using he)
      simp [Nat.blt, hb] at this
      omega
    · have := h4 i (List.mem_range.2 hi)
      split at this
      · rename_i oi hoi
        refine ⟨oi, hoi, ?_⟩
        split
        · rename_i hb; rw [if_pos hb] at this; exact this
        · rename_i hb; rw [if_neg hb] at this; exact this
      · cases this
  have some_ : ∀ j, j < ops.size → ∃ oj, ops[j]? = some oj := fun j hj => ⟨_, Array.getElem?_eq_getElem hj⟩
  have hlt : ∀ j i, j < ops.size → (B.getD j 0).testBit i = true → i < j := by
    intro j i hj hb
    obtain ⟨oj, hoj⟩ := some_ j hj
    have := (one j oj hoj).2.2.1
    rcases Nat.lt_or_ge i j with h' | h'
    · exact h'
    · have h2 : B.getD j 0 < 2 ^ i := Nat.lt_of_lt_of_le this (Nat.pow_le_pow_right (by omega) h')
      rw [Nat.testBit_lt_two_pow h2] at hb; cases hb
  refine ⟨h.1, fun j oj hj => (one j oj hj).1, fun j oj hj i hi => ?_, hlt, fun j i k hj h1 h2 => ?_, fun i j hi hj hne hE h1 h2 => ?_⟩
  · have := bitsIn_spec (one j oj hj).2.1 hi
    rcases ahead_bit this with h | ⟨e, he, hb, h⟩
    · simp at h
    · exact ⟨e, by simpa using he, hb, h⟩
  · obtain ⟨oj, hoj⟩ := some_ j hj
    obtain ⟨oi, _, hb⟩ := (one j oj hoj).2.2.2 i (hlt j i hj h1)
    rw [if_pos h1] at hb
    exact bitsIn_spec hb h2
  · obtain ⟨oi, hoi⟩ := some_ i hi
    obtain ⟨oj, hoj⟩ := some_ j hj
    rcases Nat.lt_or_ge i j with hij | hij
    · obtain ⟨oi', hoi', hb⟩ := (one j oj hoj).2.2.2 i hij
      rw [hoi] at hoi'; cases hoi'
      rw [if_neg (by rw [h2]; simp)] at hb
      simp only [pairB, hE, Bool.and_false, Bool.false_or, Bool.false_and, Bool.not_false, Bool.true_or, Bool.and_true, Bool.and_eq_true] at hb
      refine ⟨oi, oj, hoi, hoj, hb.1, fun a b => ?_⟩
      have := hb.2
      rw [a, b] at this
      simpa using this
    · obtain ⟨oj', hoj', hb⟩ := (one i oi hoi).2.2.2 j (by omega)
      rw [hoj] at hoj'; cases hoj'
      rw [if_neg (by rw [h1]; simp)] at hb
      simp only [pairB, hE, Bool.false_and, Bool.false_or, Bool.not_false, Bool.true_or, Bool.and_true, Bool.and_eq_true] at hb
      refine ⟨oi, oj, hoi, hoj, apart_symm hb.1, fun a b => ?_⟩
      have := hb.2
      rw [a, b] at this
      simpa using this

theorem wp_drawX {Q : Exit → Act → World → Prop} {id n : Nat} {a : Act} {w : World} (hm : P.follows .mixedOrders = true) (hchk : chkX ops B E M F = true)
    (h : XB P ops S B E M F (Q .normal) n (List.range ops.size) a { w with drawn := w.drawn + 1 }) : (Code.region id ops true).wp P Q a w := by
  refine wp_region_any hm (wpAny_of_XB (chkX_spec hchk) ops.size (List.range ops.size) _ a _ (by simp) (fun i => ?_) ?_ (by simp) (fun x y hx hl _ => ?_) ⟨n, h⟩)
  · simp only [List.mem_range]
    constructor
    · intro hi; exact ⟨hi, by simp [hi]⟩
    · exact fun h => h.1
  · exact List.pairwise_lt_range
  · simp [hx] at hl
end

/-! ### The judgements -/
/-- What is there still: 'on' tells whether S is known to hold. -/
def VB (X : Cx) (P : Program) (N : Nat) (ops : Array Oper) (hS : Hp) (blS : Bl) (B : List Nat) (E M F : Nat) (Z : Act → World → Prop) (on : Bool) (n : Nat) (l : List Nat) (σ : List (Nat × Value)) (h : Hp) (bl : Bl) : Prop :=
  ∀ a w, Fr N σ a → Rel X h bl w → (on = true → Knows hS blS w) → XB P ops (Knows hS blS) B E M F Z n l a w
/-- Some operations in a row, then what is told of K. -/
def VX (X : Cx) (P : Program) (N : Nat) (ops : Array Oper) (hS : Hp) (blS : Bl) (E M F : Nat) (K : Act → World → Prop) (on : Bool) (l : List Nat) (σ : List (Nat × Value)) (h : Hp) (bl : Bl) : Prop :=
  ∀ a w, Fr N σ a → Rel X h bl w → (on = true → Knows hS blS w) → Xl P ops (Knows hS blS) E M F K l a w

section
variable {X : Cx} {P : Program} {N : Nat} {ops : Array Oper} {hS h : Hp} {blS bl : Bl} {B : List Nat} {E M F n i : Nat} {Z K : Act → World → Prop} {on : Bool} {l rest : List Nat} {Q : Exit → Act → World → Prop} {σ : List (Nat × Value)}

theorem V_drawX {id : Nat} {lo : List Oper} (hS : Hp) (blS : Bl) (E M F n : Nat) (hm : P.follows .mixedOrders = true) (hc : chkX lo.toArray (clos lo) E M F = true) (h1 : Sub hS h) (h2 : SubB bl blS) (l : List Nat) (hl : List.range lo.length = l)
    (kk : VB X P N lo.toArray hS blS (clos lo) E M F (Q .normal) true n l σ h bl) : V X P N Q (.region id lo.toArray true) σ h bl := by
  intro a w ha hr
  refine wp_drawX (S := Knows hS blS) (n := n) hm hc ?_
  have hr' := hr.drew (w.drawn + 1)
  have := kk a _ ha hr' (fun _ => SubB.knows hr' h1 h2)
  rw [show lo.toArray.size = lo.length by simp, hl]
  exact this
/-- Nothing more acts. -/
theorem VB_end (he : anyE E l = false) (k : VX X P N ops hS blS E M F Z on l σ h bl) : VB X P N ops hS blS B E M F Z on n l σ h bl := by
  intro a w ha hr hk
  have := k a w ha hr hk
  cases n with
  | zero => exact ⟨he, this⟩
  | succ n => show XB _ _ _ _ _ _ _ _ (n + 1) l a w; unfold XB; rw [if_neg (by rw [he]; simp)]; exact this
/-- Each that may act first. -/
theorem VB_pick (js : List Nat) (he : anyE E l = true) (hj : minE B E l = js) (k : ∀ j ∈ js, VX X P N ops hS blS E M F (XB P ops (Knows hS blS) B E M F Z n (restOf B l j)) on (preOf B l j ++ [j]) σ h bl) : VB X P N ops hS blS B E M F Z on (n + 1) l σ h bl := by
  intro a w ha hr hk
  show XB _ _ _ _ _ _ _ _ (n + 1) l a w
  unfold XB
  rw [if_pos he, hj]
  exact fun j hj => k j hj a w ha hr hk
theorem VB_pick1 {j : Nat} {p r : List Nat} (he : anyE E l = true) (hj : minE B E l = [j]) (hp : preOf B l j ++ [j] = p) (hr : restOf B l j = r) (k : VX X P N ops hS blS E M F (XB P ops (Knows hS blS) B E M F Z n r) on p σ h bl) :
    VB X P N ops hS blS B E M F Z on (n + 1) l σ h bl :=
  VB_pick [j] he hj fun x hx => by obtain rfl := List.mem_singleton.1 hx; rw [hp, hr]; exact k
theorem VB_pick2 {j1 j2 : Nat} {p1 r1 p2 r2 : List Nat} (he : anyE E l = true) (hj : minE B E l = [j1, j2]) (hp1 : preOf B l j1 ++ [j1] = p1) (hr1 : restOf B l j1 = r1) (hp2 : preOf B l j2 ++ [j2] = p2) (hr2 : restOf B l j2 = r2)
    (k1 : VX X P N ops hS blS E M F (XB P ops (Knows hS blS) B E M F Z n r1) on p1 σ h bl) (k2 : VX X P N ops hS blS E M F (XB P ops (Knows hS blS) B E M F Z n r2) on p2 σ h bl) :
    VB X P N ops hS blS B E M F Z on (n + 1) l σ h bl :=
  VB_pick [j1, j2] he hj fun x hx => by
    rcases List.mem_cons.1 hx with rfl | hx
    · rw [hp1, hr1]; exact k1
    · obtain rfl := List.mem_singleton.1 hx; rw [hp2, hr2]; exact k2
theorem VB_pick3 {j1 j2 j3 : Nat} {p1 r1 p2 r2 p3 r3 : List Nat} (he : anyE E l = true) (hj : minE B E l = [j1, j2, j3]) (hp1 : preOf B l j1 ++ [j1] = p1) (hr1 : restOf B l j1 = r1) (hp2 : preOf B l j2 ++ [j2] = p2) (hr2 : restOf B l j2 = r2) (hp3 : preOf B l j3 ++ [j3] = p3) (hr3 : restOf B l j3 = r3)
    (k1 : VX X P N ops hS blS E M F (XB P ops (Knows hS blS) B E M F Z n r1) on p1 σ h bl) (k2 : VX X P N ops hS blS E M F (XB P ops (Knows hS blS) B E M F Z n r2) on p2 σ h bl)
    (k3 : VX X P N ops hS blS E M F (XB P ops (Knows hS blS) B E M F Z n r3) on p3 σ h bl) :
    VB X P N ops hS blS B E M F Z on (n + 1) l σ h bl :=
  VB_pick [j1, j2, j3] he hj fun x hx => by
    rcases List.mem_cons.1 hx with rfl | hx
    · rw [hp1, hr1]; exact k1
    · rcases List.mem_cons.1 hx with rfl | hx
      · rw [hp2, hr2]; exact k2
      · obtain rfl := List.mem_singleton.1 hx; rw [hp3, hr3]; exact k3
theorem VX_nil (q : VQ X N Q .normal σ h bl) : VX X P N ops hS blS E M F (Q .normal) on [] σ h bl := fun a w ha hr _ => q a w ha hr
/-- Behind what acted. -/
theorem VX_more (q : VB X P N ops hS blS B E M F Z on n l σ h bl) : VX X P N ops hS blS E M F (XB P ops (Knows hS blS) B E M F Z n l) on [] σ h bl := fun a w ha hr hk => q a w ha hr hk
/-- A load. -/
theorem VX_still {o : Oper} {d : Nat} {v : Value} (ho : ops[i]? = some o) (hw : wantd ops σ o = some true) (hE : Nat.testBit E i = false) (hM : Nat.testBit M i = true) (hd : o.dst = some d) (hlt : Nat.blt d N = true) (hs : Still P N σ hS blS o v)
    (q : VX X P N ops hS blS E M F K true rest ((d, v) :: σ) h bl) : VX X P N ops hS blS E M F K true (i :: rest) σ h bl := by
  intro a w ha hr hk
  show Xs _ _ _ _ _ _ _ (Xl _ _ _ _ _ _ _ rest) _ _
  refine ⟨fun e _ => (by rw [hE] at e; cases e), fun _ => hk rfl, o, ho, ?_⟩
  rw [if_pos (wanted_of ha hw), if_neg (by rw [hE]; simp), hd]
  exact ⟨v, fun w' hw' => hs a w' ha (hw' hM), q _ _ (ha.put (Nat.le_of_ble_eq_true hlt) v) hr (fun _ => hk rfl)⟩
/-- What knows nothing of memory. -/
theorem VX_pure {o : Oper} {d : Nat} {v : Value} (ho : ops[i]? = some o) (hw : wantd ops σ o = some true) (hE : Nat.testBit E i = false) (hM : Nat.testBit M i = false) (hd : o.dst = some d) (hlt : Nat.blt d N = true) (hs : Still P N σ (fun _ => none) [] o v)
    (q : VX X P N ops hS blS E M F K on rest ((d, v) :: σ) h bl) : VX X P N ops hS blS E M F K on (i :: rest) σ h bl := by
  intro a w ha hr hk
  show Xs _ _ _ _ _ _ _ (Xl _ _ _ _ _ _ _ rest) _ _
  refine ⟨fun e _ => (by rw [hE] at e; cases e), fun e => (by rw [hM] at e; cases e), o, ho, ?_⟩
  rw [if_pos (wanted_of ha hw), if_neg (by rw [hE]; simp), hd]
  exact ⟨v, fun w' _ => hs a w' ha ⟨fun b o h => (by cases h), fun p hp => (by simp at hp)⟩, q _ _ (ha.put (Nat.le_of_ble_eq_true hlt) v) hr hk⟩
theorem VX_skip {o : Oper} {d : Nat} (ho : ops[i]? = some o) (hw : wantd ops σ o = some false) (hon : (on || !(Nat.testBit E i && Nat.testBit F i || Nat.testBit M i)) = true) (hd : o.dst = some d) (hlt : Nat.blt d N = true)
    (q : VX X P N ops hS blS E M F K on rest ((d, undef) :: σ) h bl) : VX X P N ops hS blS E M F K on (i :: rest) σ h bl := by
  intro a w ha hr hk
  show Xs _ _ _ _ _ _ _ (Xl _ _ _ _ _ _ _ rest) _ _
  refine ⟨fun e f => hk (by rw [e, f] at hon; simpa using hon), fun e => hk (by rw [e] at hon; simpa using hon), o, ho, ?_⟩
  rw [if_neg (by rw [wanted_of ha hw]; simp), hd]
  exact q _ _ (ha.put (Nat.le_of_ble_eq_true hlt) _) hr hk
theorem VX_skip0 {o : Oper} (ho : ops[i]? = some o) (hw : wantd ops σ o = some false) (hon : (on || !(Nat.testBit E i && Nat.testBit F i || Nat.testBit M i)) = true) (hd : o.dst = none)
    (q : VX X P N ops hS blS E M F K on rest σ h bl) : VX X P N ops hS blS E M F K on (i :: rest) σ h bl := by
  intro a w ha hr hk
  show Xs _ _ _ _ _ _ _ (Xl _ _ _ _ _ _ _ rest) _ _
  refine ⟨fun e f => hk (by rw [e, f] at hon; simpa using hon), fun e => hk (by rw [e] at hon; simpa using hon), o, ho, ?_⟩
  rw [if_neg (by rw [wanted_of ha hw]; simp), hd]
  exact q _ _ ha hr hk
/-- It acts, and S holds still. -/
theorem VX_eff {o : Oper} {Post : List (Nat × Value) → Hp → Bl → Prop} (ho : ops[i]? = some o) (hw : wantd ops σ o = some true) (hE : Nat.testBit E i = true) (hM : Nat.testBit M i = false) (hon : (on || !(Nat.testBit F i)) = true) (he : Eff X P N o σ h bl Post)
    (q : ∀ σ' h' bl', Post σ' h' bl' → (Sub hS h' ∧ SubB bl' blS) ∧ VX X P N ops hS blS E M F K true rest σ' h' bl') : VX X P N ops hS blS E M F K on (i :: rest) σ h bl := by
  intro a w ha hr hk
  show Xs _ _ _ _ _ _ _ (Xl _ _ _ _ _ _ _ rest) _ _
  refine ⟨fun _ f => hk (by rw [f] at hon; simpa using hon), fun e => (by rw [hM] at e; cases e), o, ho, ?_⟩
  rw [if_pos (wanted_of ha hw), if_pos hE]
  exact wp_exits (fun a' w' ⟨σ', h', bl', hp, hf, hr'⟩ => (q σ' h' bl' hp).2 a' w' hf hr' (fun _ => SubB.knows hr' (q σ' h' bl' hp).1.1 (q σ' h' bl' hp).1.2)) (he a w ha hr)
/-- It acts, and S need not hold any more. -/
theorem VX_effT {o : Oper} {Post : List (Nat × Value) → Hp → Bl → Prop} (ho : ops[i]? = some o) (hw : wantd ops σ o = some true) (hE : Nat.testBit E i = true) (hM : Nat.testBit M i = false) (hon : (on || !(Nat.testBit F i)) = true) (he : Eff X P N o σ h bl Post)
    (q : ∀ σ' h' bl', Post σ' h' bl' → VX X P N ops hS blS E M F K false rest σ' h' bl') : VX X P N ops hS blS E M F K on (i :: rest) σ h bl := by
  intro a w ha hr hk
  show Xs _ _ _ _ _ _ _ (Xl _ _ _ _ _ _ _ rest) _ _
  refine ⟨fun _ f => hk (by rw [f] at hon; simpa using hon), fun e => (by rw [hM] at e; cases e), o, ho, ?_⟩
  rw [if_pos (wanted_of ha hw), if_pos hE]
  exact wp_exits (fun a' w' ⟨σ', h', bl', hp, hf, hr'⟩ => q σ' h' bl' hp a' w' hf hr' (fun h => by cases h)) (he a w ha hr)
theorem VX_bool (t : Nat) {b : Bool} (ht : look σ t = some (.bool b)) (k1 : b = true → VX X P N ops hS blS E M F K on l ((t, .bool true) :: σ) h bl)
    (k2 : b = false → VX X P N ops hS blS E M F K on l ((t, .bool false) :: σ) h bl) : VX X P N ops hS blS E M F K on l σ h bl := by
  intro a w ha hr hk
  have key : ∀ c, b = c → Fr N ((t, .bool c) :: σ) a := by
    rintro c rfl
    refine ⟨ha.defers, ha.size, fun s u hs => ?_⟩
    rw [look_cons] at hs
    split at hs
    · rename_i e; subst e; cases hs; exact ha.at_ _ _ ht
    · exact ha.at_ _ _ hs
  cases hb : b with
  | true => exact k1 hb a w (key _ hb) hr hk
  | false => exact k2 hb a w (key _ hb) hr hk
end
end Go.Proofs.Ytdglignjoojimaa
