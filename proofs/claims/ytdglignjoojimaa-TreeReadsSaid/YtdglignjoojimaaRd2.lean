/- Texts of one proof, one behind the other: Sx20, Sx, Ty, B1, B2, B3, B4, T1, T2. No conditions. -/
import Derived.Test.YtdglignjoojimaaRd1
import Derived.Orders
import Derived.Test.YtdglignjoojimaaProg
import Init
/- A region that draws its order, in which several operations act in any order: each may come first. No conditions. -/
set_option linter.unusedVariables false
set_option linter.unusedSimpArgs false
namespace Go.Proofs.Ytdglignjoojimaa

section
variable {P : Program} {ops : Array Oper} {S : World → Prop} {B : List Nat} {E M F : Nat} {Z : Act → World → Prop}

def Cm (S : World → Prop) (E F i : Nat) (w : World) : Prop := E.testBit i = true → F.testBit i = true → S w
/-- One operation: it acts, or it yields what S alone decides. -/
def Xs (P : Program) (ops : Array Oper) (S : World → Prop) (E M F : Nat) (i : Nat) (K : Act → World → Prop) (a : Act) (w : World) : Prop :=
  Cm S E F i w ∧ Dk S M i w ∧ ∃ o, ops[i]? = some o ∧
    if Region.wanted o (yielded ops a.tmps) then
      if E.testBit i then o.wp P a w K Bot
      else ∃ v, (∀ w', Dk S M i w' → (execOp a.eval o).run P w' = .ok (.value v) w') ∧ K (a.put o.dst v) w
    else K (a.put o.dst undef) w
/-- Some operations, one behind the other. -/
def Xl (P : Program) (ops : Array Oper) (S : World → Prop) (E M F : Nat) (Z : Act → World → Prop) : List Nat → Act → World → Prop
  | [], a, w => Z a w
  | i :: r, a, w => Xs P ops S E M F i (Xl P ops S E M F Z r) a w
def preOf (B : List Nat) (l : List Nat) (j : Nat) : List Nat := l.filter fun i => (B.getD j 0).testBit i
def minE (B : List Nat) (E : Nat) (l : List Nat) : List Nat := l.filter fun j => E.testBit j && l.all fun i => !(E.testBit i && (B.getD j 0).testBit i)
def restOf (B : List Nat) (l : List Nat) (j : Nat) : List Nat := l.filter fun i => !(Nat.beq i j || (B.getD j 0).testBit i)
def anyE (E : Nat) (l : List Nat) : Bool := l.any fun i => E.testBit i
/-- Whatever acts first: what must be ahead of it, then it, then the others. -/
def XB (P : Program) (ops : Array Oper) (S : World → Prop) (B : List Nat) (E M F : Nat) (Z : Act → World → Prop) : Nat → List Nat → Act → World → Prop
  | 0, l, a, w => anyE E l = false ∧ Xl P ops S E M F Z l a w
  | n + 1, l, a, w => if anyE E l then ∀ j ∈ minE B E l, Xl P ops S E M F (XB P ops S B E M F Z n (restOf B l j)) (preOf B l j ++ [j]) a w
    else Xl P ops S E M F Z l a w

theorem Xs.mono {i : Nat} {K K' : Act → World → Prop} {a : Act} {w : World} (h : Xs P ops S E M F i K a w) (hk : ∀ a w, K a w → K' a w) : Xs P ops S E M F i K' a w := by
  obtain ⟨hc, hd, o, ho, h⟩ := h
  refine ⟨hc, hd, o, ho, ?_⟩
  split
  · rename_i hw
    rw [if_pos hw] at h
    split
    · rename_i he; rw [if_pos he] at h; exact Oper.wp_mono hk h
    · rename_i he
      rw [if_neg he] at h
      obtain ⟨v, h1, h2⟩ := h
      exact ⟨v, h1, hk _ _ h2⟩
  · rename_i hw; rw [if_neg hw] at h; exact hk _ _ h
theorem Xl.mono {K K' : Act → World → Prop} (hk : ∀ a w, K a w → K' a w) : ∀ {l : List Nat} {a : Act} {w : World}, Xl P ops S E M F K l a w → Xl P ops S E M F K' l a w
  | [], _, _, h => hk _ _ h
  | _ :: _, _, _, h => Xs.mono h fun _ _ k => Xl.mono hk k
theorem Xl_app {K : Act → World → Prop} : ∀ {p q : List Nat} {a : Act} {w : World}, Xl P ops S E M F K (p ++ q) a w ↔ Xl P ops S E M F (Xl P ops S E M F K q) p a w
  | [], q, a, w => Iff.rfl
  | i :: p, q, a, w => ⟨fun h => Xs.mono h fun _ _ k => Xl_app.1 k, fun h => Xs.mono h fun _ _ k => Xl_app.2 k⟩

theorem Xs.cases {i : Nat} {K : Act → World → Prop} {a : Act} {w : World} {o : Oper} (ho : ops[i]? = some o) (h : Xs P ops S E M F i K a w) :
    (∃ v, SY P ops (Dk S M i) o v a ∧ (E.testBit i = false ∨ Region.wanted o (yielded ops a.tmps) = false) ∧ K (a.put o.dst v) w) ∨ (Region.wanted o (yielded ops a.tmps) = true ∧ E.testBit i = true ∧ o.wp P a w K Bot) := by
  obtain ⟨_, _, o', ho', h⟩ := h
  rw [ho] at ho'; cases ho'
  by_cases hw : Region.wanted o (yielded ops a.tmps) = true
  · rw [if_pos hw] at h
    by_cases he : E.testBit i = true
    · rw [if_pos he] at h; exact .inr ⟨hw, he, h⟩
    · rw [if_neg he] at h
      obtain ⟨v, h1, h2⟩ := h
      exact .inl ⟨v, .inl ⟨hw, h1⟩, .inl (by simpa using he), h2⟩
  · rw [if_neg hw] at h
    exact .inl ⟨undef, .inr ⟨by simpa using hw, rfl⟩, .inr (by simpa using hw), h⟩
theorem Xs.yield {i : Nat} {K : Act → World → Prop} {a : Act} {w : World} {o : Oper} {v : Value} (ho : ops[i]? = some o) (hc : Cm S E F i w) (hd : Dk S M i w) (hy : SY P ops (Dk S M i) o v a)
    (he : E.testBit i = false ∨ Region.wanted o (yielded ops a.tmps) = false) (kk : K (a.put o.dst v) w) : Xs P ops S E M F i K a w := by
  refine ⟨hc, hd, o, ho, ?_⟩
  rcases hy with ⟨hw, hv⟩ | ⟨hw, rfl⟩
  · rw [if_pos hw]
    rcases he with he | he
    · rw [if_neg (by rw [he]; simp)]; exact ⟨v, hv, kk⟩
    · rw [he] at hw; cases hw
  · rw [if_neg (by rw [hw]; simp)]; exact kk
theorem Xs.act {i : Nat} {K : Act → World → Prop} {a : Act} {w : World} {o : Oper} (ho : ops[i]? = some o) (hc : Cm S E F i w) (hd : Dk S M i w) (hw : Region.wanted o (yielded ops a.tmps) = true) (he : E.testBit i = true)
    (kk : o.wp P a w K Bot) : Xs P ops S E M F i K a w := by
  refine ⟨hc, hd, o, ho, ?_⟩
  rw [if_pos hw, if_pos he]; exact kk

/-- What yields comes ahead of what is unordered with it. -/
theorem Xs.swap {i j : Nat} {oi oj : Oper} {K : Act → World → Prop} {a : Act} {w : World} (hsel : Region.noSelect ops = true) (hi : ops[i]? = some oi) (hj : ops[j]? = some oj) (hap : oi.apart ops oj = true)
    (hEj : E.testBit j = false) (hji : E.testBit i = true → M.testBit j = true → F.testBit i = true)
    (h : Xs P ops S E M F i (Xs P ops S E M F j K) a w) : Xs P ops S E M F j (Xs P ops S E M F i K) a w := by
  obtain ⟨h1, h2, h3⟩ := Oper.apart_spec hap
  have hsi : ∀ cs b, oi.op ≠ .select cs b := fun cs b => Region.noSelect_spec hsel i oi cs b hi
  have hsj : ∀ cs b, oj.op ≠ .select cs b := fun cs b => Region.noSelect_spec hsel j oj cs b hj
  have h2' : ∀ d, oj.dst = some d → oi.dst ≠ some d := fun d hd hd' => h2 d hd' hd
  have toI : ∀ (D : World → Prop) (a : Act) (u v : Value), SY P ops D oi v (a.put oj.dst u) ↔ SY P ops D oi v a := fun D a u v =>
    ⟨fun k => k.same (execOp_put oi hsi a oj.dst u h3).symm (wanted_put oi a oj.dst u h3).symm, fun k => k.same (execOp_put oi hsi a oj.dst u h3) (wanted_put oi a oj.dst u h3)⟩
  have toJ : ∀ (D : World → Prop) (a : Act) (u v : Value), SY P ops D oj v (a.put oi.dst u) ↔ SY P ops D oj v a := fun D a u v =>
    ⟨fun k => k.same (execOp_put oj hsj a oi.dst u h1).symm (wanted_put oj a oi.dst u h1).symm, fun k => k.same (execOp_put oj hsj a oi.dst u h1) (wanted_put oj a oi.dst u h1)⟩
  have toD : ∀ (D : World → Prop) (o : Oper) (a : Act) (ds : List Deferred) (v : Value), SY P ops D o v { a with defers := ds } ↔ SY P ops D o v a := fun D o a ds v => ⟨fun k => k.same rfl rfl, fun k => k.same rfl rfl⟩
  have wI : ∀ (a : Act) (u : Value), Region.wanted oi (yielded ops (a.put oj.dst u).tmps) = Region.wanted oi (yielded ops a.tmps) := fun a u => wanted_put oi a oj.dst u h3
  have hci := h.1
  have hdi := h.2.1
  rcases h.cases hi with ⟨v, hy, hei, h⟩ | ⟨hw, he, h⟩
  · have hcj := h.1
    have hdj := h.2.1
    rcases h.cases hj with ⟨u, hy', hej, h'⟩ | ⟨_, he', _⟩
    · refine Xs.yield hj hcj hdj ((toJ _ a v u).1 hy') (.inl hEj) ?_
      refine Xs.yield hi hci hdi ((toI _ a u v).2 hy) (by rw [wI]; exact hei) ?_
      rw [← Act.put_comm a v u h2]; exact h'
    · rw [hEj] at he'; cases he'
  · obtain ⟨u0, w0, ds0, h0⟩ := wp_some h
    have key : ∀ u ds w', Xs P ops S E M F j K ({ a with defers := ds }.put oi.dst u) w' → ∃ v, SY P ops (Dk S M j) oj v a ∧ K (({ a with defers := ds }.put oi.dst u).put oj.dst v) w' := by
      intro u ds w' hk
      rcases hk.cases hj with ⟨v, hy, _, hk'⟩ | ⟨_, he', _⟩
      · exact ⟨v, (toD _ oj a ds v).1 ((toJ _ _ u v).1 hy), hk'⟩
      · rw [hEj] at he'; cases he'
    obtain ⟨v, hv, _⟩ := key u0 ds0 w0 h0
    have hdj : Dk S M j w := fun m => hci he (hji he m)
    refine Xs.yield hj (fun e _ => by rw [hEj] at e; cases e) hdj hv (.inl hEj) ?_
    refine Xs.act hi hci hdi (by rw [wI]; exact hw) he ?_
    refine wp_put hsi h3 h fun u ds w' hk => ?_
    obtain ⟨v', hv', hk'⟩ := key u ds w' hk
    have := SY.inj hdj hv hv'
    subst this
    rw [Act.put_comm _ v u h2']; exact hk'

/-- What must hold of two operations of which none is ahead of the other: one of them may come to the front of the other. -/
def PairOk (ops : Array Oper) (E M F : Nat) (i j : Nat) : Prop := ∃ oi oj, ops[i]? = some oi ∧ ops[j]? = some oj ∧ oi.apart ops oj = true ∧ (E.testBit i = true → M.testBit j = true → F.testBit i = true)

theorem Xl.pull {j : Nat} (hsel : Region.noSelect ops = true) (hEj : E.testBit j = false) {K : Act → World → Prop} : ∀ (p : List Nat) (a : Act) (w : World), (∀ i ∈ p, PairOk ops E M F i j) →
    Xl P ops S E M F (Xs P ops S E M F j K) p a w → Xs P ops S E M F j (Xl P ops S E M F K p) a w
  | [], a, w, _, h => h
  | i :: p, a, w, hp, h => by
    obtain ⟨oi, oj, hi, hj, hap, hm⟩ := hp i (by simp)
    exact Xs.swap hsel hi hj hap hEj hm (Xs.mono h fun a w k => Xl.pull hsel hEj p a w (fun i hi => hp i (by simp [hi])) k)

/-- Two continuations at once, where what yields is one. -/
theorem Xs.all {j : Nat} {oj : Oper} (hj : ops[j]? = some oj) (hEj : E.testBit j = false) {ι : Type} {I : ι → Prop} {K : ι → Act → World → Prop} {a : Act} {w : World} (x0 : ι) (h0 : I x0) (h : ∀ x, I x → Xs P ops S E M F j (K x) a w) :
    Xs P ops S E M F j (fun a w => ∀ x, I x → K x a w) a w := by
  have hx := h x0 h0
  have hc := hx.1
  have hd := hx.2.1
  rcases hx.cases hj with ⟨v, hy, hei, _⟩ | ⟨_, he, _⟩
  · refine Xs.yield hj hc hd hy hei fun x hx => ?_
    rcases (h x hx).cases hj with ⟨u, hy', _, hk⟩ | ⟨_, he, _⟩
    · have := SY.inj hd hy hy'
      subst this; exact hk
    · rw [hEj] at he; cases he
  · rw [hEj] at he; cases he

/-- The facts of a region. -/
structure RegOk (ops : Array Oper) (B : List Nat) (E M F : Nat) : Prop where
  sel : Region.noSelect ops = true
  edge : ∀ j oj, ops[j]? = some oj → ∀ e ∈ oj.after, Region.binds .any e = true → e.on < j
  from_ : ∀ j oj, ops[j]? = some oj → ∀ i, (B.getD j 0).testBit i = true → ∃ e ∈ oj.after, Region.binds .any e = true ∧ (e.on = i ∨ (B.getD e.on 0).testBit i = true)
  lt : ∀ j i, j < ops.size → (B.getD j 0).testBit i = true → i < j
  trans : ∀ j i k, j < ops.size → (B.getD j 0).testBit i = true → (B.getD i 0).testBit k = true → (B.getD j 0).testBit k = true
  pair : ∀ i j, i < ops.size → j < ops.size → i ≠ j → E.testBit j = false → (B.getD i 0).testBit j = false → (B.getD j 0).testBit i = false → PairOk ops E M F i j

theorem nbeq {i j : Nat} : Nat.beq i j = false ↔ i ≠ j := by
  constructor
  · intro h e; subst e; simp at h
  · intro h
    cases hb : Nat.beq i j with
    | false => rfl
    | true => exact absurd (Nat.eq_of_beq_eq_true hb) h
theorem mem_preOf {l : List Nat} {i j : Nat} : i ∈ preOf B l j ↔ i ∈ l ∧ (B.getD j 0).testBit i = true := by simp [preOf]
theorem mem_restOf {l : List Nat} {i j : Nat} : i ∈ restOf B l j ↔ i ∈ l ∧ i ≠ j ∧ (B.getD j 0).testBit i = false := by
  simp [restOf, nbeq]
theorem mem_minE {l : List Nat} {j : Nat} : j ∈ minE B E l ↔ j ∈ l ∧ E.testBit j = true ∧ ∀ i ∈ l, E.testBit i = true → (B.getD j 0).testBit i = false := by
  simp only [minE, List.mem_filter, Bool.and_eq_true, List.all_eq_true, Bool.not_eq_true', Bool.and_eq_false_iff]
  constructor
  · rintro ⟨h1, h2, h3⟩; exact ⟨h1, h2, fun i hi he => (h3 i hi).resolve_left (by rw [he]; simp)⟩
  · rintro ⟨h1, h2, h3⟩; exact ⟨h1, h2, fun i hi => by
      cases he : E.testBit i with
      | false => exact .inl rfl
      | true => exact .inr (h3 i hi he)⟩
theorem minE_some (R : RegOk ops B E M F) {l : List Nat} (hl : ∀ i ∈ l, i < ops.size) (h : anyE E l = true) : ∃ j, j ∈ minE B E l := by
  have key : ∀ n, ∀ j ∈ l, j < n → E.testBit j = true → ∃ j, j ∈ minE B E l := by
    intro n
    induction n with
    | zero => intro j _ h; omega
    | succ n ih =>
      intro j hj hn hE
      by_cases hm : ∀ i ∈ l, E.testBit i = true → (B.getD j 0).testBit i = false
      · exact ⟨j, mem_minE.2 ⟨hj, hE, hm⟩⟩
      · simp only [Classical.not_forall] at hm
        obtain ⟨i, hi, he, hb⟩ := hm
        have := R.lt j i (hl j hj) (by simpa using hb)
        exact ih i hi (by omega) he
  simp only [anyE, List.any_eq_true] at h
  obtain ⟨j, hj, hE⟩ := h
  exact key (j + 1) j hj (by omega) hE

theorem filter_ne_app {p q : List Nat} {j : Nat} (h : (p ++ j :: q).Nodup) : (p ++ j :: q).filter (fun i => !(Nat.beq i j)) = p ++ q := by
  have hn := List.nodup_append.1 h
  have h1 : p.filter (fun i => !(Nat.beq i j)) = p := List.filter_eq_self.2 fun x hx => by
    have : x ≠ j := fun e => hn.2.2 x hx j (by simp) e
    rw [nbeq.2 this]; rfl
  have h2 : q.filter (fun i => !(Nat.beq i j)) = q := List.filter_eq_self.2 fun x hx => by
    have : x ≠ j := fun e => (List.nodup_cons.1 hn.2.1).1 (e ▸ hx)
    rw [nbeq.2 this]; rfl
  rw [List.filter_append, List.filter_cons_of_neg (by simp), h1, h2]

/-- What yields, and waits for nothing, comes first. -/
theorem XB.pull (R : RegOk ops B E M F) {j : Nat} (hEj : E.testBit j = false) : ∀ (n : Nat) (l : List Nat) (a : Act) (w : World), (∀ i ∈ l, i < ops.size) → l.Nodup → l.Pairwise (· < ·) → j ∈ l → (∀ i ∈ l, (B.getD j 0).testBit i = false) →
    XB P ops S B E M F Z n l a w → Xs P ops S E M F j (XB P ops S B E M F Z n (l.filter fun i => !(Nat.beq i j))) a w := by
  have pure_ : ∀ (l : List Nat) (a : Act) (w : World), (∀ i ∈ l, i < ops.size) → l.Nodup → l.Pairwise (· < ·) → j ∈ l → (∀ i ∈ l, (B.getD j 0).testBit i = false) → ∀ (K : Act → World → Prop),
      Xl P ops S E M F K l a w → Xs P ops S E M F j (Xl P ops S E M F K (l.filter fun i => !(Nat.beq i j))) a w := by
    intro l a w hsz hnd hP hj hfree K h
    obtain ⟨p, q, rfl⟩ := List.append_of_mem hj
    rw [filter_ne_app hnd]
    have h' := Xl_app.1 h
    have h2 := Xl.pull R.sel hEj p a w (fun i hi => by
      have hij : i < j := (List.pairwise_append.1 hP).2.2 i hi j (by simp)
      refine R.pair i j (hsz i (by simp [hi])) (hsz j (by simp)) (by omega) hEj ?_ (hfree i (by simp [hi]))
      cases hb : (B.getD i 0).testBit j with
      | false => rfl
      | true => have := R.lt i j (hsz i (by simp [hi])) hb; omega) h'
    exact Xs.mono h2 fun a w k => Xl_app.2 k
  intro n
  induction n with
  | zero =>
    rintro l a w hsz hnd hP hj hfree ⟨h0, h⟩
    refine Xs.mono (pure_ l a w hsz hnd hP hj hfree Z h) fun a w k => ⟨?_, k⟩
    simp only [anyE, List.any_eq_false, List.mem_filter] at h0 ⊢
    exact fun x hx => h0 x hx.1
  | succ n ih =>
    intro l a w hsz hnd hP hj hfree h
    unfold XB at h
    by_cases hany : anyE E l = true
    · rw [if_pos hany] at h
      have hany' : anyE E (l.filter fun i => !(Nat.beq i j)) = true := by
        simp only [anyE, List.any_eq_true, List.mem_filter] at hany ⊢
        obtain ⟨x, hx, he⟩ := hany
        exact ⟨x, ⟨hx, by have : x ≠ j := (fun e => by rw [e, hEj] at he; cases he); rw [nbeq.2 this]; rfl⟩, he⟩
      have hmin : ∀ x, x ∈ minE B E (l.filter fun i => !(Nat.beq i j)) ↔ x ∈ minE B E l := by
        intro x
        rw [mem_minE, mem_minE]
        simp only [List.mem_filter, Bool.not_eq_true', nbeq]
        constructor
        · rintro ⟨⟨h1, h1'⟩, h2, h3⟩
          refine ⟨h1, h2, fun i hi he => h3 i ⟨hi, ?_⟩ he⟩
          rintro rfl; rw [hEj] at he; cases he
        · rintro ⟨h1, h2, h3⟩
          exact ⟨⟨h1, by rintro rfl; rw [hEj] at h2; cases h2⟩, h2, fun i hi he => h3 i hi.1 he⟩
      obtain ⟨oj, hoj⟩ : ∃ o, ops[j]? = some o := ⟨_, Array.getElem?_eq_getElem (hsz j hj)⟩
      obtain ⟨x0, hx0⟩ := minE_some R hsz hany
      have := Xs.all (P := P) (S := S) (M := M) (F := F) hoj hEj (I := fun x => x ∈ minE B E l) (K := fun x => Xl P ops S E M F (XB P ops S B E M F Z n (restOf B (l.filter fun i => !(Nat.beq i j)) x)) (preOf B (l.filter fun i => !(Nat.beq i j)) x ++ [x])) (a := a) (w := w) x0 hx0 (fun x hx => ?_)
      · refine Xs.mono this fun a w k => ?_
        show XB P ops S B E M F Z (n + 1) _ a w
        unfold XB
        rw [if_pos hany']
        exact fun x hx => k x ((hmin x).1 hx)
      · have hk := h x hx
        obtain ⟨hxl, hxE, hxm⟩ := mem_minE.1 hx
        have hxj : x ≠ j := by rintro rfl; rw [hEj] at hxE; cases hxE
        by_cases hpre : (B.getD x 0).testBit j = true
        · -- it is ahead of what acts
          have hrest : restOf B (l.filter fun i => !(Nat.beq i j)) x = restOf B l x := by
            unfold restOf
            rw [List.filter_filter]
            refine List.filter_congr fun i _ => ?_
            by_cases hij : i = j
            · subst hij; simp; exact fun _ => by simpa using hpre
            · have : Nat.beq i j = false := nbeq.2 hij
              rw [this]; simp
          have hprel : preOf B (l.filter fun i => !(Nat.beq i j)) x = (preOf B l x).filter fun i => !(Nat.beq i j) := by
            unfold preOf
            rw [List.filter_filter, List.filter_filter]
            exact List.filter_congr fun i _ => Bool.and_comm _ _
          rw [hrest, hprel]
          have h1 := Xl_app.1 hk
          have h2 := pure_ (preOf B l x) a w (fun i hi => hsz i (mem_preOf.1 hi).1) (hnd.filter _) (hP.filter _) (mem_preOf.2 ⟨hj, hpre⟩) (fun i hi => hfree i (mem_preOf.1 hi).1) _ h1
          exact Xs.mono h2 fun a w k => Xl_app.2 k
        · -- it comes behind
          have hpre : (B.getD x 0).testBit j = false := by simpa using hpre
          have hprel : preOf B (l.filter fun i => !(Nat.beq i j)) x = preOf B l x := by
            unfold preOf
            rw [List.filter_filter]
            refine List.filter_congr fun i _ => ?_
            by_cases hij : i = j
            · subst hij
              simp only [hpre, Bool.false_and]
            · have : Nat.beq i j = false := nbeq.2 hij
              rw [this]; simp
          have hrest : restOf B (l.filter fun i => !(Nat.beq i j)) x = (restOf B l x).filter fun i => !(Nat.beq i j) := by
            unfold restOf
            rw [List.filter_filter, List.filter_filter]
            exact List.filter_congr fun i _ => Bool.and_comm _ _
          rw [hprel, hrest]
          have h1 : Xl P ops S E M F (Xs P ops S E M F j (XB P ops S B E M F Z n ((restOf B l x).filter fun i => !(Nat.beq i j)))) (preOf B l x ++ [x]) a w :=
            Xl.mono (fun a w k => ih (restOf B l x) a w (fun i hi => hsz i (mem_restOf.1 hi).1) (hnd.filter _) (hP.filter _) (mem_restOf.2 ⟨hj, fun e => hxj e.symm, hpre⟩) (fun i hi => hfree i (mem_restOf.1 hi).1) k) hk
          refine Xl.pull R.sel hEj _ a w (fun i hi => ?_) h1
          rcases List.mem_append.1 hi with hi | hi
          · obtain ⟨hil, hib⟩ := mem_preOf.1 hi
            refine R.pair i j (hsz i hil) (hsz j hj) (by rintro rfl; rw [hpre] at hib; cases hib) hEj ?_ (hfree i hil)
            cases hb : (B.getD i 0).testBit j with
            | false => rfl
            | true => have := R.trans x i j (hsz x hxl) hib hb; rw [hpre] at this; cases this
          · obtain rfl := List.mem_singleton.1 hi
            exact R.pair i j (hsz i hxl) (hsz j hj) hxj hEj hpre (hfree i hxl)
    · rw [if_neg hany] at h
      have hany' : ¬ anyE E (l.filter fun i => !(Nat.beq i j)) = true := by
        simp only [anyE, List.any_eq_true, List.mem_filter, not_exists, not_and] at hany ⊢
        exact fun x hx => hany x hx.1
      refine Xs.mono (pure_ l a w hsz hnd hP hj hfree Z h) fun a w k => ?_
      show XB P ops S B E M F Z (n + 1) _ a w
      unfold XB
      rw [if_neg hany']; exact k

theorem XB.first (R : RegOk ops B E M F) {j : Nat} (hEj : E.testBit j = true) {n : Nat} {l : List Nat} {a : Act} {w : World} (hj : j ∈ l) (hfree : ∀ i ∈ l, (B.getD j 0).testBit i = false)
    (h : XB P ops S B E M F Z n l a w) : ∃ m, Xs P ops S E M F j (XB P ops S B E M F Z m (l.filter fun i => !(Nat.beq i j))) a w := by
  cases n with
  | zero =>
    have := h.1
    simp only [anyE, List.any_eq_false] at this
    exact absurd hEj (this j hj)
  | succ n =>
    unfold XB at h
    rw [if_pos (by simp only [anyE, List.any_eq_true]; exact ⟨j, hj, hEj⟩)] at h
    have hk := h j (mem_minE.2 ⟨hj, hEj, fun i hi _ => hfree i hi⟩)
    have hp : preOf B l j = [] := List.filter_eq_nil_iff.2 fun i hi => by rw [hfree i hi]; simp
    have hr : restOf B l j = l.filter fun i => !(Nat.beq i j) := List.filter_congr fun i hi => by rw [hfree i hi]; simp
    rw [hp, hr] at hk
    exact ⟨n, hk⟩

theorem wpAny_of_XB {Q : Exit → Act → World → Prop} (R : RegOk ops B E M F) : ∀ (n : Nat) (L : List Nat) (listed : Array Bool) (a : Act) (w : World), L.length = n →
    (∀ i, i ∈ L ↔ i < ops.size ∧ listed.getD i true = false) → L.Pairwise (· < ·) → listed.size = ops.size →
    (∀ x y, x < ops.size → listed.getD x true = true → (B.getD x 0).testBit y = true → listed.getD y true = true) → (∃ m, XB P ops S B E M F (Q .normal) m L a w) → wpAny P .any ops Q n listed a w := by
  intro n
  induction n with
  | zero =>
    rintro L listed a w hn hL _ _ _ ⟨m, hG⟩
    have : L = [] := List.eq_nil_of_length_eq_zero hn
    subst this
    refine ⟨List.eq_nil_iff_forall_not_mem.2 fun j hj => ?_, ?_⟩
    · obtain ⟨h0, o, ho, _⟩ := mem_ready.1 hj
      have := (hL j).2 ⟨(Array.getElem?_eq_some_iff.1 ho).1, h0⟩
      cases this
    · cases m with
      | zero => exact hG.2
      | succ m => exact hG
  | succ n ih =>
    rintro L listed a w hn hL hP hsz hcl ⟨m, hG⟩
    have hLsz : ∀ i ∈ L, i < ops.size := fun i hi => ((hL i).1 hi).1
    refine ⟨fun hr => ?_, fun j hj => ?_⟩
    · cases L with
      | nil => cases hn
      | cons i0 L =>
        obtain ⟨h1, h2⟩ := (hL i0).1 (by simp)
        obtain ⟨o, ho⟩ : ∃ o, ops[i0]? = some o := ⟨_, Array.getElem?_eq_getElem h1⟩
        have : i0 ∈ Region.ready .any ops listed := by
          refine mem_ready.2 ⟨h2, o, ho, fun e he hb0 => ?_⟩
          have hlt := R.edge i0 o ho e he hb0
          cases hb : listed.getD e.on true with
          | true =>
            have : e.on < listed.size := by omega
            simpa [this] using hb
          | false =>
            have hm := (hL e.on).2 ⟨by omega, hb⟩
            rcases List.mem_cons.1 hm with he' | hm
            · omega
            · have := List.rel_of_pairwise_cons hP hm
              omega
        rw [hr] at this; cases this
    · obtain ⟨h0, oj, hoj, hall⟩ := mem_ready.1 hj
      have hjlt : j < ops.size := (Array.getElem?_eq_some_iff.1 hoj).1
      have hjL : j ∈ L := (hL j).2 ⟨hjlt, h0⟩
      have hah : ∀ i, (B.getD j 0).testBit i = true → listed.getD i true = true := by
        intro i hi
        obtain ⟨e, he, hb, hi⟩ := R.from_ j oj hoj i hi
        have hl := hall e he hb
        have hlt := R.edge j oj hoj e he hb
        have hl' : listed.getD e.on true = true := by
          have : e.on < listed.size := by omega
          simpa [this] using hl
        rcases hi with rfl | hi
        · exact hl'
        · exact hcl e.on i (by omega) hl' hi
      have hfree : ∀ i ∈ L, (B.getD j 0).testBit i = false := fun i hi => by
        cases hb : (B.getD j 0).testBit i with
        | false => rfl
        | true => have h1 := hah i hb; have h2 := ((hL i).1 hi).2; rw [h1] at h2; cases h2
      have hnd : L.Nodup := hP.imp fun h => by omega
      have hfront : ∃ m, Xs P ops S E M F j (XB P ops S B E M F (Q .normal) m (L.filter fun i => !(Nat.beq i j))) a w := by
        cases hE : E.testBit j with
        | false => exact ⟨m, XB.pull R hE m L a w hLsz hnd hP hjL hfree hG⟩
        | true => exact XB.first R hE hjL hfree hG
      obtain ⟨m', hfront⟩ := hfront
      have hjs : j < listed.size := by omega
      have hlen : (L.filter fun i => !(Nat.beq i j)).length = n := by
        obtain ⟨p, q, rfl⟩ := List.append_of_mem hjL
        rw [filter_ne_app hnd]
        simp at hn ⊢; omega
      have ih' : ∀ a w, XB P ops S B E M F (Q .normal) m' (L.filter fun i => !(Nat.beq i j)) a w → wpAny P .any ops Q n (listed.setIfInBounds j true) a w := by
        intro a w h
        refine ih (L.filter fun i => !(Nat.beq i j)) (listed.setIfInBounds j true) a w hlen (fun i => ?_) (hP.filter _) (by simpa using hsz) (fun x y hx hlx hb => ?_) ⟨m', h⟩
        · rw [getD_mark hjs]
          by_cases hij : j = i
          · subst hij
            simp
          · rw [if_neg hij, ← hL i]
            have : Nat.beq i j = false := nbeq.2 fun e => hij e.symm
            simp [this]
        · rw [getD_mark hjs] at hlx ⊢
          split
          · rfl
          · rename_i hne
            split at hlx
            · rename_i hjx; subst hjx; exact hah y hb
            · exact hcl x y hx hlx hb
      have hst : Xs P ops S E M F j (wpAny P .any ops Q n (listed.setIfInBounds j true)) a w := Xs.mono hfront ih'
      unfold wpOp
      simp only [hoj]
      rcases hst.cases hoj with ⟨v, hy, _, hk⟩ | ⟨hw, _, hk⟩
      · rcases hy with ⟨hw, hv⟩ | ⟨hw, rfl⟩
        · rw [if_pos hw]
          left
          rw [Oper.wp, hv w hst.2.1, Oper.upon_value]; exact hk
        · rw [if_neg (by rw [hw]; simp)]; exact hk
      · rw [if_pos hw]
        left
        unfold Oper.wp at hk ⊢
        generalize (execOp a.eval oj).run P w = r at hk
        cases r with
        | ok nx w' =>
          cases nx <;> simp only [Oper.upon] at hk ⊢
          case value u => exact hk
          case skip => exact hk
          case defer d => exact hk
          case enter f args =>
            refine Calls.mono hk fun e w'' he => ?_
            cases e with
            | returned u => exact he
            | panicked c => exact he.elim
            | outgrown => exact absurd he not_letsOut
          case row row args => exact hk
        | halt x w' => cases x <;> simp only [Oper.upon] at hk ⊢; exact hk.elim

/-! ### The check -/
def bitsIn (a b : Nat) : Bool := Nat.beq (a ||| b) b
theorem bitsIn_spec {a b i : Nat} (h : bitsIn a b = true) (ha : a.testBit i = true) : b.testBit i = true := by
  have e := Nat.eq_of_beq_eq_true h
  rw [← e, Nat.testBit_or, ha]; rfl
def pairB (ops : Array Oper) (E M F i j : Nat) (oi oj : Oper) : Bool :=
  (E.testBit i && E.testBit j) || (oi.apart ops oj && (!(E.testBit i && M.testBit j) || F.testBit i) && (!(E.testBit j && M.testBit i) || F.testBit j))
def chkOneX (ops : Array Oper) (B : List Nat) (E M F : Nat) (j : Nat) (oj : Oper) : Bool :=
  oj.after.toList.all (fun e => !(Region.binds .any e) || Nat.blt e.on j) && bitsIn (B.getD j 0) (ahead B oj.after.toList) && Nat.blt (B.getD j 0) (2 ^ j) &&
  (List.range j).all fun i => match ops[i]? with
    | some oi => if (B.getD j 0).testBit i then bitsIn (B.getD i 0) (B.getD j 0) else pairB ops E M F i j oi oj
    | none => false
def chkFromX (ops : Array Oper) (B : List Nat) (E M F : Nat) : Nat → List Oper → Bool
  | _, [] => true
  | j, o :: r => chkOneX ops B E M F j o && chkFromX ops B E M F (j + 1) r
def chkX (ops : Array Oper) (B : List Nat) (E M F : Nat) : Bool := Region.noSelect ops && chkFromX ops B E M F 0 ops.toList
theorem chkFromX_at {ops : Array Oper} {B : List Nat} {E M F : Nat} (l : List Oper) : ∀ (k : Nat), chkFromX ops B E M F k l = true → ∀ (i : Nat) (o : Oper), l[i]? = some o → chkOneX ops B E M F (k + i) o = true := by
  induction l with
  | nil => intro k _ i o ho; simp at ho
  | cons x r ih =>
    intro k h i o ho
    rw [chkFromX, Bool.and_eq_true] at h
    cases i with
    | zero =>
      have : x = o := by simpa using ho
      subst this
      exact h.1
    | succ i =>
      have := ih (k + 1) h.2 i o (by simpa using ho)
      rw [show k + (i + 1) = k + 1 + i by omega]; exact this
theorem chkX_spec (h : chkX ops B E M F = true) : RegOk ops B E M F := by
  simp only [chkX, Bool.and_eq_true] at h
  have one : ∀ j oj, ops[j]? = some oj → (∀ e ∈ oj.after, Region.binds .any e = true → e.on < j) ∧ bitsIn (B.getD j 0) (ahead B oj.after.toList) = true ∧ B.getD j 0 < 2 ^ j ∧
      ∀ i, i < j → ∃ oi, ops[i]? = some oi ∧ if (B.getD j 0).testBit i then bitsIn (B.getD i 0) (B.getD j 0) = true else pairB ops E M F i j oi oj = true := by
    intro j oj hj
    have := chkFromX_at ops.toList 0 h.2 j oj (by simpa using hj)
    simp only [chkOneX, Nat.zero_add, Bool.and_eq_true, List.all_eq_true] at this
    obtain ⟨⟨⟨h1, h2⟩, h3⟩, h4⟩ := this
    refine ⟨fun e he hb => ?_, h2, by have := Nat.le_of_ble_eq_true h3; omega, fun i hi => ?_⟩
    · have := h1 e (by simpa using he)
      simp [Nat.blt, hb] at this
      omega
    · have := h4 i (List.mem_range.2 hi)
      split at this
      · rename_i oi hoi
        refine ⟨oi, hoi, ?_⟩
        split
        · rename_i hb; rw [if_pos hb] at this; exact this
        · rename_i hb; rw [if_neg hb] at this; exact this
      · cases this
  have some_ : ∀ j, j < ops.size → ∃ oj, ops[j]? = some oj := fun j hj => ⟨_, Array.getElem?_eq_getElem hj⟩
  have hlt : ∀ j i, j < ops.size → (B.getD j 0).testBit i = true → i < j := by
    intro j i hj hb
    obtain ⟨oj, hoj⟩ := some_ j hj
    have := (one j oj hoj).2.2.1
    rcases Nat.lt_or_ge i j with h' | h'
    · exact h'
    · have h2 : B.getD j 0 < 2 ^ i := Nat.lt_of_lt_of_le this (Nat.pow_le_pow_right (by omega) h')
      rw [Nat.testBit_lt_two_pow h2] at hb; cases hb
  refine ⟨h.1, fun j oj hj => (one j oj hj).1, fun j oj hj i hi => ?_, hlt, fun j i k hj h1 h2 => ?_, fun i j hi hj hne hE h1 h2 => ?_⟩
  · have := bitsIn_spec (one j oj hj).2.1 hi
    rcases ahead_bit this with h | ⟨e, he, hb, h⟩
    · simp at h
    · exact ⟨e, by simpa using he, hb, h⟩
  · obtain ⟨oj, hoj⟩ := some_ j hj
    obtain ⟨oi, _, hb⟩ := (one j oj hoj).2.2.2 i (hlt j i hj h1)
    rw [if_pos h1] at hb
    exact bitsIn_spec hb h2
  · obtain ⟨oi, hoi⟩ := some_ i hi
    obtain ⟨oj, hoj⟩ := some_ j hj
    rcases Nat.lt_or_ge i j with hij | hij
    · obtain ⟨oi', hoi', hb⟩ := (one j oj hoj).2.2.2 i hij
      rw [hoi] at hoi'; cases hoi'
      rw [if_neg (by rw [h2]; simp)] at hb
      simp only [pairB, hE, Bool.and_false, Bool.false_or, Bool.false_and, Bool.not_false, Bool.true_or, Bool.and_true, Bool.and_eq_true] at hb
      refine ⟨oi, oj, hoi, hoj, hb.1, fun a b => ?_⟩
      have := hb.2
      rw [a, b] at this
      simpa using this
    · obtain ⟨oj', hoj', hb⟩ := (one i oi hoi).2.2.2 j (by omega)
      rw [hoj] at hoj'; cases hoj'
      rw [if_neg (by rw [h1]; simp)] at hb
      simp only [pairB, hE, Bool.false_and, Bool.false_or, Bool.not_false, Bool.true_or, Bool.and_true, Bool.and_eq_true] at hb
      refine ⟨oi, oj, hoi, hoj, apart_symm hb.1, fun a b => ?_⟩
      have := hb.2
      rw [a, b] at this
      simpa using this

theorem wp_drawX {Q : Exit → Act → World → Prop} {id n : Nat} {a : Act} {w : World} (hm : P.follows .mixedOrders = true) (hchk : chkX ops B E M F = true)
    (h : XB P ops S B E M F (Q .normal) n (List.range ops.size) a { w with drawn := w.drawn + 1 }) : (Code.region id ops true).wp P Q a w := by
  refine wp_region_any hm (wpAny_of_XB (chkX_spec hchk) ops.size (List.range ops.size) _ a _ (by simp) (fun i => ?_) ?_ (by simp) (fun x y hx hl _ => ?_) ⟨n, h⟩)
  · simp only [List.mem_range]
    constructor
    · intro hi; exact ⟨hi, by simp [hi]⟩
    · exact fun h => h.1
  · exact List.pairwise_lt_range
  · simp [hx] at hl
end

/-! ### The judgements -/
/-- What is there still: 'on' tells whether S is known to hold. -/
def VB (X : Cx) (P : Program) (N : Nat) (ops : Array Oper) (hS : Hp) (blS : Bl) (B : List Nat) (E M F : Nat) (Z : Act → World → Prop) (on : Bool) (n : Nat) (l : List Nat) (σ : List (Nat × Value)) (h : Hp) (bl : Bl) : Prop :=
  ∀ a w, Fr N σ a → Rel X h bl w → (on = true → Knows hS blS w) → XB P ops (Knows hS blS) B E M F Z n l a w
/-- Some operations in a row, then what is told of K. -/
def VX (X : Cx) (P : Program) (N : Nat) (ops : Array Oper) (hS : Hp) (blS : Bl) (E M F : Nat) (K : Act → World → Prop) (on : Bool) (l : List Nat) (σ : List (Nat × Value)) (h : Hp) (bl : Bl) : Prop :=
  ∀ a w, Fr N σ a → Rel X h bl w → (on = true → Knows hS blS w) → Xl P ops (Knows hS blS) E M F K l a w

section
variable {X : Cx} {P : Program} {N : Nat} {ops : Array Oper} {hS h : Hp} {blS bl : Bl} {B : List Nat} {E M F n i : Nat} {Z K : Act → World → Prop} {on : Bool} {l rest : List Nat} {Q : Exit → Act → World → Prop} {σ : List (Nat × Value)}

theorem V_drawX {id : Nat} {lo : List Oper} (hS : Hp) (blS : Bl) (E M F n : Nat) (hm : P.follows .mixedOrders = true) (hc : chkX lo.toArray (clos lo) E M F = true) (h1 : Sub hS h) (h2 : SubB bl blS) (l : List Nat) (hl : List.range lo.length = l)
    (kk : VB X P N lo.toArray hS blS (clos lo) E M F (Q .normal) true n l σ h bl) : V X P N Q (.region id lo.toArray true) σ h bl := by
  intro a w ha hr
  refine wp_drawX (S := Knows hS blS) (n := n) hm hc ?_
  have hr' := hr.drew (w.drawn + 1)
  have := kk a _ ha hr' (fun _ => SubB.knows hr' h1 h2)
  rw [show lo.toArray.size = lo.length by simp, hl]
  exact this
/-- Nothing more acts. -/
theorem VB_end (he : anyE E l = false) (k : VX X P N ops hS blS E M F Z on l σ h bl) : VB X P N ops hS blS B E M F Z on n l σ h bl := by
  intro a w ha hr hk
  have := k a w ha hr hk
  cases n with
  | zero => exact ⟨he, this⟩
  | succ n => show XB _ _ _ _ _ _ _ _ (n + 1) l a w; unfold XB; rw [if_neg (by rw [he]; simp)]; exact this
/-- Each that may act first. -/
theorem VB_pick (js : List Nat) (he : anyE E l = true) (hj : minE B E l = js) (k : ∀ j ∈ js, VX X P N ops hS blS E M F (XB P ops (Knows hS blS) B E M F Z n (restOf B l j)) on (preOf B l j ++ [j]) σ h bl) : VB X P N ops hS blS B E M F Z on (n + 1) l σ h bl := by
  intro a w ha hr hk
  show XB _ _ _ _ _ _ _ _ (n + 1) l a w
  unfold XB
  rw [if_pos he, hj]
  exact fun j hj => k j hj a w ha hr hk
theorem VB_pick1 {j : Nat} {p r : List Nat} (he : anyE E l = true) (hj : minE B E l = [j]) (hp : preOf B l j ++ [j] = p) (hr : restOf B l j = r) (k : VX X P N ops hS blS E M F (XB P ops (Knows hS blS) B E M F Z n r) on p σ h bl) :
    VB X P N ops hS blS B E M F Z on (n + 1) l σ h bl :=
  VB_pick [j] he hj fun x hx => by obtain rfl := List.mem_singleton.1 hx; rw [hp, hr]; exact k
theorem VB_pick2 {j1 j2 : Nat} {p1 r1 p2 r2 : List Nat} (he : anyE E l = true) (hj : minE B E l = [j1, j2]) (hp1 : preOf B l j1 ++ [j1] = p1) (hr1 : restOf B l j1 = r1) (hp2 : preOf B l j2 ++ [j2] = p2) (hr2 : restOf B l j2 = r2)
    (k1 : VX X P N ops hS blS E M F (XB P ops (Knows hS blS) B E M F Z n r1) on p1 σ h bl) (k2 : VX X P N ops hS blS E M F (XB P ops (Knows hS blS) B E M F Z n r2) on p2 σ h bl) :
    VB X P N ops hS blS B E M F Z on (n + 1) l σ h bl :=
  VB_pick [j1, j2] he hj fun x hx => by
    rcases List.mem_cons.1 hx with rfl | hx
    · rw [hp1, hr1]; exact k1
    · obtain rfl := List.mem_singleton.1 hx; rw [hp2, hr2]; exact k2
theorem VB_pick3 {j1 j2 j3 : Nat} {p1 r1 p2 r2 p3 r3 : List Nat} (he : anyE E l = true) (hj : minE B E l = [j1, j2, j3]) (hp1 : preOf B l j1 ++ [j1] = p1) (hr1 : restOf B l j1 = r1) (hp2 : preOf B l j2 ++ [j2] = p2) (hr2 : restOf B l j2 = r2) (hp3 : preOf B l j3 ++ [j3] = p3) (hr3 : restOf B l j3 = r3)
    (k1 : VX X P N ops hS blS E M F (XB P ops (Knows hS blS) B E M F Z n r1) on p1 σ h bl) (k2 : VX X P N ops hS blS E M F (XB P ops (Knows hS blS) B E M F Z n r2) on p2 σ h bl)
    (k3 : VX X P N ops hS blS E M F (XB P ops (Knows hS blS) B E M F Z n r3) on p3 σ h bl) :
    VB X P N ops hS blS B E M F Z on (n + 1) l σ h bl :=
  VB_pick [j1, j2, j3] he hj fun x hx => by
    rcases List.mem_cons.1 hx with rfl | hx
    · rw [hp1, hr1]; exact k1
    · rcases List.mem_cons.1 hx with rfl | hx
      · rw [hp2, hr2]; exact k2
      · obtain rfl := List.mem_singleton.1 hx; rw [hp3, hr3]; exact k3
theorem VX_nil (q : VQ X N Q .normal σ h bl) : VX X P N ops hS blS E M F (Q .normal) on [] σ h bl := fun a w ha hr _ => q a w ha hr
/-- Behind what acted. -/
theorem VX_more (q : VB X P N ops hS blS B E M F Z on n l σ h bl) : VX X P N ops hS blS E M F (XB P ops (Knows hS blS) B E M F Z n l) on [] σ h bl := fun a w ha hr hk => q a w ha hr hk
/-- A load. -/
theorem VX_still {o : Oper} {d : Nat} {v : Value} (ho : ops[i]? = some o) (hw : wantd ops σ o = some true) (hE : Nat.testBit E i = false) (hM : Nat.testBit M i = true) (hd : o.dst = some d) (hlt : Nat.blt d N = true) (hs : Still P N σ hS blS o v)
    (q : VX X P N ops hS blS E M F K true rest ((d, v) :: σ) h bl) : VX X P N ops hS blS E M F K true (i :: rest) σ h bl := by
  intro a w ha hr hk
  show Xs _ _ _ _ _ _ _ (Xl _ _ _ _ _ _ _ rest) _ _
  refine ⟨fun e _ => (by rw [hE] at e; cases e), fun _ => hk rfl, o, ho, ?_⟩
  rw [if_pos (wanted_of ha hw), if_neg (by rw [hE]; simp), hd]
  exact ⟨v, fun w' hw' => hs a w' ha (hw' hM), q _ _ (ha.put (Nat.le_of_ble_eq_true hlt) v) hr (fun _ => hk rfl)⟩
/-- What knows nothing of memory. -/
theorem VX_pure {o : Oper} {d : Nat} {v : Value} (ho : ops[i]? = some o) (hw : wantd ops σ o = some true) (hE : Nat.testBit E i = false) (hM : Nat.testBit M i = false) (hd : o.dst = some d) (hlt : Nat.blt d N = true) (hs : Still P N σ (fun _ => none) [] o v)
    (q : VX X P N ops hS blS E M F K on rest ((d, v) :: σ) h bl) : VX X P N ops hS blS E M F K on (i :: rest) σ h bl := by
  intro a w ha hr hk
  show Xs _ _ _ _ _ _ _ (Xl _ _ _ _ _ _ _ rest) _ _
  refine ⟨fun e _ => (by rw [hE] at e; cases e), fun e => (by rw [hM] at e; cases e), o, ho, ?_⟩
  rw [if_pos (wanted_of ha hw), if_neg (by rw [hE]; simp), hd]
  exact ⟨v, fun w' _ => hs a w' ha ⟨fun b o h => (by cases h), fun p hp => (by simp at hp)⟩, q _ _ (ha.put (Nat.le_of_ble_eq_true hlt) v) hr hk⟩
theorem VX_skip {o : Oper} {d : Nat} (ho : ops[i]? = some o) (hw : wantd ops σ o = some false) (hon : (on || !(Nat.testBit E i && Nat.testBit F i || Nat.testBit M i)) = true) (hd : o.dst = some d) (hlt : Nat.blt d N = true)
    (q : VX X P N ops hS blS E M F K on rest ((d, undef) :: σ) h bl) : VX X P N ops hS blS E M F K on (i :: rest) σ h bl := by
  intro a w ha hr hk
  show Xs _ _ _ _ _ _ _ (Xl _ _ _ _ _ _ _ rest) _ _
  refine ⟨fun e f => hk (by rw [e, f] at hon; simpa using hon), fun e => hk (by rw [e] at hon; simpa using hon), o, ho, ?_⟩
  rw [if_neg (by rw [wanted_of ha hw]; simp), hd]
  exact q _ _ (ha.put (Nat.le_of_ble_eq_true hlt) _) hr hk
theorem VX_skip0 {o : Oper} (ho : ops[i]? = some o) (hw : wantd ops σ o = some false) (hon : (on || !(Nat.testBit E i && Nat.testBit F i || Nat.testBit M i)) = true) (hd : o.dst = none)
    (q : VX X P N ops hS blS E M F K on rest σ h bl) : VX X P N ops hS blS E M F K on (i :: rest) σ h bl := by
  intro a w ha hr hk
  show Xs _ _ _ _ _ _ _ (Xl _ _ _ _ _ _ _ rest) _ _
  refine ⟨fun e f => hk (by rw [e, f] at hon; simpa using hon), fun e => hk (by rw [e] at hon; simpa using hon), o, ho, ?_⟩
  rw [if_neg (by rw [wanted_of ha hw]; simp), hd]
  exact q _ _ ha hr hk
/-- It acts, and S holds still. -/
theorem VX_eff {o : Oper} {Post : List (Nat × Value) → Hp → Bl → Prop} (ho : ops[i]? = some o) (hw : wantd ops σ o = some true) (hE : Nat.testBit E i = true) (hM : Nat.testBit M i = false) (hon : (on || !(Nat.testBit F i)) = true) (he : Eff X P N o σ h bl Post)
    (q : ∀ σ' h' bl', Post σ' h' bl' → (Sub hS h' ∧ SubB bl' blS) ∧ VX X P N ops hS blS E M F K true rest σ' h' bl') : VX X P N ops hS blS E M F K on (i :: rest) σ h bl := by
  intro a w ha hr hk
  show Xs _ _ _ _ _ _ _ (Xl _ _ _ _ _ _ _ rest) _ _
  refine ⟨fun _ f => hk (by rw [f] at hon; simpa using hon), fun e => (by rw [hM] at e; cases e), o, ho, ?_⟩
  rw [if_pos (wanted_of ha hw), if_pos hE]
  exact wp_exits (fun a' w' ⟨σ', h', bl', hp, hf, hr'⟩ => (q σ' h' bl' hp).2 a' w' hf hr' (fun _ => SubB.knows hr' (q σ' h' bl' hp).1.1 (q σ' h' bl' hp).1.2)) (he a w ha hr)
/-- It acts, and S need not hold any more. -/
theorem VX_effT {o : Oper} {Post : List (Nat × Value) → Hp → Bl → Prop} (ho : ops[i]? = some o) (hw : wantd ops σ o = some true) (hE : Nat.testBit E i = true) (hM : Nat.testBit M i = false) (hon : (on || !(Nat.testBit F i)) = true) (he : Eff X P N o σ h bl Post)
    (q : ∀ σ' h' bl', Post σ' h' bl' → VX X P N ops hS blS E M F K false rest σ' h' bl') : VX X P N ops hS blS E M F K on (i :: rest) σ h bl := by
  intro a w ha hr hk
  show Xs _ _ _ _ _ _ _ (Xl _ _ _ _ _ _ _ rest) _ _
  refine ⟨fun _ f => hk (by rw [f] at hon; simpa using hon), fun e => (by rw [hM] at e; cases e), o, ho, ?_⟩
  rw [if_pos (wanted_of ha hw), if_pos hE]
  exact wp_exits (fun a' w' ⟨σ', h', bl', hp, hf, hr'⟩ => q σ' h' bl' hp a' w' hf hr' (fun h => by cases h)) (he a w ha hr)
theorem VX_bool (t : Nat) {b : Bool} (ht : look σ t = some (.bool b)) (k1 : b = true → VX X P N ops hS blS E M F K on l ((t, .bool true) :: σ) h bl)
    (k2 : b = false → VX X P N ops hS blS E M F K on l ((t, .bool false) :: σ) h bl) : VX X P N ops hS blS E M F K on l σ h bl := by
  intro a w ha hr hk
  have key : ∀ c, b = c → Fr N ((t, .bool c) :: σ) a := by
    rintro c rfl
    refine ⟨ha.defers, ha.size, fun s u hs => ?_⟩
    rw [look_cons] at hs
    split at hs
    · rename_i e; subst e; cases hs; exact ha.at_ _ _ ht
    · exact ha.at_ _ _ hs
  cases hb : b with
  | true => exact k1 hb a w (key _ hb) hr hk
  | false => exact k2 hb a w (key _ hb) hr hk
end
end Go.Proofs.Ytdglignjoojimaa

/- The whole of the small program logic. No conditions. -/

/- What the seat's program says of its types, in the forms that the walk asks. No conditions. -/
namespace Go.Proofs.Ytdglignjoojimaa
theorem ti0 : Try.prog.info? 0 = some Try.t0 := by kernel_rfl
theorem ti1 : Try.prog.info? 1 = some Try.t1 := by kernel_rfl
theorem tz1 : ((Try.prog.info? 1).bind (·.zero)).map (·.cells) = some (List.toArray [.nilFunc]) := by kernel_rfl
theorem tx1 : TyI Try.prog 1 1 8 .nilFunc := ⟨Try.t1, ti1, rfl, rfl, rfl⟩
theorem ti2 : Try.prog.info? 2 = some Try.t2 := by kernel_rfl
theorem tz2 : ((Try.prog.info? 2).bind (·.zero)).map (·.cells) = some (List.toArray [(.int .i64 0)]) := by kernel_rfl
theorem tx2 : TyI Try.prog 2 1 8 (.int .i64 0) := ⟨Try.t2, ti2, rfl, rfl, rfl⟩
theorem ti3 : Try.prog.info? 3 = some Try.t3 := by kernel_rfl
theorem tz3 : ((Try.prog.info? 3).bind (·.zero)).map (·.cells) = some (List.toArray [(.int .i64 0)]) := by kernel_rfl
theorem tx3 : TyI Try.prog 3 1 8 (.int .i64 0) := ⟨Try.t3, ti3, rfl, rfl, rfl⟩
theorem ti4 : Try.prog.info? 4 = some Try.t4 := by kernel_rfl
theorem tz4 : ((Try.prog.info? 4).bind (·.zero)).map (·.cells) = some (List.toArray [(.bool false)]) := by kernel_rfl
theorem tx4 : TyI Try.prog 4 1 1 (.bool false) := ⟨Try.t4, ti4, rfl, rfl, rfl⟩
theorem ti5 : Try.prog.info? 5 = some Try.t5 := by kernel_rfl
theorem tz5 : ((Try.prog.info? 5).bind (·.zero)).map (·.cells) = some (List.toArray [(.int .u8 0)]) := by kernel_rfl
theorem tx5 : TyI Try.prog 5 1 1 (.int .u8 0) := ⟨Try.t5, ti5, rfl, rfl, rfl⟩
theorem ti6 : Try.prog.info? 6 = some Try.t6 := by kernel_rfl
theorem tz6 : ((Try.prog.info? 6).bind (·.zero)).map (·.cells) = some (List.toArray [(.int .u8 0)]) := by kernel_rfl
theorem tx6 : TyI Try.prog 6 1 1 (.int .u8 0) := ⟨Try.t6, ti6, rfl, rfl, rfl⟩
theorem ti7 : Try.prog.info? 7 = some Try.t7 := by kernel_rfl
theorem tz7 : ((Try.prog.info? 7).bind (·.zero)).map (·.cells) = some (List.toArray [(.int .i64 0), (.int .i64 0), (.bool false), (.int .u8 0)]) := by kernel_rfl
theorem tx7 : TyI Try.prog 7 4 24 (.agg #[(.int .i64 0), (.int .i64 0), (.bool false), (.int .u8 0)]) := ⟨Try.t7, ti7, rfl, rfl, rfl⟩
theorem to7 : okFs Try.prog #[{ name := "x", type := 2, offset := 0, embedded := false, tag := "", pkgPath := "runtime", byteOffset := 0 }, { name := "y", type := 3, offset := 1, embedded := false, tag := "", pkgPath := "runtime", byteOffset := 8 }, { name := "signed", type := 4, offset := 2, embedded := false, tag := "", pkgPath := "runtime", byteOffset := 16 }, { name := "code", type := 6, offset := 3, embedded := false, tag := "", pkgPath := "runtime", byteOffset := 17 }] = true := by kernel_rfl
theorem ti8 : Try.prog.info? 8 = some Try.t8 := by kernel_rfl
theorem tz8 : ((Try.prog.info? 8).bind (·.zero)).map (·.cells) = some (List.toArray [(.int .i64 0), (.int .i64 0), (.bool false), (.int .u8 0)]) := by kernel_rfl
theorem tx8 : TyI Try.prog 8 4 24 (.agg #[(.int .i64 0), (.int .i64 0), (.bool false), (.int .u8 0)]) := ⟨Try.t8, ti8, rfl, rfl, rfl⟩
theorem to8 : okFs Try.prog #[{ name := "x", type := 2, offset := 0, embedded := false, tag := "", pkgPath := "runtime", byteOffset := 0 }, { name := "y", type := 3, offset := 1, embedded := false, tag := "", pkgPath := "runtime", byteOffset := 8 }, { name := "signed", type := 4, offset := 2, embedded := false, tag := "", pkgPath := "runtime", byteOffset := 16 }, { name := "code", type := 6, offset := 3, embedded := false, tag := "", pkgPath := "runtime", byteOffset := 17 }] = true := by kernel_rfl
theorem ti9 : Try.prog.info? 9 = some Try.t9 := by kernel_rfl
theorem tz9 : ((Try.prog.info? 9).bind (·.zero)).map (·.cells) = some (List.toArray [(.string ByteArray.empty)]) := by kernel_rfl
theorem tx9 : TyI Try.prog 9 1 16 (.string ByteArray.empty) := ⟨Try.t9, ti9, rfl, rfl, rfl⟩
theorem ti10 : Try.prog.info? 10 = some Try.t10 := by kernel_rfl
theorem tz10 : ((Try.prog.info? 10).bind (·.zero)).map (·.cells) = some (List.toArray [(.string ByteArray.empty)]) := by kernel_rfl
theorem tx10 : TyI Try.prog 10 1 16 (.string ByteArray.empty) := ⟨Try.t10, ti10, rfl, rfl, rfl⟩
theorem ti11 : Try.prog.info? 11 = some Try.t11 := by kernel_rfl
theorem tz11 : ((Try.prog.info? 11).bind (·.zero)).map (·.cells) = some (List.toArray [(.string ByteArray.empty)]) := by kernel_rfl
theorem tx11 : TyI Try.prog 11 1 16 (.string ByteArray.empty) := ⟨Try.t11, ti11, rfl, rfl, rfl⟩
theorem ti12 : Try.prog.info? 12 = some Try.t12 := by kernel_rfl
theorem tz12 : ((Try.prog.info? 12).bind (·.zero)).map (·.cells) = some (List.toArray [(.int .u64 0)]) := by kernel_rfl
theorem tx12 : TyI Try.prog 12 1 8 (.int .u64 0) := ⟨Try.t12, ti12, rfl, rfl, rfl⟩
theorem ti13 : Try.prog.info? 13 = some Try.t13 := by kernel_rfl
theorem tz13 : ((Try.prog.info? 13).bind (·.zero)).map (·.cells) = some (List.toArray [(.string ByteArray.empty), (.int .u64 0)]) := by kernel_rfl
theorem tx13 : TyI Try.prog 13 2 24 (.agg #[(.string ByteArray.empty), (.int .u64 0)]) := ⟨Try.t13, ti13, rfl, rfl, rfl⟩
theorem to13 : okFs Try.prog #[{ name := "msg", type := 9, offset := 0, embedded := false, tag := "", pkgPath := "runtime", byteOffset := 0 }, { name := "addr", type := 12, offset := 1, embedded := false, tag := "", pkgPath := "runtime", byteOffset := 16 }] = true := by kernel_rfl
theorem ti14 : Try.prog.info? 14 = some Try.t14 := by kernel_rfl
theorem tz14 : ((Try.prog.info? 14).bind (·.zero)).map (·.cells) = some (List.toArray [(.string ByteArray.empty), (.int .u64 0)]) := by kernel_rfl
theorem tx14 : TyI Try.prog 14 2 24 (.agg #[(.string ByteArray.empty), (.int .u64 0)]) := ⟨Try.t14, ti14, rfl, rfl, rfl⟩
theorem to14 : okFs Try.prog #[{ name := "msg", type := 9, offset := 0, embedded := false, tag := "", pkgPath := "runtime", byteOffset := 0 }, { name := "addr", type := 12, offset := 1, embedded := false, tag := "", pkgPath := "runtime", byteOffset := 16 }] = true := by kernel_rfl
theorem ti15 : Try.prog.info? 15 = some Try.t15 := by kernel_rfl
theorem tz15 : ((Try.prog.info? 15).bind (·.zero)).map (·.cells) = some (List.toArray [(.pointer none)]) := by kernel_rfl
theorem tx15 : TyI Try.prog 15 1 8 (.pointer none) := ⟨Try.t15, ti15, rfl, rfl, rfl⟩
theorem ti16 : Try.prog.info? 16 = some Try.t16 := by kernel_rfl
theorem tz16 : ((Try.prog.info? 16).bind (·.zero)).map (·.cells) = some (List.toArray [(.pointer none)]) := by kernel_rfl
theorem tx16 : TyI Try.prog 16 1 8 (.pointer none) := ⟨Try.t16, ti16, rfl, rfl, rfl⟩
theorem ti17 : Try.prog.info? 17 = some Try.t17 := by kernel_rfl
theorem tz17 : ((Try.prog.info? 17).bind (·.zero)).map (·.cells) = some (List.toArray [(.pointer none)]) := by kernel_rfl
theorem tx17 : TyI Try.prog 17 1 8 (.pointer none) := ⟨Try.t17, ti17, rfl, rfl, rfl⟩
theorem ti18 : Try.prog.info? 18 = some Try.t18 := by kernel_rfl
theorem tz18 : ((Try.prog.info? 18).bind (·.zero)).map (·.cells) = some (List.toArray [(.pointer none)]) := by kernel_rfl
theorem tx18 : TyI Try.prog 18 1 8 (.agg #[(.pointer none)]) := ⟨Try.t18, ti18, rfl, rfl, rfl⟩
theorem to18 : okFs Try.prog #[{ name := "typ", type := 17, offset := 0, embedded := false, tag := "", pkgPath := "internal/runtime/maps", byteOffset := 0 }] = true := by kernel_rfl
theorem ti19 : Try.prog.info? 19 = some Try.t19 := by kernel_rfl
theorem tz19 : ((Try.prog.info? 19).bind (·.zero)).map (·.cells) = some (List.toArray [(.pointer none)]) := by kernel_rfl
theorem tx19 : TyI Try.prog 19 1 8 (.agg #[(.pointer none)]) := ⟨Try.t19, ti19, rfl, rfl, rfl⟩
theorem to19 : okFs Try.prog #[{ name := "typ", type := 17, offset := 0, embedded := false, tag := "", pkgPath := "internal/runtime/maps", byteOffset := 0 }] = true := by kernel_rfl
theorem ti20 : Try.prog.info? 20 = some Try.t20 := by kernel_rfl
theorem tz20 : ((Try.prog.info? 20).bind (·.zero)).map (·.cells) = some (List.toArray [.nilIface]) := by kernel_rfl
theorem tx20 : TyI Try.prog 20 1 16 .nilIface := ⟨Try.t20, ti20, rfl, rfl, rfl⟩
theorem ti21 : Try.prog.info? 21 = some Try.t21 := by kernel_rfl
theorem tz21 : ((Try.prog.info? 21).bind (·.zero)).map (·.cells) = some (List.toArray [(.int .i32 0)]) := by kernel_rfl
theorem tx21 : TyI Try.prog 21 1 4 (.int .i32 0) := ⟨Try.t21, ti21, rfl, rfl, rfl⟩
theorem ti22 : Try.prog.info? 22 = some Try.t22 := by kernel_rfl
theorem tz22 : ((Try.prog.info? 22).bind (·.zero)).map (·.cells) = some (List.toArray [(.slice none 0 0)]) := by kernel_rfl
theorem tx22 : TyI Try.prog 22 1 24 (.slice none 0 0) := ⟨Try.t22, ti22, rfl, rfl, rfl⟩
theorem ti23 : Try.prog.info? 23 = some Try.t23 := by kernel_rfl
theorem tz23 : ((Try.prog.info? 23).bind (·.zero)).map (·.cells) = some (List.toArray [(.int .u64 0)]) := by kernel_rfl
theorem tx23 : TyI Try.prog 23 1 8 (.int .u64 0) := ⟨Try.t23, ti23, rfl, rfl, rfl⟩
theorem ti24 : Try.prog.info? 24 = some Try.t24 := by kernel_rfl
theorem tz24 : ((Try.prog.info? 24).bind (·.zero)).map (·.cells) = some (List.toArray [.nilFunc]) := by kernel_rfl
theorem tx24 : TyI Try.prog 24 1 8 .nilFunc := ⟨Try.t24, ti24, rfl, rfl, rfl⟩
theorem ti25 : Try.prog.info? 25 = some Try.t25 := by kernel_rfl
theorem tz25 : ((Try.prog.info? 25).bind (·.zero)).map (·.cells) = some (List.toArray [(.pointer none)]) := by kernel_rfl
theorem tx25 : TyI Try.prog 25 1 8 (.pointer none) := ⟨Try.t25, ti25, rfl, rfl, rfl⟩
theorem ti26 : Try.prog.info? 26 = some Try.t26 := by kernel_rfl
theorem tz26 : ((Try.prog.info? 26).bind (·.zero)).map (·.cells) = some (List.toArray [(.slice none 0 0)]) := by kernel_rfl
theorem tx26 : TyI Try.prog 26 1 24 (.slice none 0 0) := ⟨Try.t26, ti26, rfl, rfl, rfl⟩
theorem ti27 : Try.prog.info? 27 = some Try.t27 := by kernel_rfl
theorem ti28 : Try.prog.info? 28 = some Try.t28 := by kernel_rfl
theorem tz28 : ((Try.prog.info? 28).bind (·.zero)).map (·.cells) = some (List.toArray [.nilFunc]) := by kernel_rfl
theorem tx28 : TyI Try.prog 28 1 8 .nilFunc := ⟨Try.t28, ti28, rfl, rfl, rfl⟩
theorem ti29 : Try.prog.info? 29 = some Try.t29 := by kernel_rfl
theorem tz29 : ((Try.prog.info? 29).bind (·.zero)).map (·.cells) = some (List.toArray [.nilFunc]) := by kernel_rfl
theorem tx29 : TyI Try.prog 29 1 8 .nilFunc := ⟨Try.t29, ti29, rfl, rfl, rfl⟩
theorem ti30 : Try.prog.info? 30 = some Try.t30 := by kernel_rfl
theorem tz30 : ((Try.prog.info? 30).bind (·.zero)).map (·.cells) = some (List.toArray [.nilFunc]) := by kernel_rfl
theorem tx30 : TyI Try.prog 30 1 8 .nilFunc := ⟨Try.t30, ti30, rfl, rfl, rfl⟩
theorem ti31 : Try.prog.info? 31 = some Try.t31 := by kernel_rfl
theorem tz31 : ((Try.prog.info? 31).bind (·.zero)).map (·.cells) = some (List.toArray [.nilFunc]) := by kernel_rfl
theorem tx31 : TyI Try.prog 31 1 8 .nilFunc := ⟨Try.t31, ti31, rfl, rfl, rfl⟩
theorem ti32 : Try.prog.info? 32 = some Try.t32 := by kernel_rfl
theorem tz32 : ((Try.prog.info? 32).bind (·.zero)).map (·.cells) = some (List.toArray [.nilFunc]) := by kernel_rfl
theorem tx32 : TyI Try.prog 32 1 8 .nilFunc := ⟨Try.t32, ti32, rfl, rfl, rfl⟩
theorem ti33 : Try.prog.info? 33 = some Try.t33 := by kernel_rfl
theorem tz33 : ((Try.prog.info? 33).bind (·.zero)).map (·.cells) = some (List.toArray [(.int .i64 0), (.int .i64 0)]) := by kernel_rfl
theorem tx33 : TyI Try.prog 33 2 16 (.agg #[(.int .i64 0), (.int .i64 0)]) := ⟨Try.t33, ti33, rfl, rfl, rfl⟩
theorem to33 : okFs Try.prog #[{ name := "Start", type := 3, offset := 0, embedded := false, tag := "", pkgPath := "", byteOffset := 0 }, { name := "Len", type := 3, offset := 1, embedded := false, tag := "", pkgPath := "", byteOffset := 8 }] = true := by kernel_rfl
theorem ti34 : Try.prog.info? 34 = some Try.t34 := by kernel_rfl
theorem tz34 : ((Try.prog.info? 34).bind (·.zero)).map (·.cells) = some (List.toArray [(.int .i64 0), (.int .i64 0)]) := by kernel_rfl
theorem tx34 : TyI Try.prog 34 2 16 (.agg #[(.int .i64 0), (.int .i64 0)]) := ⟨Try.t34, ti34, rfl, rfl, rfl⟩
theorem to34 : okFs Try.prog #[{ name := "Start", type := 3, offset := 0, embedded := false, tag := "", pkgPath := "", byteOffset := 0 }, { name := "Len", type := 3, offset := 1, embedded := false, tag := "", pkgPath := "", byteOffset := 8 }] = true := by kernel_rfl
theorem ti35 : Try.prog.info? 35 = some Try.t35 := by kernel_rfl
theorem tz35 : ((Try.prog.info? 35).bind (·.zero)).map (·.cells) = some (List.toArray [(.int .i64 0), (.int .u64 0), (.int .i64 0), (.int .i64 0)]) := by kernel_rfl
theorem tx35 : TyI Try.prog 35 4 32 (.agg #[(.int .i64 0), (.int .u64 0), (.int .i64 0), (.int .i64 0)]) := ⟨Try.t35, ti35, rfl, rfl, rfl⟩
theorem to35 : okFs Try.prog #[{ name := "Kind", type := 3, offset := 0, embedded := false, tag := "", pkgPath := "", byteOffset := 0 }, { name := "Key", type := 23, offset := 1, embedded := false, tag := "", pkgPath := "", byteOffset := 8 }, { name := "At", type := 34, offset := 2, embedded := false, tag := "", pkgPath := "", byteOffset := 16 }] = true := by kernel_rfl
theorem ti36 : Try.prog.info? 36 = some Try.t36 := by kernel_rfl
theorem tz36 : ((Try.prog.info? 36).bind (·.zero)).map (·.cells) = some (List.toArray [(.int .i64 0), (.int .u64 0), (.int .i64 0), (.int .i64 0)]) := by kernel_rfl
theorem tx36 : TyI Try.prog 36 4 32 (.agg #[(.int .i64 0), (.int .u64 0), (.int .i64 0), (.int .i64 0)]) := ⟨Try.t36, ti36, rfl, rfl, rfl⟩
theorem to36 : okFs Try.prog #[{ name := "Kind", type := 3, offset := 0, embedded := false, tag := "", pkgPath := "", byteOffset := 0 }, { name := "Key", type := 23, offset := 1, embedded := false, tag := "", pkgPath := "", byteOffset := 8 }, { name := "At", type := 34, offset := 2, embedded := false, tag := "", pkgPath := "", byteOffset := 16 }] = true := by kernel_rfl
theorem ti37 : Try.prog.info? 37 = some Try.t37 := by kernel_rfl
theorem ti38 : Try.prog.info? 38 = some Try.t38 := by kernel_rfl
theorem tz38 : ((Try.prog.info? 38).bind (·.zero)).map (·.cells) = some (List.toArray [.nilFunc]) := by kernel_rfl
theorem tx38 : TyI Try.prog 38 1 8 .nilFunc := ⟨Try.t38, ti38, rfl, rfl, rfl⟩
theorem ti39 : Try.prog.info? 39 = some Try.t39 := by kernel_rfl
theorem tz39 : ((Try.prog.info? 39).bind (·.zero)).map (·.cells) = some (List.toArray [.nilFunc]) := by kernel_rfl
theorem tx39 : TyI Try.prog 39 1 8 .nilFunc := ⟨Try.t39, ti39, rfl, rfl, rfl⟩
theorem ti40 : Try.prog.info? 40 = some Try.t40 := by kernel_rfl
theorem tz40 : ((Try.prog.info? 40).bind (·.zero)).map (·.cells) = some (List.toArray [.nilFunc]) := by kernel_rfl
theorem tx40 : TyI Try.prog 40 1 8 .nilFunc := ⟨Try.t40, ti40, rfl, rfl, rfl⟩
theorem ti41 : Try.prog.info? 41 = some Try.t41 := by kernel_rfl
theorem tz41 : ((Try.prog.info? 41).bind (·.zero)).map (·.cells) = some (List.toArray [(.slice none 0 0)]) := by kernel_rfl
theorem tx41 : TyI Try.prog 41 1 24 (.slice none 0 0) := ⟨Try.t41, ti41, rfl, rfl, rfl⟩
theorem ti42 : Try.prog.info? 42 = some Try.t42 := by kernel_rfl
theorem tz42 : ((Try.prog.info? 42).bind (·.zero)).map (·.cells) = some (List.toArray [.nilFunc]) := by kernel_rfl
theorem tx42 : TyI Try.prog 42 1 8 .nilFunc := ⟨Try.t42, ti42, rfl, rfl, rfl⟩
theorem ti43 : Try.prog.info? 43 = some Try.t43 := by kernel_rfl
theorem tz43 : ((Try.prog.info? 43).bind (·.zero)).map (·.cells) = some (List.toArray [.nilFunc]) := by kernel_rfl
theorem tx43 : TyI Try.prog 43 1 8 .nilFunc := ⟨Try.t43, ti43, rfl, rfl, rfl⟩
theorem ti44 : Try.prog.info? 44 = some Try.t44 := by kernel_rfl
theorem tz44 : ((Try.prog.info? 44).bind (·.zero)).map (·.cells) = some (List.toArray [.nilFunc]) := by kernel_rfl
theorem tx44 : TyI Try.prog 44 1 8 .nilFunc := ⟨Try.t44, ti44, rfl, rfl, rfl⟩
theorem ti45 : Try.prog.info? 45 = some Try.t45 := by kernel_rfl
theorem tz45 : ((Try.prog.info? 45).bind (·.zero)).map (·.cells) = some (List.toArray [.nilFunc]) := by kernel_rfl
theorem tx45 : TyI Try.prog 45 1 8 .nilFunc := ⟨Try.t45, ti45, rfl, rfl, rfl⟩
theorem ti46 : Try.prog.info? 46 = some Try.t46 := by kernel_rfl
theorem tz46 : ((Try.prog.info? 46).bind (·.zero)).map (·.cells) = some (List.toArray [(.int .u64 0), (.int .i64 0), (.int .i64 0)]) := by kernel_rfl
theorem tx46 : TyI Try.prog 46 3 24 (.agg #[(.int .u64 0), (.int .i64 0), (.int .i64 0)]) := ⟨Try.t46, ti46, rfl, rfl, rfl⟩
theorem to46 : okFs Try.prog #[{ name := "Key", type := 23, offset := 0, embedded := false, tag := "", pkgPath := "", byteOffset := 0 }, { name := "At", type := 34, offset := 1, embedded := false, tag := "", pkgPath := "", byteOffset := 8 }] = true := by kernel_rfl
theorem ti47 : Try.prog.info? 47 = some Try.t47 := by kernel_rfl
theorem tz47 : ((Try.prog.info? 47).bind (·.zero)).map (·.cells) = some (List.toArray [(.int .u64 0), (.int .i64 0), (.int .i64 0)]) := by kernel_rfl
theorem tx47 : TyI Try.prog 47 3 24 (.agg #[(.int .u64 0), (.int .i64 0), (.int .i64 0)]) := ⟨Try.t47, ti47, rfl, rfl, rfl⟩
theorem to47 : okFs Try.prog #[{ name := "Key", type := 23, offset := 0, embedded := false, tag := "", pkgPath := "", byteOffset := 0 }, { name := "At", type := 34, offset := 1, embedded := false, tag := "", pkgPath := "", byteOffset := 8 }] = true := by kernel_rfl
theorem ti48 : Try.prog.info? 48 = some Try.t48 := by kernel_rfl
theorem tz48 : ((Try.prog.info? 48).bind (·.zero)).map (·.cells) = some (List.toArray [.nilFunc]) := by kernel_rfl
theorem tx48 : TyI Try.prog 48 1 8 .nilFunc := ⟨Try.t48, ti48, rfl, rfl, rfl⟩
theorem ti49 : Try.prog.info? 49 = some Try.t49 := by kernel_rfl
theorem ti50 : Try.prog.info? 50 = some Try.t50 := by kernel_rfl
theorem tz50 : ((Try.prog.info? 50).bind (·.zero)).map (·.cells) = some (List.toArray [.nilFunc]) := by kernel_rfl
theorem tx50 : TyI Try.prog 50 1 8 .nilFunc := ⟨Try.t50, ti50, rfl, rfl, rfl⟩
theorem ti51 : Try.prog.info? 51 = some Try.t51 := by kernel_rfl
theorem tz51 : ((Try.prog.info? 51).bind (·.zero)).map (·.cells) = some (List.toArray [(.int .i64 0)]) := by kernel_rfl
theorem tx51 : TyI Try.prog 51 1 8 (.int .i64 0) := ⟨Try.t51, ti51, rfl, rfl, rfl⟩
theorem ti52 : Try.prog.info? 52 = some Try.t52 := by kernel_rfl
theorem ti53 : Try.prog.info? 53 = some Try.t53 := by kernel_rfl
theorem tz53 : ((Try.prog.info? 53).bind (·.zero)).map (·.cells) = some (List.toArray [.nilFunc]) := by kernel_rfl
theorem tx53 : TyI Try.prog 53 1 8 .nilFunc := ⟨Try.t53, ti53, rfl, rfl, rfl⟩
theorem ti54 : Try.prog.info? 54 = some Try.t54 := by kernel_rfl
theorem tz54 : ((Try.prog.info? 54).bind (·.zero)).map (·.cells) = some (List.toArray [.nilFunc]) := by kernel_rfl
theorem tx54 : TyI Try.prog 54 1 8 .nilFunc := ⟨Try.t54, ti54, rfl, rfl, rfl⟩
theorem ti55 : Try.prog.info? 55 = some Try.t55 := by kernel_rfl
theorem tz55 : ((Try.prog.info? 55).bind (·.zero)).map (·.cells) = some (List.toArray [.nilFunc]) := by kernel_rfl
theorem tx55 : TyI Try.prog 55 1 8 .nilFunc := ⟨Try.t55, ti55, rfl, rfl, rfl⟩
theorem ti56 : Try.prog.info? 56 = some Try.t56 := by kernel_rfl
theorem tz56 : ((Try.prog.info? 56).bind (·.zero)).map (·.cells) = some (List.toArray [.nilFunc]) := by kernel_rfl
theorem tx56 : TyI Try.prog 56 1 8 .nilFunc := ⟨Try.t56, ti56, rfl, rfl, rfl⟩
theorem ti57 : Try.prog.info? 57 = some Try.t57 := by kernel_rfl
theorem tz57 : ((Try.prog.info? 57).bind (·.zero)).map (·.cells) = some (List.toArray [.nilFunc]) := by kernel_rfl
theorem tx57 : TyI Try.prog 57 1 8 .nilFunc := ⟨Try.t57, ti57, rfl, rfl, rfl⟩
theorem ti58 : Try.prog.info? 58 = some Try.t58 := by kernel_rfl
theorem tz58 : ((Try.prog.info? 58).bind (·.zero)).map (·.cells) = some (List.toArray [.nilFunc]) := by kernel_rfl
theorem tx58 : TyI Try.prog 58 1 8 .nilFunc := ⟨Try.t58, ti58, rfl, rfl, rfl⟩
theorem ti59 : Try.prog.info? 59 = some Try.t59 := by kernel_rfl
theorem tz59 : ((Try.prog.info? 59).bind (·.zero)).map (·.cells) = some (List.toArray [(.slice none 0 0)]) := by kernel_rfl
theorem tx59 : TyI Try.prog 59 1 24 (.slice none 0 0) := ⟨Try.t59, ti59, rfl, rfl, rfl⟩
theorem ti60 : Try.prog.info? 60 = some Try.t60 := by kernel_rfl
theorem tz60 : ((Try.prog.info? 60).bind (·.zero)).map (·.cells) = some (List.toArray [(.pointer none)]) := by kernel_rfl
theorem tx60 : TyI Try.prog 60 1 8 (.pointer none) := ⟨Try.t60, ti60, rfl, rfl, rfl⟩
theorem ti61 : Try.prog.info? 61 = some Try.t61 := by kernel_rfl
theorem tz61 : ((Try.prog.info? 61).bind (·.zero)).map (·.cells) = some (List.toArray [.nilFunc]) := by kernel_rfl
theorem tx61 : TyI Try.prog 61 1 8 .nilFunc := ⟨Try.t61, ti61, rfl, rfl, rfl⟩
theorem ti62 : Try.prog.info? 62 = some Try.t62 := by kernel_rfl
theorem tz62 : ((Try.prog.info? 62).bind (·.zero)).map (·.cells) = some (List.toArray [(.slice none 0 0)]) := by kernel_rfl
theorem tx62 : TyI Try.prog 62 1 24 (.slice none 0 0) := ⟨Try.t62, ti62, rfl, rfl, rfl⟩
theorem ti63 : Try.prog.info? 63 = some Try.t63 := by kernel_rfl
theorem tz63 : ((Try.prog.info? 63).bind (·.zero)).map (·.cells) = some (List.toArray [(.slice none 0 0), (.slice none 0 0), (.int .i64 0), (.bool false)]) := by kernel_rfl
theorem tx63 : TyI Try.prog 63 4 64 (.agg #[(.slice none 0 0), (.slice none 0 0), (.int .i64 0), (.bool false)]) := ⟨Try.t63, ti63, rfl, rfl, rfl⟩
theorem to63 : okFs Try.prog #[{ name := "Stable", type := 59, offset := 0, embedded := false, tag := "", pkgPath := "", byteOffset := 0 }, { name := "Pending", type := 62, offset := 1, embedded := false, tag := "", pkgPath := "", byteOffset := 24 }, { name := "Fuel", type := 3, offset := 2, embedded := false, tag := "", pkgPath := "", byteOffset := 48 }, { name := "Dead", type := 4, offset := 3, embedded := false, tag := "", pkgPath := "", byteOffset := 56 }] = true := by kernel_rfl
theorem ti64 : Try.prog.info? 64 = some Try.t64 := by kernel_rfl
theorem tz64 : ((Try.prog.info? 64).bind (·.zero)).map (·.cells) = some (List.toArray [(.slice none 0 0), (.slice none 0 0), (.int .i64 0), (.bool false)]) := by kernel_rfl
theorem tx64 : TyI Try.prog 64 4 64 (.agg #[(.slice none 0 0), (.slice none 0 0), (.int .i64 0), (.bool false)]) := ⟨Try.t64, ti64, rfl, rfl, rfl⟩
theorem to64 : okFs Try.prog #[{ name := "Stable", type := 59, offset := 0, embedded := false, tag := "", pkgPath := "", byteOffset := 0 }, { name := "Pending", type := 62, offset := 1, embedded := false, tag := "", pkgPath := "", byteOffset := 24 }, { name := "Fuel", type := 3, offset := 2, embedded := false, tag := "", pkgPath := "", byteOffset := 48 }, { name := "Dead", type := 4, offset := 3, embedded := false, tag := "", pkgPath := "", byteOffset := 56 }] = true := by kernel_rfl
theorem ti65 : Try.prog.info? 65 = some Try.t65 := by kernel_rfl
theorem tz65 : ((Try.prog.info? 65).bind (·.zero)).map (·.cells) = some (List.toArray [.nilFunc]) := by kernel_rfl
theorem tx65 : TyI Try.prog 65 1 8 .nilFunc := ⟨Try.t65, ti65, rfl, rfl, rfl⟩
theorem ti66 : Try.prog.info? 66 = some Try.t66 := by kernel_rfl
theorem ti67 : Try.prog.info? 67 = some Try.t67 := by kernel_rfl
theorem ti68 : Try.prog.info? 68 = some Try.t68 := by kernel_rfl
theorem tz68 : ((Try.prog.info? 68).bind (·.zero)).map (·.cells) = some (List.toArray [.nilFunc]) := by kernel_rfl
theorem tx68 : TyI Try.prog 68 1 8 .nilFunc := ⟨Try.t68, ti68, rfl, rfl, rfl⟩
theorem ti69 : Try.prog.info? 69 = some Try.t69 := by kernel_rfl
theorem ti70 : Try.prog.info? 70 = some Try.t70 := by kernel_rfl
theorem tz70 : ((Try.prog.info? 70).bind (·.zero)).map (·.cells) = some (List.toArray [.nilFunc]) := by kernel_rfl
theorem tx70 : TyI Try.prog 70 1 8 .nilFunc := ⟨Try.t70, ti70, rfl, rfl, rfl⟩
theorem ti71 : Try.prog.info? 71 = some Try.t71 := by kernel_rfl
theorem tz71 : ((Try.prog.info? 71).bind (·.zero)).map (·.cells) = some (List.toArray [(.slice none 0 0)]) := by kernel_rfl
theorem tx71 : TyI Try.prog 71 1 24 (.slice none 0 0) := ⟨Try.t71, ti71, rfl, rfl, rfl⟩
theorem ti72 : Try.prog.info? 72 = some Try.t72 := by kernel_rfl
theorem ti73 : Try.prog.info? 73 = some Try.t73 := by kernel_rfl
theorem tz73 : ((Try.prog.info? 73).bind (·.zero)).map (·.cells) = some (List.toArray [.nilFunc]) := by kernel_rfl
theorem tx73 : TyI Try.prog 73 1 8 .nilFunc := ⟨Try.t73, ti73, rfl, rfl, rfl⟩
theorem ti74 : Try.prog.info? 74 = some Try.t74 := by kernel_rfl
theorem ti75 : Try.prog.info? 75 = some Try.t75 := by kernel_rfl
theorem tz75 : ((Try.prog.info? 75).bind (·.zero)).map (·.cells) = some (List.toArray [.nilFunc]) := by kernel_rfl
theorem tx75 : TyI Try.prog 75 1 8 .nilFunc := ⟨Try.t75, ti75, rfl, rfl, rfl⟩
theorem ti76 : Try.prog.info? 76 = some Try.t76 := by kernel_rfl
theorem tz76 : ((Try.prog.info? 76).bind (·.zero)).map (·.cells) = some (List.toArray [.nilFunc]) := by kernel_rfl
theorem tx76 : TyI Try.prog 76 1 8 .nilFunc := ⟨Try.t76, ti76, rfl, rfl, rfl⟩
theorem ti77 : Try.prog.info? 77 = some Try.t77 := by kernel_rfl
theorem tz77 : ((Try.prog.info? 77).bind (·.zero)).map (·.cells) = some (List.toArray [(.int .i64 0), (.int .i64 0)]) := by kernel_rfl
theorem tx77 : TyI Try.prog 77 2 16 (.agg #[(.int .i64 0), (.int .i64 0)]) := ⟨Try.t77, ti77, rfl, rfl, rfl⟩
theorem ti78 : Try.prog.info? 78 = some Try.t78 := by kernel_rfl
theorem tz78 : ((Try.prog.info? 78).bind (·.zero)).map (·.cells) = some (List.toArray [.nilFunc]) := by kernel_rfl
theorem tx78 : TyI Try.prog 78 1 8 .nilFunc := ⟨Try.t78, ti78, rfl, rfl, rfl⟩
theorem ti79 : Try.prog.info? 79 = some Try.t79 := by kernel_rfl
theorem ti80 : Try.prog.info? 80 = some Try.t80 := by kernel_rfl
theorem tz80 : ((Try.prog.info? 80).bind (·.zero)).map (·.cells) = some (List.toArray [.nilFunc]) := by kernel_rfl
theorem tx80 : TyI Try.prog 80 1 8 .nilFunc := ⟨Try.t80, ti80, rfl, rfl, rfl⟩
theorem ti81 : Try.prog.info? 81 = some Try.t81 := by kernel_rfl
theorem tz81 : ((Try.prog.info? 81).bind (·.zero)).map (·.cells) = some (List.toArray [.nilFunc]) := by kernel_rfl
theorem tx81 : TyI Try.prog 81 1 8 .nilFunc := ⟨Try.t81, ti81, rfl, rfl, rfl⟩
theorem ti82 : Try.prog.info? 82 = some Try.t82 := by kernel_rfl
theorem tz82 : ((Try.prog.info? 82).bind (·.zero)).map (·.cells) = some (List.toArray [.nilFunc]) := by kernel_rfl
theorem tx82 : TyI Try.prog 82 1 8 .nilFunc := ⟨Try.t82, ti82, rfl, rfl, rfl⟩
theorem ti83 : Try.prog.info? 83 = some Try.t83 := by kernel_rfl
theorem tz83 : ((Try.prog.info? 83).bind (·.zero)).map (·.cells) = some (List.toArray [(.pointer none)]) := by kernel_rfl
theorem tx83 : TyI Try.prog 83 1 8 (.pointer none) := ⟨Try.t83, ti83, rfl, rfl, rfl⟩
theorem ti84 : Try.prog.info? 84 = some Try.t84 := by kernel_rfl
theorem tz84 : ((Try.prog.info? 84).bind (·.zero)).map (·.cells) = some (List.toArray [(.pointer none), (.int .i64 0)]) := by kernel_rfl
theorem tx84 : TyI Try.prog 84 2 16 (.agg #[(.pointer none), (.int .i64 0)]) := ⟨Try.t84, ti84, rfl, rfl, rfl⟩
theorem to84 : okFs Try.prog #[{ name := "root", type := 83, offset := 0, embedded := false, tag := "", pkgPath := "bailey/tree", byteOffset := 0 }, { name := "len", type := 3, offset := 1, embedded := false, tag := "", pkgPath := "bailey/tree", byteOffset := 8 }] = true := by kernel_rfl
theorem ti85 : Try.prog.info? 85 = some Try.t85 := by kernel_rfl
theorem tz85 : ((Try.prog.info? 85).bind (·.zero)).map (·.cells) = some (List.toArray [(.pointer none), (.int .i64 0)]) := by kernel_rfl
theorem tx85 : TyI Try.prog 85 2 16 (.agg #[(.pointer none), (.int .i64 0)]) := ⟨Try.t85, ti85, rfl, rfl, rfl⟩
theorem to85 : okFs Try.prog #[{ name := "root", type := 83, offset := 0, embedded := false, tag := "", pkgPath := "bailey/tree", byteOffset := 0 }, { name := "len", type := 3, offset := 1, embedded := false, tag := "", pkgPath := "bailey/tree", byteOffset := 8 }] = true := by kernel_rfl
theorem ti86 : Try.prog.info? 86 = some Try.t86 := by kernel_rfl
theorem tz86 : ((Try.prog.info? 86).bind (·.zero)).map (·.cells) = some (List.toArray [.nilFunc]) := by kernel_rfl
theorem tx86 : TyI Try.prog 86 1 8 .nilFunc := ⟨Try.t86, ti86, rfl, rfl, rfl⟩
theorem ti87 : Try.prog.info? 87 = some Try.t87 := by kernel_rfl
theorem tz87 : ((Try.prog.info? 87).bind (·.zero)).map (·.cells) = some (List.toArray [.nilFunc]) := by kernel_rfl
theorem tx87 : TyI Try.prog 87 1 8 .nilFunc := ⟨Try.t87, ti87, rfl, rfl, rfl⟩
theorem ti88 : Try.prog.info? 88 = some Try.t88 := by kernel_rfl
theorem tz88 : ((Try.prog.info? 88).bind (·.zero)).map (·.cells) = some (List.toArray [(.slice none 0 0)]) := by kernel_rfl
theorem tx88 : TyI Try.prog 88 1 24 (.slice none 0 0) := ⟨Try.t88, ti88, rfl, rfl, rfl⟩
theorem ti89 : Try.prog.info? 89 = some Try.t89 := by kernel_rfl
theorem tz89 : ((Try.prog.info? 89).bind (·.zero)).map (·.cells) = some (List.toArray [(.slice none 0 0)]) := by kernel_rfl
theorem tx89 : TyI Try.prog 89 1 24 (.slice none 0 0) := ⟨Try.t89, ti89, rfl, rfl, rfl⟩
theorem ti90 : Try.prog.info? 90 = some Try.t90 := by kernel_rfl
theorem tz90 : ((Try.prog.info? 90).bind (·.zero)).map (·.cells) = some (List.toArray [(.slice none 0 0)]) := by kernel_rfl
theorem tx90 : TyI Try.prog 90 1 24 (.slice none 0 0) := ⟨Try.t90, ti90, rfl, rfl, rfl⟩
theorem ti91 : Try.prog.info? 91 = some Try.t91 := by kernel_rfl
theorem tz91 : ((Try.prog.info? 91).bind (·.zero)).map (·.cells) = some (List.toArray [(.slice none 0 0), (.slice none 0 0), (.slice none 0 0)]) := by kernel_rfl
theorem tx91 : TyI Try.prog 91 3 72 (.agg #[(.slice none 0 0), (.slice none 0 0), (.slice none 0 0)]) := ⟨Try.t91, ti91, rfl, rfl, rfl⟩
theorem to91 : okFs Try.prog #[{ name := "keys", type := 88, offset := 0, embedded := false, tag := "", pkgPath := "bailey/tree", byteOffset := 0 }, { name := "vals", type := 89, offset := 1, embedded := false, tag := "", pkgPath := "bailey/tree", byteOffset := 24 }, { name := "kids", type := 90, offset := 2, embedded := false, tag := "", pkgPath := "bailey/tree", byteOffset := 48 }] = true := by kernel_rfl
theorem ti92 : Try.prog.info? 92 = some Try.t92 := by kernel_rfl
theorem tz92 : ((Try.prog.info? 92).bind (·.zero)).map (·.cells) = some (List.toArray [(.slice none 0 0), (.slice none 0 0), (.slice none 0 0)]) := by kernel_rfl
theorem tx92 : TyI Try.prog 92 3 72 (.agg #[(.slice none 0 0), (.slice none 0 0), (.slice none 0 0)]) := ⟨Try.t92, ti92, rfl, rfl, rfl⟩
theorem to92 : okFs Try.prog #[{ name := "keys", type := 88, offset := 0, embedded := false, tag := "", pkgPath := "bailey/tree", byteOffset := 0 }, { name := "vals", type := 89, offset := 1, embedded := false, tag := "", pkgPath := "bailey/tree", byteOffset := 24 }, { name := "kids", type := 90, offset := 2, embedded := false, tag := "", pkgPath := "bailey/tree", byteOffset := 48 }] = true := by kernel_rfl
theorem ti93 : Try.prog.info? 93 = some Try.t93 := by kernel_rfl
theorem tz93 : ((Try.prog.info? 93).bind (·.zero)).map (·.cells) = some (List.toArray [.nilFunc]) := by kernel_rfl
theorem tx93 : TyI Try.prog 93 1 8 .nilFunc := ⟨Try.t93, ti93, rfl, rfl, rfl⟩
theorem ti94 : Try.prog.info? 94 = some Try.t94 := by kernel_rfl
theorem ti95 : Try.prog.info? 95 = some Try.t95 := by kernel_rfl
theorem tz95 : ((Try.prog.info? 95).bind (·.zero)).map (·.cells) = some (List.toArray [.nilFunc]) := by kernel_rfl
theorem tx95 : TyI Try.prog 95 1 8 .nilFunc := ⟨Try.t95, ti95, rfl, rfl, rfl⟩
theorem ti96 : Try.prog.info? 96 = some Try.t96 := by kernel_rfl
theorem ti97 : Try.prog.info? 97 = some Try.t97 := by kernel_rfl
theorem tz97 : ((Try.prog.info? 97).bind (·.zero)).map (·.cells) = some (List.toArray [.nilFunc]) := by kernel_rfl
theorem tx97 : TyI Try.prog 97 1 8 .nilFunc := ⟨Try.t97, ti97, rfl, rfl, rfl⟩
theorem ti98 : Try.prog.info? 98 = some Try.t98 := by kernel_rfl
theorem tz98 : ((Try.prog.info? 98).bind (·.zero)).map (·.cells) = some (List.toArray [.nilFunc]) := by kernel_rfl
theorem tx98 : TyI Try.prog 98 1 8 .nilFunc := ⟨Try.t98, ti98, rfl, rfl, rfl⟩
theorem ti99 : Try.prog.info? 99 = some Try.t99 := by kernel_rfl
theorem ti100 : Try.prog.info? 100 = some Try.t100 := by kernel_rfl
theorem tz100 : ((Try.prog.info? 100).bind (·.zero)).map (·.cells) = some (List.toArray [.nilFunc]) := by kernel_rfl
theorem tx100 : TyI Try.prog 100 1 8 .nilFunc := ⟨Try.t100, ti100, rfl, rfl, rfl⟩
theorem ti101 : Try.prog.info? 101 = some Try.t101 := by kernel_rfl
theorem tz101 : ((Try.prog.info? 101).bind (·.zero)).map (·.cells) = some (List.toArray [(.pointer none)]) := by kernel_rfl
theorem tx101 : TyI Try.prog 101 1 8 (.pointer none) := ⟨Try.t101, ti101, rfl, rfl, rfl⟩
theorem ti102 : Try.prog.info? 102 = some Try.t102 := by kernel_rfl
theorem tz102 : ((Try.prog.info? 102).bind (·.zero)).map (·.cells) = some (List.toArray [(.slice none 0 0), (.int .i64 0), (.int .i64 0), (.int .i64 0), (.bool false)]) := by kernel_rfl
theorem tx102 : TyI Try.prog 102 5 56 (.agg #[(.slice none 0 0), (.int .i64 0), (.int .i64 0), (.int .i64 0), (.bool false)]) := ⟨Try.t102, ti102, rfl, rfl, rfl⟩
theorem to102 : okFs Try.prog #[{ name := "list", type := 41, offset := 0, embedded := false, tag := "", pkgPath := "bailey/tree", byteOffset := 0 }, { name := "next", type := 3, offset := 1, embedded := false, tag := "", pkgPath := "bailey/tree", byteOffset := 24 }, { name := "depth", type := 3, offset := 2, embedded := false, tag := "", pkgPath := "bailey/tree", byteOffset := 32 }, { name := "count", type := 3, offset := 3, embedded := false, tag := "", pkgPath := "bailey/tree", byteOffset := 40 }, { name := "bad", type := 4, offset := 4, embedded := false, tag := "", pkgPath := "bailey/tree", byteOffset := 48 }] = true := by kernel_rfl
theorem ti103 : Try.prog.info? 103 = some Try.t103 := by kernel_rfl
theorem tz103 : ((Try.prog.info? 103).bind (·.zero)).map (·.cells) = some (List.toArray [(.slice none 0 0), (.int .i64 0), (.int .i64 0), (.int .i64 0), (.bool false)]) := by kernel_rfl
theorem tx103 : TyI Try.prog 103 5 56 (.agg #[(.slice none 0 0), (.int .i64 0), (.int .i64 0), (.int .i64 0), (.bool false)]) := ⟨Try.t103, ti103, rfl, rfl, rfl⟩
theorem to103 : okFs Try.prog #[{ name := "list", type := 41, offset := 0, embedded := false, tag := "", pkgPath := "bailey/tree", byteOffset := 0 }, { name := "next", type := 3, offset := 1, embedded := false, tag := "", pkgPath := "bailey/tree", byteOffset := 24 }, { name := "depth", type := 3, offset := 2, embedded := false, tag := "", pkgPath := "bailey/tree", byteOffset := 32 }, { name := "count", type := 3, offset := 3, embedded := false, tag := "", pkgPath := "bailey/tree", byteOffset := 40 }, { name := "bad", type := 4, offset := 4, embedded := false, tag := "", pkgPath := "bailey/tree", byteOffset := 48 }] = true := by kernel_rfl
theorem ti104 : Try.prog.info? 104 = some Try.t104 := by kernel_rfl
theorem tz104 : ((Try.prog.info? 104).bind (·.zero)).map (·.cells) = some (List.toArray [.nilFunc]) := by kernel_rfl
theorem tx104 : TyI Try.prog 104 1 8 .nilFunc := ⟨Try.t104, ti104, rfl, rfl, rfl⟩
theorem ti105 : Try.prog.info? 105 = some Try.t105 := by kernel_rfl
theorem tz105 : ((Try.prog.info? 105).bind (·.zero)).map (·.cells) = some (List.toArray [(.int .u64 0), (.int .u64 0), (.bool false), (.bool false)]) := by kernel_rfl
theorem tx105 : TyI Try.prog 105 4 24 (.agg #[(.int .u64 0), (.int .u64 0), (.bool false), (.bool false)]) := ⟨Try.t105, ti105, rfl, rfl, rfl⟩
theorem to105 : okFs Try.prog #[{ name := "low", type := 23, offset := 0, embedded := false, tag := "", pkgPath := "bailey/tree", byteOffset := 0 }, { name := "high", type := 23, offset := 1, embedded := false, tag := "", pkgPath := "bailey/tree", byteOffset := 8 }, { name := "hasLow", type := 4, offset := 2, embedded := false, tag := "", pkgPath := "bailey/tree", byteOffset := 16 }, { name := "hasHigh", type := 4, offset := 3, embedded := false, tag := "", pkgPath := "bailey/tree", byteOffset := 17 }] = true := by kernel_rfl
theorem ti106 : Try.prog.info? 106 = some Try.t106 := by kernel_rfl
theorem tz106 : ((Try.prog.info? 106).bind (·.zero)).map (·.cells) = some (List.toArray [(.int .u64 0), (.int .u64 0), (.bool false), (.bool false)]) := by kernel_rfl
theorem tx106 : TyI Try.prog 106 4 24 (.agg #[(.int .u64 0), (.int .u64 0), (.bool false), (.bool false)]) := ⟨Try.t106, ti106, rfl, rfl, rfl⟩
theorem to106 : okFs Try.prog #[{ name := "low", type := 23, offset := 0, embedded := false, tag := "", pkgPath := "bailey/tree", byteOffset := 0 }, { name := "high", type := 23, offset := 1, embedded := false, tag := "", pkgPath := "bailey/tree", byteOffset := 8 }, { name := "hasLow", type := 4, offset := 2, embedded := false, tag := "", pkgPath := "bailey/tree", byteOffset := 16 }, { name := "hasHigh", type := 4, offset := 3, embedded := false, tag := "", pkgPath := "bailey/tree", byteOffset := 17 }] = true := by kernel_rfl
theorem ti107 : Try.prog.info? 107 = some Try.t107 := by kernel_rfl
theorem tz107 : ((Try.prog.info? 107).bind (·.zero)).map (·.cells) = some (List.toArray [(.slice none 0 0), (.slice none 0 0), (.slice none 0 0)]) := by kernel_rfl
theorem tx107 : TyI Try.prog 107 3 72 (.agg #[(.slice none 0 0), (.slice none 0 0), (.slice none 0 0)]) := ⟨Try.t107, ti107, rfl, rfl, rfl⟩
theorem to107 : okFs Try.prog #[{ name := "Keys", type := 88, offset := 0, embedded := false, tag := "", pkgPath := "", byteOffset := 0 }, { name := "Vals", type := 89, offset := 1, embedded := false, tag := "", pkgPath := "", byteOffset := 24 }, { name := "Kids", type := 71, offset := 2, embedded := false, tag := "", pkgPath := "", byteOffset := 48 }] = true := by kernel_rfl
theorem ti108 : Try.prog.info? 108 = some Try.t108 := by kernel_rfl
theorem tz108 : ((Try.prog.info? 108).bind (·.zero)).map (·.cells) = some (List.toArray [(.slice none 0 0), (.slice none 0 0), (.slice none 0 0)]) := by kernel_rfl
theorem tx108 : TyI Try.prog 108 3 72 (.agg #[(.slice none 0 0), (.slice none 0 0), (.slice none 0 0)]) := ⟨Try.t108, ti108, rfl, rfl, rfl⟩
theorem to108 : okFs Try.prog #[{ name := "Keys", type := 88, offset := 0, embedded := false, tag := "", pkgPath := "", byteOffset := 0 }, { name := "Vals", type := 89, offset := 1, embedded := false, tag := "", pkgPath := "", byteOffset := 24 }, { name := "Kids", type := 71, offset := 2, embedded := false, tag := "", pkgPath := "", byteOffset := 48 }] = true := by kernel_rfl
theorem ti109 : Try.prog.info? 109 = some Try.t109 := by kernel_rfl
theorem ti110 : Try.prog.info? 110 = some Try.t110 := by kernel_rfl
theorem tz110 : ((Try.prog.info? 110).bind (·.zero)).map (·.cells) = some (List.toArray [.nilFunc]) := by kernel_rfl
theorem tx110 : TyI Try.prog 110 1 8 .nilFunc := ⟨Try.t110, ti110, rfl, rfl, rfl⟩
theorem ti111 : Try.prog.info? 111 = some Try.t111 := by kernel_rfl
theorem tz111 : ((Try.prog.info? 111).bind (·.zero)).map (·.cells) = some (List.toArray [(.slice none 0 0)]) := by kernel_rfl
theorem tx111 : TyI Try.prog 111 1 24 (.slice none 0 0) := ⟨Try.t111, ti111, rfl, rfl, rfl⟩
theorem ti112 : Try.prog.info? 112 = some Try.t112 := by kernel_rfl
theorem tz112 : ((Try.prog.info? 112).bind (·.zero)).map (·.cells) = some (List.toArray [(.slice none 0 0), (.slice none 0 0), (.int .i64 0), (.bool false)]) := by kernel_rfl
theorem tx112 : TyI Try.prog 112 4 64 (.agg #[(.slice none 0 0), (.slice none 0 0), (.int .i64 0), (.bool false)]) := ⟨Try.t112, ti112, rfl, rfl, rfl⟩
theorem to112 : okFs Try.prog #[{ name := "stable", type := 59, offset := 0, embedded := false, tag := "", pkgPath := "bailey/disk", byteOffset := 0 }, { name := "pending", type := 111, offset := 1, embedded := false, tag := "", pkgPath := "bailey/disk", byteOffset := 24 }, { name := "fuel", type := 3, offset := 2, embedded := false, tag := "", pkgPath := "bailey/disk", byteOffset := 48 }, { name := "dead", type := 4, offset := 3, embedded := false, tag := "", pkgPath := "bailey/disk", byteOffset := 56 }] = true := by kernel_rfl
theorem ti113 : Try.prog.info? 113 = some Try.t113 := by kernel_rfl
theorem tz113 : ((Try.prog.info? 113).bind (·.zero)).map (·.cells) = some (List.toArray [(.slice none 0 0), (.slice none 0 0), (.int .i64 0), (.bool false)]) := by kernel_rfl
theorem tx113 : TyI Try.prog 113 4 64 (.agg #[(.slice none 0 0), (.slice none 0 0), (.int .i64 0), (.bool false)]) := ⟨Try.t113, ti113, rfl, rfl, rfl⟩
theorem to113 : okFs Try.prog #[{ name := "stable", type := 59, offset := 0, embedded := false, tag := "", pkgPath := "bailey/disk", byteOffset := 0 }, { name := "pending", type := 111, offset := 1, embedded := false, tag := "", pkgPath := "bailey/disk", byteOffset := 24 }, { name := "fuel", type := 3, offset := 2, embedded := false, tag := "", pkgPath := "bailey/disk", byteOffset := 48 }, { name := "dead", type := 4, offset := 3, embedded := false, tag := "", pkgPath := "bailey/disk", byteOffset := 56 }] = true := by kernel_rfl
theorem ti114 : Try.prog.info? 114 = some Try.t114 := by kernel_rfl
theorem tz114 : ((Try.prog.info? 114).bind (·.zero)).map (·.cells) = some (List.toArray [.nilFunc]) := by kernel_rfl
theorem tx114 : TyI Try.prog 114 1 8 .nilFunc := ⟨Try.t114, ti114, rfl, rfl, rfl⟩
theorem ti115 : Try.prog.info? 115 = some Try.t115 := by kernel_rfl
theorem to115 : okFs Try.prog #[{ name := "sector", type := 3, offset := 0, embedded := false, tag := "", pkgPath := "bailey/disk", byteOffset := 0 }, { name := "data", type := 67, offset := 1, embedded := false, tag := "", pkgPath := "bailey/disk", byteOffset := 8 }] = true := by kernel_rfl
theorem ti116 : Try.prog.info? 116 = some Try.t116 := by kernel_rfl
theorem to116 : okFs Try.prog #[{ name := "sector", type := 3, offset := 0, embedded := false, tag := "", pkgPath := "bailey/disk", byteOffset := 0 }, { name := "data", type := 67, offset := 1, embedded := false, tag := "", pkgPath := "bailey/disk", byteOffset := 8 }] = true := by kernel_rfl
theorem ti117 : Try.prog.info? 117 = some Try.t117 := by kernel_rfl
theorem tz117 : ((Try.prog.info? 117).bind (·.zero)).map (·.cells) = some (List.toArray [.nilFunc]) := by kernel_rfl
theorem tx117 : TyI Try.prog 117 1 8 .nilFunc := ⟨Try.t117, ti117, rfl, rfl, rfl⟩
theorem ti118 : Try.prog.info? 118 = some Try.t118 := by kernel_rfl
theorem ti119 : Try.prog.info? 119 = some Try.t119 := by kernel_rfl
theorem tz119 : ((Try.prog.info? 119).bind (·.zero)).map (·.cells) = some (List.toArray [.nilFunc]) := by kernel_rfl
theorem tx119 : TyI Try.prog 119 1 8 .nilFunc := ⟨Try.t119, ti119, rfl, rfl, rfl⟩
theorem ti120 : Try.prog.info? 120 = some Try.t120 := by kernel_rfl
theorem to120 : okFs Try.prog #[{ name := "Sector", type := 3, offset := 0, embedded := false, tag := "", pkgPath := "", byteOffset := 0 }, { name := "Data", type := 67, offset := 1, embedded := false, tag := "", pkgPath := "", byteOffset := 8 }] = true := by kernel_rfl
theorem ti121 : Try.prog.info? 121 = some Try.t121 := by kernel_rfl
theorem to121 : okFs Try.prog #[{ name := "Sector", type := 3, offset := 0, embedded := false, tag := "", pkgPath := "", byteOffset := 0 }, { name := "Data", type := 67, offset := 1, embedded := false, tag := "", pkgPath := "", byteOffset := 8 }] = true := by kernel_rfl
theorem ti122 : Try.prog.info? 122 = some Try.t122 := by kernel_rfl
theorem tz122 : ((Try.prog.info? 122).bind (·.zero)).map (·.cells) = some (List.toArray [(.pointer none)]) := by kernel_rfl
theorem tx122 : TyI Try.prog 122 1 8 (.pointer none) := ⟨Try.t122, ti122, rfl, rfl, rfl⟩
theorem ti123 : Try.prog.info? 123 = some Try.t123 := by kernel_rfl
theorem tz123 : ((Try.prog.info? 123).bind (·.zero)).map (·.cells) = some (List.toArray [(.map none)]) := by kernel_rfl
theorem tx123 : TyI Try.prog 123 1 8 (.map none) := ⟨Try.t123, ti123, rfl, rfl, rfl⟩
theorem ti124 : Try.prog.info? 124 = some Try.t124 := by kernel_rfl
theorem tz124 : ((Try.prog.info? 124).bind (·.zero)).map (·.cells) = some (List.toArray [(.pointer none), (.slice none 0 0), (.slice none 0 0), (.map none)]) := by kernel_rfl
theorem tx124 : TyI Try.prog 124 4 64 (.agg #[(.pointer none), (.slice none 0 0), (.slice none 0 0), (.map none)]) := ⟨Try.t124, ti124, rfl, rfl, rfl⟩
theorem to124 : okFs Try.prog #[{ name := "Disk", type := 60, offset := 0, embedded := true, tag := "", pkgPath := "", byteOffset := 0 }, { name := "nodes", type := 41, offset := 1, embedded := false, tag := "", pkgPath := "bailey/nodes", byteOffset := 8 }, { name := "sectors", type := 71, offset := 2, embedded := false, tag := "", pkgPath := "bailey/nodes", byteOffset := 32 }, { name := "seen", type := 123, offset := 3, embedded := false, tag := "", pkgPath := "bailey/nodes", byteOffset := 56 }] = true := by kernel_rfl
theorem ti125 : Try.prog.info? 125 = some Try.t125 := by kernel_rfl
theorem tz125 : ((Try.prog.info? 125).bind (·.zero)).map (·.cells) = some (List.toArray [(.pointer none), (.slice none 0 0), (.slice none 0 0), (.map none)]) := by kernel_rfl
theorem tx125 : TyI Try.prog 125 4 64 (.agg #[(.pointer none), (.slice none 0 0), (.slice none 0 0), (.map none)]) := ⟨Try.t125, ti125, rfl, rfl, rfl⟩
theorem to125 : okFs Try.prog #[{ name := "Disk", type := 60, offset := 0, embedded := true, tag := "", pkgPath := "", byteOffset := 0 }, { name := "nodes", type := 41, offset := 1, embedded := false, tag := "", pkgPath := "bailey/nodes", byteOffset := 8 }, { name := "sectors", type := 71, offset := 2, embedded := false, tag := "", pkgPath := "bailey/nodes", byteOffset := 32 }, { name := "seen", type := 123, offset := 3, embedded := false, tag := "", pkgPath := "bailey/nodes", byteOffset := 56 }] = true := by kernel_rfl
theorem ti126 : Try.prog.info? 126 = some Try.t126 := by kernel_rfl
theorem ti127 : Try.prog.info? 127 = some Try.t127 := by kernel_rfl
theorem tz127 : ((Try.prog.info? 127).bind (·.zero)).map (·.cells) = some (List.toArray [.nilFunc]) := by kernel_rfl
theorem tx127 : TyI Try.prog 127 1 8 .nilFunc := ⟨Try.t127, ti127, rfl, rfl, rfl⟩
theorem ti128 : Try.prog.info? 128 = some Try.t128 := by kernel_rfl
theorem ti129 : Try.prog.info? 129 = some Try.t129 := by kernel_rfl
theorem tz129 : ((Try.prog.info? 129).bind (·.zero)).map (·.cells) = some (List.toArray [.nilFunc]) := by kernel_rfl
theorem tx129 : TyI Try.prog 129 1 8 .nilFunc := ⟨Try.t129, ti129, rfl, rfl, rfl⟩
theorem ti130 : Try.prog.info? 130 = some Try.t130 := by kernel_rfl
theorem tz130 : ((Try.prog.info? 130).bind (·.zero)).map (·.cells) = some (List.toArray [(.int .u64 0)]) := by kernel_rfl
theorem tx130 : TyI Try.prog 130 1 8 (.int .u64 0) := ⟨Try.t130, ti130, rfl, rfl, rfl⟩
theorem ti131 : Try.prog.info? 131 = some Try.t131 := by kernel_rfl
theorem tz131 : ((Try.prog.info? 131).bind (·.zero)).map (·.cells) = some (List.toArray [.nilFunc]) := by kernel_rfl
theorem tx131 : TyI Try.prog 131 1 8 .nilFunc := ⟨Try.t131, ti131, rfl, rfl, rfl⟩
theorem ti132 : Try.prog.info? 132 = some Try.t132 := by kernel_rfl
theorem tz132 : ((Try.prog.info? 132).bind (·.zero)).map (·.cells) = some (List.toArray [.nilFunc]) := by kernel_rfl
theorem tx132 : TyI Try.prog 132 1 8 .nilFunc := ⟨Try.t132, ti132, rfl, rfl, rfl⟩
theorem ti133 : Try.prog.info? 133 = some Try.t133 := by kernel_rfl
theorem tz133 : ((Try.prog.info? 133).bind (·.zero)).map (·.cells) = some (List.toArray [.nilFunc]) := by kernel_rfl
theorem tx133 : TyI Try.prog 133 1 8 .nilFunc := ⟨Try.t133, ti133, rfl, rfl, rfl⟩
theorem ti134 : Try.prog.info? 134 = some Try.t134 := by kernel_rfl
theorem tz134 : ((Try.prog.info? 134).bind (·.zero)).map (·.cells) = some (List.toArray [.nilFunc]) := by kernel_rfl
theorem tx134 : TyI Try.prog 134 1 8 .nilFunc := ⟨Try.t134, ti134, rfl, rfl, rfl⟩
theorem ti135 : Try.prog.info? 135 = some Try.t135 := by kernel_rfl
theorem tz135 : ((Try.prog.info? 135).bind (·.zero)).map (·.cells) = some (List.toArray [.nilFunc]) := by kernel_rfl
theorem tx135 : TyI Try.prog 135 1 8 .nilFunc := ⟨Try.t135, ti135, rfl, rfl, rfl⟩
theorem ti136 : Try.prog.info? 136 = some Try.t136 := by kernel_rfl
theorem tz136 : ((Try.prog.info? 136).bind (·.zero)).map (·.cells) = some (List.toArray [.nilFunc]) := by kernel_rfl
theorem tx136 : TyI Try.prog 136 1 8 .nilFunc := ⟨Try.t136, ti136, rfl, rfl, rfl⟩
theorem ti137 : Try.prog.info? 137 = some Try.t137 := by kernel_rfl
theorem tz137 : ((Try.prog.info? 137).bind (·.zero)).map (·.cells) = some (List.toArray [.nilFunc]) := by kernel_rfl
theorem tx137 : TyI Try.prog 137 1 8 .nilFunc := ⟨Try.t137, ti137, rfl, rfl, rfl⟩
theorem ti138 : Try.prog.info? 138 = some Try.t138 := by kernel_rfl
theorem tz138 : ((Try.prog.info? 138).bind (·.zero)).map (·.cells) = some (List.toArray [.nilFunc]) := by kernel_rfl
theorem tx138 : TyI Try.prog 138 1 8 .nilFunc := ⟨Try.t138, ti138, rfl, rfl, rfl⟩
theorem ti139 : Try.prog.info? 139 = some Try.t139 := by kernel_rfl
theorem tz139 : ((Try.prog.info? 139).bind (·.zero)).map (·.cells) = some (List.toArray [.nilFunc]) := by kernel_rfl
theorem tx139 : TyI Try.prog 139 1 8 .nilFunc := ⟨Try.t139, ti139, rfl, rfl, rfl⟩
theorem ti140 : Try.prog.info? 140 = some Try.t140 := by kernel_rfl
theorem tz140 : ((Try.prog.info? 140).bind (·.zero)).map (·.cells) = some (List.toArray [.nilFunc]) := by kernel_rfl
theorem tx140 : TyI Try.prog 140 1 8 .nilFunc := ⟨Try.t140, ti140, rfl, rfl, rfl⟩
theorem ti141 : Try.prog.info? 141 = some Try.t141 := by kernel_rfl
theorem tz141 : ((Try.prog.info? 141).bind (·.zero)).map (·.cells) = some (List.toArray [.nilFunc]) := by kernel_rfl
theorem tx141 : TyI Try.prog 141 1 8 .nilFunc := ⟨Try.t141, ti141, rfl, rfl, rfl⟩
theorem ti142 : Try.prog.info? 142 = some Try.t142 := by kernel_rfl
theorem tz142 : ((Try.prog.info? 142).bind (·.zero)).map (·.cells) = some (List.toArray [.nilFunc]) := by kernel_rfl
theorem tx142 : TyI Try.prog 142 1 8 .nilFunc := ⟨Try.t142, ti142, rfl, rfl, rfl⟩
theorem ti143 : Try.prog.info? 143 = some Try.t143 := by kernel_rfl
theorem tz143 : ((Try.prog.info? 143).bind (·.zero)).map (·.cells) = some (List.toArray [.nilFunc]) := by kernel_rfl
theorem tx143 : TyI Try.prog 143 1 8 .nilFunc := ⟨Try.t143, ti143, rfl, rfl, rfl⟩
theorem ti144 : Try.prog.info? 144 = some Try.t144 := by kernel_rfl
theorem tz144 : ((Try.prog.info? 144).bind (·.zero)).map (·.cells) = some (List.toArray [.nilFunc]) := by kernel_rfl
theorem tx144 : TyI Try.prog 144 1 8 .nilFunc := ⟨Try.t144, ti144, rfl, rfl, rfl⟩
theorem ti145 : Try.prog.info? 145 = some Try.t145 := by kernel_rfl
theorem tz145 : ((Try.prog.info? 145).bind (·.zero)).map (·.cells) = some (List.toArray [.nilFunc]) := by kernel_rfl
theorem tx145 : TyI Try.prog 145 1 8 .nilFunc := ⟨Try.t145, ti145, rfl, rfl, rfl⟩
theorem ti146 : Try.prog.info? 146 = some Try.t146 := by kernel_rfl
theorem ti147 : Try.prog.info? 147 = some Try.t147 := by kernel_rfl
theorem tz147 : ((Try.prog.info? 147).bind (·.zero)).map (·.cells) = some (List.toArray [.nilFunc]) := by kernel_rfl
theorem tx147 : TyI Try.prog 147 1 8 .nilFunc := ⟨Try.t147, ti147, rfl, rfl, rfl⟩
theorem ti148 : Try.prog.info? 148 = some Try.t148 := by kernel_rfl
theorem ti149 : Try.prog.info? 149 = some Try.t149 := by kernel_rfl
theorem tz149 : ((Try.prog.info? 149).bind (·.zero)).map (·.cells) = some (List.toArray [.nilFunc]) := by kernel_rfl
theorem tx149 : TyI Try.prog 149 1 8 .nilFunc := ⟨Try.t149, ti149, rfl, rfl, rfl⟩
theorem ti150 : Try.prog.info? 150 = some Try.t150 := by kernel_rfl
theorem tz150 : ((Try.prog.info? 150).bind (·.zero)).map (·.cells) = some (List.toArray [.nilFunc]) := by kernel_rfl
theorem tx150 : TyI Try.prog 150 1 8 .nilFunc := ⟨Try.t150, ti150, rfl, rfl, rfl⟩
theorem ti151 : Try.prog.info? 151 = some Try.t151 := by kernel_rfl
theorem tz151 : ((Try.prog.info? 151).bind (·.zero)).map (·.cells) = some (List.toArray [(.slice none 0 0)]) := by kernel_rfl
theorem tx151 : TyI Try.prog 151 1 24 (.slice none 0 0) := ⟨Try.t151, ti151, rfl, rfl, rfl⟩
theorem ti152 : Try.prog.info? 152 = some Try.t152 := by kernel_rfl
theorem tz152 : ((Try.prog.info? 152).bind (·.zero)).map (·.cells) = some (List.toArray [(.slice none 0 0)]) := by kernel_rfl
theorem tx152 : TyI Try.prog 152 1 24 (.slice none 0 0) := ⟨Try.t152, ti152, rfl, rfl, rfl⟩
theorem ti153 : Try.prog.info? 153 = some Try.t153 := by kernel_rfl
theorem tz153 : ((Try.prog.info? 153).bind (·.zero)).map (·.cells) = some (List.toArray [(.int .u64 0), (.slice none 0 0)]) := by kernel_rfl
theorem tx153 : TyI Try.prog 153 2 32 (.agg #[(.int .u64 0), (.slice none 0 0)]) := ⟨Try.t153, ti153, rfl, rfl, rfl⟩
theorem to153 : okFs Try.prog #[{ name := "Num", type := 23, offset := 0, embedded := false, tag := "", pkgPath := "", byteOffset := 0 }, { name := "Bytes", type := 152, offset := 1, embedded := false, tag := "", pkgPath := "", byteOffset := 8 }] = true := by kernel_rfl
theorem ti154 : Try.prog.info? 154 = some Try.t154 := by kernel_rfl
theorem tz154 : ((Try.prog.info? 154).bind (·.zero)).map (·.cells) = some (List.toArray [(.int .u64 0), (.slice none 0 0)]) := by kernel_rfl
theorem tx154 : TyI Try.prog 154 2 32 (.agg #[(.int .u64 0), (.slice none 0 0)]) := ⟨Try.t154, ti154, rfl, rfl, rfl⟩
theorem to154 : okFs Try.prog #[{ name := "Num", type := 23, offset := 0, embedded := false, tag := "", pkgPath := "", byteOffset := 0 }, { name := "Bytes", type := 152, offset := 1, embedded := false, tag := "", pkgPath := "", byteOffset := 8 }] = true := by kernel_rfl
theorem ti155 : Try.prog.info? 155 = some Try.t155 := by kernel_rfl
theorem tz155 : ((Try.prog.info? 155).bind (·.zero)).map (·.cells) = some (List.toArray [.nilFunc]) := by kernel_rfl
theorem tx155 : TyI Try.prog 155 1 8 .nilFunc := ⟨Try.t155, ti155, rfl, rfl, rfl⟩
theorem ti156 : Try.prog.info? 156 = some Try.t156 := by kernel_rfl
theorem tz156 : ((Try.prog.info? 156).bind (·.zero)).map (·.cells) = some (List.toArray [.nilFunc]) := by kernel_rfl
theorem tx156 : TyI Try.prog 156 1 8 .nilFunc := ⟨Try.t156, ti156, rfl, rfl, rfl⟩
theorem ti157 : Try.prog.info? 157 = some Try.t157 := by kernel_rfl
theorem ti158 : Try.prog.info? 158 = some Try.t158 := by kernel_rfl
theorem tz158 : ((Try.prog.info? 158).bind (·.zero)).map (·.cells) = some (List.toArray [.nilFunc]) := by kernel_rfl
theorem tx158 : TyI Try.prog 158 1 8 .nilFunc := ⟨Try.t158, ti158, rfl, rfl, rfl⟩
theorem ti159 : Try.prog.info? 159 = some Try.t159 := by kernel_rfl
theorem tz159 : ((Try.prog.info? 159).bind (·.zero)).map (·.cells) = some (List.toArray [.nilFunc]) := by kernel_rfl
theorem tx159 : TyI Try.prog 159 1 8 .nilFunc := ⟨Try.t159, ti159, rfl, rfl, rfl⟩
theorem ti160 : Try.prog.info? 160 = some Try.t160 := by kernel_rfl
theorem tz160 : ((Try.prog.info? 160).bind (·.zero)).map (·.cells) = some (List.toArray [.nilFunc]) := by kernel_rfl
theorem tx160 : TyI Try.prog 160 1 8 .nilFunc := ⟨Try.t160, ti160, rfl, rfl, rfl⟩
theorem ti161 : Try.prog.info? 161 = some Try.t161 := by kernel_rfl
theorem tz161 : ((Try.prog.info? 161).bind (·.zero)).map (·.cells) = some (List.toArray [.nilFunc]) := by kernel_rfl
theorem tx161 : TyI Try.prog 161 1 8 .nilFunc := ⟨Try.t161, ti161, rfl, rfl, rfl⟩
theorem ti162 : Try.prog.info? 162 = some Try.t162 := by kernel_rfl
theorem tz162 : ((Try.prog.info? 162).bind (·.zero)).map (·.cells) = some (List.toArray [.nilFunc]) := by kernel_rfl
theorem tx162 : TyI Try.prog 162 1 8 .nilFunc := ⟨Try.t162, ti162, rfl, rfl, rfl⟩
theorem ti163 : Try.prog.info? 163 = some Try.t163 := by kernel_rfl
theorem tz163 : ((Try.prog.info? 163).bind (·.zero)).map (·.cells) = some (List.toArray [.nilFunc]) := by kernel_rfl
theorem tx163 : TyI Try.prog 163 1 8 .nilFunc := ⟨Try.t163, ti163, rfl, rfl, rfl⟩
theorem ti164 : Try.prog.info? 164 = some Try.t164 := by kernel_rfl
theorem tz164 : ((Try.prog.info? 164).bind (·.zero)).map (·.cells) = some (List.toArray [.nilFunc]) := by kernel_rfl
theorem tx164 : TyI Try.prog 164 1 8 .nilFunc := ⟨Try.t164, ti164, rfl, rfl, rfl⟩
theorem ti165 : Try.prog.info? 165 = some Try.t165 := by kernel_rfl
theorem tz165 : ((Try.prog.info? 165).bind (·.zero)).map (·.cells) = some (List.toArray [.nilFunc]) := by kernel_rfl
theorem tx165 : TyI Try.prog 165 1 8 .nilFunc := ⟨Try.t165, ti165, rfl, rfl, rfl⟩
theorem ti166 : Try.prog.info? 166 = some Try.t166 := by kernel_rfl
theorem tz166 : ((Try.prog.info? 166).bind (·.zero)).map (·.cells) = some (List.toArray [.nilFunc]) := by kernel_rfl
theorem tx166 : TyI Try.prog 166 1 8 .nilFunc := ⟨Try.t166, ti166, rfl, rfl, rfl⟩
theorem ti167 : Try.prog.info? 167 = some Try.t167 := by kernel_rfl
theorem tz167 : ((Try.prog.info? 167).bind (·.zero)).map (·.cells) = some (List.toArray [.nilFunc]) := by kernel_rfl
theorem tx167 : TyI Try.prog 167 1 8 .nilFunc := ⟨Try.t167, ti167, rfl, rfl, rfl⟩
theorem ti168 : Try.prog.info? 168 = some Try.t168 := by kernel_rfl
theorem tz168 : ((Try.prog.info? 168).bind (·.zero)).map (·.cells) = some (List.toArray [.nilFunc]) := by kernel_rfl
theorem tx168 : TyI Try.prog 168 1 8 .nilFunc := ⟨Try.t168, ti168, rfl, rfl, rfl⟩
theorem ti169 : Try.prog.info? 169 = some Try.t169 := by kernel_rfl
theorem tz169 : ((Try.prog.info? 169).bind (·.zero)).map (·.cells) = some (List.toArray [.nilFunc]) := by kernel_rfl
theorem tx169 : TyI Try.prog 169 1 8 .nilFunc := ⟨Try.t169, ti169, rfl, rfl, rfl⟩
theorem ti170 : Try.prog.info? 170 = some Try.t170 := by kernel_rfl
theorem ti171 : Try.prog.info? 171 = some Try.t171 := by kernel_rfl
theorem tz171 : ((Try.prog.info? 171).bind (·.zero)).map (·.cells) = some (List.toArray [.nilFunc]) := by kernel_rfl
theorem tx171 : TyI Try.prog 171 1 8 .nilFunc := ⟨Try.t171, ti171, rfl, rfl, rfl⟩
theorem ti172 : Try.prog.info? 172 = some Try.t172 := by kernel_rfl
theorem tz172 : ((Try.prog.info? 172).bind (·.zero)).map (·.cells) = some (List.toArray [.nilFunc]) := by kernel_rfl
theorem tx172 : TyI Try.prog 172 1 8 .nilFunc := ⟨Try.t172, ti172, rfl, rfl, rfl⟩
theorem ti173 : Try.prog.info? 173 = some Try.t173 := by kernel_rfl
theorem ti174 : Try.prog.info? 174 = some Try.t174 := by kernel_rfl
theorem tz174 : ((Try.prog.info? 174).bind (·.zero)).map (·.cells) = some (List.toArray [.nilFunc]) := by kernel_rfl
theorem tx174 : TyI Try.prog 174 1 8 .nilFunc := ⟨Try.t174, ti174, rfl, rfl, rfl⟩
theorem ti175 : Try.prog.info? 175 = some Try.t175 := by kernel_rfl
theorem ti176 : Try.prog.info? 176 = some Try.t176 := by kernel_rfl
theorem tz176 : ((Try.prog.info? 176).bind (·.zero)).map (·.cells) = some (List.toArray [.nilFunc]) := by kernel_rfl
theorem tx176 : TyI Try.prog 176 1 8 .nilFunc := ⟨Try.t176, ti176, rfl, rfl, rfl⟩
theorem ti177 : Try.prog.info? 177 = some Try.t177 := by kernel_rfl
theorem tz177 : ((Try.prog.info? 177).bind (·.zero)).map (·.cells) = some (List.toArray [.nilFunc]) := by kernel_rfl
theorem tx177 : TyI Try.prog 177 1 8 .nilFunc := ⟨Try.t177, ti177, rfl, rfl, rfl⟩
theorem ti178 : Try.prog.info? 178 = some Try.t178 := by kernel_rfl
theorem tz178 : ((Try.prog.info? 178).bind (·.zero)).map (·.cells) = some (List.toArray [(.pointer none)]) := by kernel_rfl
theorem tx178 : TyI Try.prog 178 1 8 (.pointer none) := ⟨Try.t178, ti178, rfl, rfl, rfl⟩
theorem ti179 : Try.prog.info? 179 = some Try.t179 := by kernel_rfl
theorem tz179 : ((Try.prog.info? 179).bind (·.zero)).map (·.cells) = some (List.toArray [(.pointer none), (.slice none 0 0)]) := by kernel_rfl
theorem tx179 : TyI Try.prog 179 2 32 (.agg #[(.pointer none), (.slice none 0 0)]) := ⟨Try.t179, ti179, rfl, rfl, rfl⟩
theorem to179 : okFs Try.prog #[{ name := "addr", type := 178, offset := 0, embedded := false, tag := "", pkgPath := "strings", byteOffset := 0 }, { name := "buf", type := 152, offset := 1, embedded := false, tag := "", pkgPath := "strings", byteOffset := 8 }] = true := by kernel_rfl
theorem ti180 : Try.prog.info? 180 = some Try.t180 := by kernel_rfl
theorem tz180 : ((Try.prog.info? 180).bind (·.zero)).map (·.cells) = some (List.toArray [(.pointer none), (.slice none 0 0)]) := by kernel_rfl
theorem tx180 : TyI Try.prog 180 2 32 (.agg #[(.pointer none), (.slice none 0 0)]) := ⟨Try.t180, ti180, rfl, rfl, rfl⟩
theorem to180 : okFs Try.prog #[{ name := "addr", type := 178, offset := 0, embedded := false, tag := "", pkgPath := "strings", byteOffset := 0 }, { name := "buf", type := 152, offset := 1, embedded := false, tag := "", pkgPath := "strings", byteOffset := 8 }] = true := by kernel_rfl
theorem ti181 : Try.prog.info? 181 = some Try.t181 := by kernel_rfl
theorem tz181 : ((Try.prog.info? 181).bind (·.zero)).map (·.cells) = some (List.toArray [.nilIface]) := by kernel_rfl
theorem tx181 : TyI Try.prog 181 1 16 .nilIface := ⟨Try.t181, ti181, rfl, rfl, rfl⟩
theorem ti182 : Try.prog.info? 182 = some Try.t182 := by kernel_rfl
theorem tz182 : ((Try.prog.info? 182).bind (·.zero)).map (·.cells) = some (List.toArray [.nilIface]) := by kernel_rfl
theorem tx182 : TyI Try.prog 182 1 16 .nilIface := ⟨Try.t182, ti182, rfl, rfl, rfl⟩
theorem ti183 : Try.prog.info? 183 = some Try.t183 := by kernel_rfl
theorem ti184 : Try.prog.info? 184 = some Try.t184 := by kernel_rfl
theorem tz184 : ((Try.prog.info? 184).bind (·.zero)).map (·.cells) = some (List.toArray [.nilFunc]) := by kernel_rfl
theorem tx184 : TyI Try.prog 184 1 8 .nilFunc := ⟨Try.t184, ti184, rfl, rfl, rfl⟩
theorem ti185 : Try.prog.info? 185 = some Try.t185 := by kernel_rfl
theorem tz185 : ((Try.prog.info? 185).bind (·.zero)).map (·.cells) = some (List.toArray [.nilFunc]) := by kernel_rfl
theorem tx185 : TyI Try.prog 185 1 8 .nilFunc := ⟨Try.t185, ti185, rfl, rfl, rfl⟩
theorem ti186 : Try.prog.info? 186 = some Try.t186 := by kernel_rfl
theorem tz186 : ((Try.prog.info? 186).bind (·.zero)).map (·.cells) = some (List.toArray [.nilFunc]) := by kernel_rfl
theorem tx186 : TyI Try.prog 186 1 8 .nilFunc := ⟨Try.t186, ti186, rfl, rfl, rfl⟩
theorem ti187 : Try.prog.info? 187 = some Try.t187 := by kernel_rfl
theorem tz187 : ((Try.prog.info? 187).bind (·.zero)).map (·.cells) = some (List.toArray [(.pointer none)]) := by kernel_rfl
theorem tx187 : TyI Try.prog 187 1 8 (.pointer none) := ⟨Try.t187, ti187, rfl, rfl, rfl⟩
theorem ti188 : Try.prog.info? 188 = some Try.t188 := by kernel_rfl
theorem tz188 : ((Try.prog.info? 188).bind (·.zero)).map (·.cells) = some (List.toArray [.nilFunc]) := by kernel_rfl
theorem tx188 : TyI Try.prog 188 1 8 .nilFunc := ⟨Try.t188, ti188, rfl, rfl, rfl⟩
theorem ti189 : Try.prog.info? 189 = some Try.t189 := by kernel_rfl
theorem tz189 : ((Try.prog.info? 189).bind (·.zero)).map (·.cells) = some (List.toArray [(.slice none 0 0)]) := by kernel_rfl
theorem tx189 : TyI Try.prog 189 1 24 (.slice none 0 0) := ⟨Try.t189, ti189, rfl, rfl, rfl⟩
theorem ti190 : Try.prog.info? 190 = some Try.t190 := by kernel_rfl
theorem tz190 : ((Try.prog.info? 190).bind (·.zero)).map (·.cells) = some (List.toArray [.nilFunc]) := by kernel_rfl
theorem tx190 : TyI Try.prog 190 1 8 .nilFunc := ⟨Try.t190, ti190, rfl, rfl, rfl⟩
theorem ti191 : Try.prog.info? 191 = some Try.t191 := by kernel_rfl
theorem tz191 : ((Try.prog.info? 191).bind (·.zero)).map (·.cells) = some (List.toArray [(.slice none 0 0)]) := by kernel_rfl
theorem tx191 : TyI Try.prog 191 1 24 (.slice none 0 0) := ⟨Try.t191, ti191, rfl, rfl, rfl⟩
theorem ti192 : Try.prog.info? 192 = some Try.t192 := by kernel_rfl
theorem tz192 : ((Try.prog.info? 192).bind (·.zero)).map (·.cells) = some (List.toArray [.nilFunc]) := by kernel_rfl
theorem tx192 : TyI Try.prog 192 1 8 .nilFunc := ⟨Try.t192, ti192, rfl, rfl, rfl⟩
theorem ti193 : Try.prog.info? 193 = some Try.t193 := by kernel_rfl
theorem tz193 : ((Try.prog.info? 193).bind (·.zero)).map (·.cells) = some (List.toArray [.nilFunc]) := by kernel_rfl
theorem tx193 : TyI Try.prog 193 1 8 .nilFunc := ⟨Try.t193, ti193, rfl, rfl, rfl⟩
theorem ti194 : Try.prog.info? 194 = some Try.t194 := by kernel_rfl
theorem tz194 : ((Try.prog.info? 194).bind (·.zero)).map (·.cells) = some (List.toArray [.nilFunc]) := by kernel_rfl
theorem tx194 : TyI Try.prog 194 1 8 .nilFunc := ⟨Try.t194, ti194, rfl, rfl, rfl⟩
theorem ti195 : Try.prog.info? 195 = some Try.t195 := by kernel_rfl
theorem tz195 : ((Try.prog.info? 195).bind (·.zero)).map (·.cells) = some (List.toArray [.nilFunc]) := by kernel_rfl
theorem tx195 : TyI Try.prog 195 1 8 .nilFunc := ⟨Try.t195, ti195, rfl, rfl, rfl⟩
theorem ti196 : Try.prog.info? 196 = some Try.t196 := by kernel_rfl
theorem tz196 : ((Try.prog.info? 196).bind (·.zero)).map (·.cells) = some (List.toArray [(.int .u32 0)]) := by kernel_rfl
theorem tx196 : TyI Try.prog 196 1 4 (.int .u32 0) := ⟨Try.t196, ti196, rfl, rfl, rfl⟩
theorem ti197 : Try.prog.info? 197 = some Try.t197 := by kernel_rfl
theorem ti198 : Try.prog.info? 198 = some Try.t198 := by kernel_rfl
theorem tz198 : ((Try.prog.info? 198).bind (·.zero)).map (·.cells) = some (List.toArray [.nilFunc]) := by kernel_rfl
theorem tx198 : TyI Try.prog 198 1 8 .nilFunc := ⟨Try.t198, ti198, rfl, rfl, rfl⟩
theorem ti199 : Try.prog.info? 199 = some Try.t199 := by kernel_rfl
theorem ti200 : Try.prog.info? 200 = some Try.t200 := by kernel_rfl
theorem tz200 : ((Try.prog.info? 200).bind (·.zero)).map (·.cells) = some (List.toArray [.nilFunc]) := by kernel_rfl
theorem tx200 : TyI Try.prog 200 1 8 .nilFunc := ⟨Try.t200, ti200, rfl, rfl, rfl⟩
theorem ti201 : Try.prog.info? 201 = some Try.t201 := by kernel_rfl
theorem tz201 : ((Try.prog.info? 201).bind (·.zero)).map (·.cells) = some (List.toArray [(.pointer none)]) := by kernel_rfl
theorem tx201 : TyI Try.prog 201 1 8 (.pointer none) := ⟨Try.t201, ti201, rfl, rfl, rfl⟩
theorem ti202 : Try.prog.info? 202 = some Try.t202 := by kernel_rfl
theorem tz202 : ((Try.prog.info? 202).bind (·.zero)).map (·.cells) = some (List.toArray [.nilFunc]) := by kernel_rfl
theorem tx202 : TyI Try.prog 202 1 8 .nilFunc := ⟨Try.t202, ti202, rfl, rfl, rfl⟩
theorem ti203 : Try.prog.info? 203 = some Try.t203 := by kernel_rfl
theorem tz203 : ((Try.prog.info? 203).bind (·.zero)).map (·.cells) = some (List.toArray [.nilFunc]) := by kernel_rfl
theorem tx203 : TyI Try.prog 203 1 8 .nilFunc := ⟨Try.t203, ti203, rfl, rfl, rfl⟩
theorem ti204 : Try.prog.info? 204 = some Try.t204 := by kernel_rfl
theorem tz204 : ((Try.prog.info? 204).bind (·.zero)).map (·.cells) = some (List.toArray [.nilFunc]) := by kernel_rfl
theorem tx204 : TyI Try.prog 204 1 8 .nilFunc := ⟨Try.t204, ti204, rfl, rfl, rfl⟩
theorem ti205 : Try.prog.info? 205 = some Try.t205 := by kernel_rfl
theorem tz205 : ((Try.prog.info? 205).bind (·.zero)).map (·.cells) = some (List.toArray [.nilFunc]) := by kernel_rfl
theorem tx205 : TyI Try.prog 205 1 8 .nilFunc := ⟨Try.t205, ti205, rfl, rfl, rfl⟩
theorem ti206 : Try.prog.info? 206 = some Try.t206 := by kernel_rfl
theorem tz206 : ((Try.prog.info? 206).bind (·.zero)).map (·.cells) = some (List.toArray [.nilFunc]) := by kernel_rfl
theorem tx206 : TyI Try.prog 206 1 8 .nilFunc := ⟨Try.t206, ti206, rfl, rfl, rfl⟩
theorem ti207 : Try.prog.info? 207 = some Try.t207 := by kernel_rfl
theorem tz207 : ((Try.prog.info? 207).bind (·.zero)).map (·.cells) = some (List.toArray [(.pointer none)]) := by kernel_rfl
theorem tx207 : TyI Try.prog 207 1 8 (.pointer none) := ⟨Try.t207, ti207, rfl, rfl, rfl⟩
theorem ti208 : Try.prog.info? 208 = some Try.t208 := by kernel_rfl
theorem tz208 : ((Try.prog.info? 208).bind (·.zero)).map (·.cells) = some (List.toArray [(.slice none 0 0)]) := by kernel_rfl
theorem tx208 : TyI Try.prog 208 1 24 (.agg #[(.slice none 0 0)]) := ⟨Try.t208, ti208, rfl, rfl, rfl⟩
theorem to208 : okFs Try.prog #[{ name := "b", type := 152, offset := 0, embedded := false, tag := "", pkgPath := "bailey/codec", byteOffset := 0 }] = true := by kernel_rfl
theorem ti209 : Try.prog.info? 209 = some Try.t209 := by kernel_rfl
theorem tz209 : ((Try.prog.info? 209).bind (·.zero)).map (·.cells) = some (List.toArray [(.slice none 0 0)]) := by kernel_rfl
theorem tx209 : TyI Try.prog 209 1 24 (.agg #[(.slice none 0 0)]) := ⟨Try.t209, ti209, rfl, rfl, rfl⟩
theorem to209 : okFs Try.prog #[{ name := "b", type := 152, offset := 0, embedded := false, tag := "", pkgPath := "bailey/codec", byteOffset := 0 }] = true := by kernel_rfl
theorem ti210 : Try.prog.info? 210 = some Try.t210 := by kernel_rfl
theorem tz210 : ((Try.prog.info? 210).bind (·.zero)).map (·.cells) = some (List.toArray [.nilFunc]) := by kernel_rfl
theorem tx210 : TyI Try.prog 210 1 8 .nilFunc := ⟨Try.t210, ti210, rfl, rfl, rfl⟩
theorem ti211 : Try.prog.info? 211 = some Try.t211 := by kernel_rfl
theorem tz211 : ((Try.prog.info? 211).bind (·.zero)).map (·.cells) = some (List.toArray [.nilFunc]) := by kernel_rfl
theorem tx211 : TyI Try.prog 211 1 8 .nilFunc := ⟨Try.t211, ti211, rfl, rfl, rfl⟩
theorem ti212 : Try.prog.info? 212 = some Try.t212 := by kernel_rfl
theorem tz212 : ((Try.prog.info? 212).bind (·.zero)).map (·.cells) = some (List.toArray [(.pointer none)]) := by kernel_rfl
theorem tx212 : TyI Try.prog 212 1 8 (.pointer none) := ⟨Try.t212, ti212, rfl, rfl, rfl⟩
theorem ti213 : Try.prog.info? 213 = some Try.t213 := by kernel_rfl
theorem tz213 : ((Try.prog.info? 213).bind (·.zero)).map (·.cells) = some (List.toArray [.nilFunc]) := by kernel_rfl
theorem tx213 : TyI Try.prog 213 1 8 .nilFunc := ⟨Try.t213, ti213, rfl, rfl, rfl⟩
theorem ti214 : Try.prog.info? 214 = some Try.t214 := by kernel_rfl
theorem tz214 : ((Try.prog.info? 214).bind (·.zero)).map (·.cells) = some (List.toArray [(.pointer none), (.pointer none), (.pointer none), (.string ByteArray.empty)]) := by kernel_rfl
theorem tx214 : TyI Try.prog 214 4 40 (.agg #[(.pointer none), (.pointer none), (.pointer none), (.string ByteArray.empty)]) := ⟨Try.t214, ti214, rfl, rfl, rfl⟩
theorem to214 : okFs Try.prog #[{ name := "_interface", type := 17, offset := 0, embedded := false, tag := "", pkgPath := "runtime", byteOffset := 0 }, { name := "concrete", type := 17, offset := 1, embedded := false, tag := "", pkgPath := "runtime", byteOffset := 8 }, { name := "asserted", type := 17, offset := 2, embedded := false, tag := "", pkgPath := "runtime", byteOffset := 16 }, { name := "missingMethod", type := 9, offset := 3, embedded := false, tag := "", pkgPath := "runtime", byteOffset := 24 }] = true := by kernel_rfl
theorem ti215 : Try.prog.info? 215 = some Try.t215 := by kernel_rfl
theorem tz215 : ((Try.prog.info? 215).bind (·.zero)).map (·.cells) = some (List.toArray [(.pointer none), (.pointer none), (.pointer none), (.string ByteArray.empty)]) := by kernel_rfl
theorem tx215 : TyI Try.prog 215 4 40 (.agg #[(.pointer none), (.pointer none), (.pointer none), (.string ByteArray.empty)]) := ⟨Try.t215, ti215, rfl, rfl, rfl⟩
theorem to215 : okFs Try.prog #[{ name := "_interface", type := 17, offset := 0, embedded := false, tag := "", pkgPath := "runtime", byteOffset := 0 }, { name := "concrete", type := 17, offset := 1, embedded := false, tag := "", pkgPath := "runtime", byteOffset := 8 }, { name := "asserted", type := 17, offset := 2, embedded := false, tag := "", pkgPath := "runtime", byteOffset := 16 }, { name := "missingMethod", type := 9, offset := 3, embedded := false, tag := "", pkgPath := "runtime", byteOffset := 24 }] = true := by kernel_rfl
theorem ti216 : Try.prog.info? 216 = some Try.t216 := by kernel_rfl
theorem tz216 : ((Try.prog.info? 216).bind (·.zero)).map (·.cells) = some (List.toArray []) := by kernel_rfl
theorem tx216 : TyI Try.prog 216 0 0 (.agg #[]) := ⟨Try.t216, ti216, rfl, rfl, rfl⟩
theorem ti217 : Try.prog.info? 217 = some Try.t217 := by kernel_rfl
theorem tz217 : ((Try.prog.info? 217).bind (·.zero)).map (·.cells) = some (List.toArray []) := by kernel_rfl
theorem tx217 : TyI Try.prog 217 0 0 (.agg #[]) := ⟨Try.t217, ti217, rfl, rfl, rfl⟩
theorem to217 : okFs Try.prog #[{ name := "_", type := 216, offset := 0, embedded := false, tag := "", pkgPath := "runtime", byteOffset := 0 }] = true := by kernel_rfl
theorem ti218 : Try.prog.info? 218 = some Try.t218 := by kernel_rfl
theorem tz218 : ((Try.prog.info? 218).bind (·.zero)).map (·.cells) = some (List.toArray []) := by kernel_rfl
theorem tx218 : TyI Try.prog 218 0 0 (.agg #[]) := ⟨Try.t218, ti218, rfl, rfl, rfl⟩
theorem to218 : okFs Try.prog #[{ name := "_", type := 216, offset := 0, embedded := false, tag := "", pkgPath := "runtime", byteOffset := 0 }] = true := by kernel_rfl
theorem ti219 : Try.prog.info? 219 = some Try.t219 := by kernel_rfl
theorem tz219 : ((Try.prog.info? 219).bind (·.zero)).map (·.cells) = some (List.toArray [(.int .u8 0)]) := by kernel_rfl
theorem tx219 : TyI Try.prog 219 1 1 (.int .u8 0) := ⟨Try.t219, ti219, rfl, rfl, rfl⟩
theorem ti220 : Try.prog.info? 220 = some Try.t220 := by kernel_rfl
theorem tz220 : ((Try.prog.info? 220).bind (·.zero)).map (·.cells) = some (List.toArray [(.int .u8 0)]) := by kernel_rfl
theorem tx220 : TyI Try.prog 220 1 1 (.int .u8 0) := ⟨Try.t220, ti220, rfl, rfl, rfl⟩
theorem ti221 : Try.prog.info? 221 = some Try.t221 := by kernel_rfl
theorem tz221 : ((Try.prog.info? 221).bind (·.zero)).map (·.cells) = some (List.toArray [.nilFunc]) := by kernel_rfl
theorem tx221 : TyI Try.prog 221 1 8 .nilFunc := ⟨Try.t221, ti221, rfl, rfl, rfl⟩
theorem ti222 : Try.prog.info? 222 = some Try.t222 := by kernel_rfl
theorem tz222 : ((Try.prog.info? 222).bind (·.zero)).map (·.cells) = some (List.toArray [(.int .i32 0)]) := by kernel_rfl
theorem tx222 : TyI Try.prog 222 1 4 (.int .i32 0) := ⟨Try.t222, ti222, rfl, rfl, rfl⟩
theorem ti223 : Try.prog.info? 223 = some Try.t223 := by kernel_rfl
theorem tz223 : ((Try.prog.info? 223).bind (·.zero)).map (·.cells) = some (List.toArray [(.int .i32 0)]) := by kernel_rfl
theorem tx223 : TyI Try.prog 223 1 4 (.int .i32 0) := ⟨Try.t223, ti223, rfl, rfl, rfl⟩
theorem ti224 : Try.prog.info? 224 = some Try.t224 := by kernel_rfl
theorem tz224 : ((Try.prog.info? 224).bind (·.zero)).map (·.cells) = some (List.toArray [(.int .u64 0), (.int .u64 0), (.int .u32 0), (.int .u8 0), (.int .u8 0), (.int .u8 0), (.int .u8 0), .nilFunc, (.pointer none), (.int .i32 0), (.int .i32 0)]) := by kernel_rfl
theorem tx224 : TyI Try.prog 224 11 48 (.agg #[(.int .u64 0), (.int .u64 0), (.int .u32 0), (.int .u8 0), (.int .u8 0), (.int .u8 0), (.int .u8 0), .nilFunc, (.pointer none), (.int .i32 0), (.int .i32 0)]) := ⟨Try.t224, ti224, rfl, rfl, rfl⟩
theorem to224 : okFs Try.prog #[{ name := "Size_", type := 12, offset := 0, embedded := false, tag := "", pkgPath := "", byteOffset := 0 }, { name := "PtrBytes", type := 12, offset := 1, embedded := false, tag := "", pkgPath := "", byteOffset := 8 }, { name := "Hash", type := 196, offset := 2, embedded := false, tag := "", pkgPath := "", byteOffset := 16 }, { name := "TFlag", type := 219, offset := 3, embedded := false, tag := "", pkgPath := "", byteOffset := 20 }, { name := "Align_", type := 5, offset := 4, embedded := false, tag := "", pkgPath := "", byteOffset := 21 }, { name := "FieldAlign_", type := 5, offset := 5, embedded := false, tag := "", pkgPath := "", byteOffset := 22 }, { name := "Kind_", type := 220, offset := 6, embedded := false, tag := "", pkgPath := "", byteOffset := 23 }, { name := "Equal", type := 221, offset := 7, embedded := false, tag := "", pkgPath := "", byteOffset := 24 }, { name := "GCData", type := 201, offset := 8, embedded := false, tag := "", pkgPath := "", byteOffset := 32 }, { name := "Str", type := 222, offset := 9, embedded := false, tag := "", pkgPath := "", byteOffset := 40 }, { name := "PtrToThis", type := 223, offset := 10, embedded := false, tag := "", pkgPath := "", byteOffset := 44 }] = true := by kernel_rfl
theorem ti225 : Try.prog.info? 225 = some Try.t225 := by kernel_rfl
theorem tz225 : ((Try.prog.info? 225).bind (·.zero)).map (·.cells) = some (List.toArray [(.int .u64 0), (.int .u64 0), (.int .u32 0), (.int .u8 0), (.int .u8 0), (.int .u8 0), (.int .u8 0), .nilFunc, (.pointer none), (.int .i32 0), (.int .i32 0)]) := by kernel_rfl
theorem tx225 : TyI Try.prog 225 11 48 (.agg #[(.int .u64 0), (.int .u64 0), (.int .u32 0), (.int .u8 0), (.int .u8 0), (.int .u8 0), (.int .u8 0), .nilFunc, (.pointer none), (.int .i32 0), (.int .i32 0)]) := ⟨Try.t225, ti225, rfl, rfl, rfl⟩
theorem to225 : okFs Try.prog #[{ name := "Size_", type := 12, offset := 0, embedded := false, tag := "", pkgPath := "", byteOffset := 0 }, { name := "PtrBytes", type := 12, offset := 1, embedded := false, tag := "", pkgPath := "", byteOffset := 8 }, { name := "Hash", type := 196, offset := 2, embedded := false, tag := "", pkgPath := "", byteOffset := 16 }, { name := "TFlag", type := 219, offset := 3, embedded := false, tag := "", pkgPath := "", byteOffset := 20 }, { name := "Align_", type := 5, offset := 4, embedded := false, tag := "", pkgPath := "", byteOffset := 21 }, { name := "FieldAlign_", type := 5, offset := 5, embedded := false, tag := "", pkgPath := "", byteOffset := 22 }, { name := "Kind_", type := 220, offset := 6, embedded := false, tag := "", pkgPath := "", byteOffset := 23 }, { name := "Equal", type := 221, offset := 7, embedded := false, tag := "", pkgPath := "", byteOffset := 24 }, { name := "GCData", type := 201, offset := 8, embedded := false, tag := "", pkgPath := "", byteOffset := 32 }, { name := "Str", type := 222, offset := 9, embedded := false, tag := "", pkgPath := "", byteOffset := 40 }, { name := "PtrToThis", type := 223, offset := 10, embedded := false, tag := "", pkgPath := "", byteOffset := 44 }] = true := by kernel_rfl
theorem Try.mixed : Try.prog.follows .mixedOrders = true := by kernel_rfl
end Go.Proofs.Ytdglignjoojimaa

/- Contracts of the library's slices functions at uint64. No conditions. -/
set_option linter.unusedVariables false
set_option linter.unusedSimpArgs false
namespace Go.Proofs.Ytdglignjoojimaa

set_option maxRecDepth 100000 in
theorem k_clone (v : Value) (n : Nat) (cs : List Value) (h : Hp) (G : Gr) (hs : SlR h [G] v n cs 1) (ho : ones cs = true) (hn : n ≤ 1000000) : Con Try.prog 58 [v] h [G] (fun r h' nb => h = h' ∧ ∃ G', Buf 23 1 r n cs G' ∧ nb = [G, G']) := by
  obtain ⟨A, cap, rfl, hle, hmx⟩ := hs.form
  refine Con_of Try.func58 rfl Try.ntmps58 (Nat.le_of_ble_eq_true rfl) (fun w0 => ?_)
  refine V_seq ?_
  refine V_region ?_
  refine VL_still rfl rfl rfl (S_assign rfl) ?_
  refine VL_nil ?_
  refine VQ_then ?_
  refine V_seq ?_
  refine V_seq ?_
  refine V_region ?_
  refine VL_still rfl rfl rfl (S_move rfl) ?_
  refine VL_still rfl rfl rfl (S_eqnil Try.underlying88 rfl rfl) ?_
  refine VL_nil ?_
  refine VQ_then ?_
  refine V_cond rfl (fun hc4 => ?_) (fun hc4 => ?_)
  · skip
    refine V_seq ?_
    refine V_region ?_
    refine VL_still rfl rfl rfl (S_assign rfl) ?_
    refine VL_nil ?_
    refine VQ_then ?_
    refine V_ret ?_
    refine VQ_then_ret ?_
    refine VQ_fin1 (nb := [G, []]) (by first | exact .inl rfl | exact .inr rfl) rfl (RV_tmp rfl) ?sb ?po
    case po =>
      refine ⟨rfl, [], ?_, rfl⟩
      cases A with
      | none =>
        obtain ⟨rfl, rfl⟩ := hs.nil_len
        exact .inl ⟨rfl, rfl, rfl, rfl⟩
      | some a => simp at hc4
    case sb => exact (by repeat (first | exact SubB.nil | exact Pick.here | apply Pick.there | apply SubB.emp | apply SubB.cons))
  · skip
    refine V_skip ?_
    refine VQ_then ?_
    refine V_seq ?_
    refine V_region ?_
    refine VL_eff rfl (E_bs0 rfl Try.underlying88 ti23) ?_
    rintro _ _ _ ⟨b5, hb5, rfl, rfl, rfl⟩
    refine VL_still rfl rfl rfl (S_move rfl) ?_
    refine VL_eff rfl (X_append rfl Try.underlying88 Try.underlying88 rfl tx23 rfl rfl rfl rfl (Buf.lit (n := 0) (cs := []) rfl (by omega)) Pick.here (hs.mono (Sub.refl _) (fun q hq => by simp at hq ⊢; simp [hq])) ho (by omega)) ?_
    rintro _ _ _ ⟨v7, G7, hB7, rfl, rfl, rfl⟩
    rw [Nat.zero_add, List.nil_append] at hB7
    refine VL_still rfl rfl rfl (S_assign rfl) ?_
    refine VL_nil ?_
    refine VQ_then ?_
    refine V_ret ?_
    refine VQ_fin1 (nb := [G, G7]) (by first | exact .inl rfl | exact .inr rfl) rfl (RV_tmp rfl) ?sb ?po
    case po =>
      exact ⟨rfl, G7, hB7, rfl⟩
    case sb => exact (by repeat (first | exact SubB.nil | exact Pick.here | apply Pick.there | apply SubB.emp | apply SubB.cons))

theorem ov81a : Try.f81.body.isNone = true := by kernel_rfl
theorem ov81b : (Try.f81.name == "runtime.NumGoroutine") = false := by kernel_rfl
theorem ov81c : (Extern.findNext Try.f81).isNone = true := by kernel_rfl
theorem ov81d : Extern.find Try.f81 = some (Extern.SlicesOverlaps.overlaps (List.toArray [88, 88]) (List.toArray [4])) := by kernel_rfl
set_option maxRecDepth 100000 in
theorem k_insert (v : Value) (n i b2 : Nat) (cs vc : List Value) (h : Hp) (G : Gr) (hB : Buf 23 1 v n cs G) (ho : ones cs = true) (ho' : ones vc = true) (hvc : vc.length = 1) (hi : i ≤ n) (hn : n ≤ 1000000) : Con Try.prog 61 [v, .int .i64 (i : Nat), .slice (some ⟨b2, 0, none⟩) 1 1] h [G, [(b2, .cells (List.toArray vc) 23 (0, 0))]] (fun r h' nb => h = h' ∧ ∃ G', Buf 23 1 r (n + 1) (cs.take (i * 1) ++ vc ++ cs.drop (i * 1)) G' ∧ nb = [G']) := by
  have hrd := hB.reads (h := h) (bl := [G]) (fun q hq => by simpa using hq)
  obtain ⟨A, cap, rfl, hle, hmx⟩ := hrd.form
  have hvt : List.take (1 * 1) (List.drop 0 vc) = vc := by rw [List.drop_zero]; exact List.take_of_length_le (by omega)
  refine Con_of Try.func61 rfl Try.ntmps61 (Nat.le_of_ble_eq_true rfl) (fun w0 => ?_)
  refine V_seq ?_
  refine V_region ?_
  refine VL_still rfl rfl rfl (S_assign rfl) ?_
  refine VL_nil ?_
  refine VQ_then ?_
  refine V_seq ?_
  refine V_region ?_
  refine VL_still rfl rfl rfl (S_move rfl) ?_
  refine VL_still rfl rfl rfl (S_move rfl) ?_
  refine VL_still rfl rfl rfl (X_cut i n Try.underlying88 tx23 rfl rfl rfl (by omega) (by omega)) ?_
  refine VL_nil ?_
  refine VQ_then ?_
  refine V_seq ?_
  refine V_region ?_
  refine VL_still rfl rfl rfl (S_move rfl) ?_
  refine VL_still rfl rfl rfl (S_len Try.underlying88 rfl) ?_
  refine VL_still rfl rfl rfl (S_assign rfl) ?_
  refine VL_nil ?_
  refine VQ_then ?_
  refine V_seq ?_
  refine V_seq ?_
  refine V_region ?_
  refine VL_still rfl rfl rfl (S_move rfl) ?_
  refine VL_still rfl rfl rfl (S_eql rfl rfl) ?_
  refine VL_nil ?_
  refine VQ_then ?_
  refine V_cond rfl (fun hc16 => ?_) (fun hc16 => ?_)
  · skip
    simp at hc16
  · skip
    refine V_skip ?_
    refine VQ_then ?_
    refine V_seq ?_
    refine V_region ?_
    refine VL_still rfl rfl rfl (S_move rfl) ?_
    refine VL_still rfl rfl rfl (S_len Try.underlying88 rfl) ?_
    refine VL_still rfl rfl rfl (S_assign rfl) ?_
    refine VL_nil ?_
    refine VQ_then ?_
    refine V_seq ?_
    refine V_seq ?_
    refine V_region ?_
    refine VL_still rfl rfl rfl (S_move rfl) ?_
    refine VL_still rfl rfl rfl (S_move rfl) ?_
    refine VL_still rfl rfl rfl (S_eql rfl rfl) ?_
    refine VL_nil ?_
    refine VQ_then ?_
    refine V_cond rfl (fun hc22 => ?_) (fun hc22 => ?_)
    · skip
      have hin : i = n := by
        have := of_decide_eq_true hc22
        omega
      refine V_seq ?_
      refine V_region ?_
      refine VL_still rfl rfl rfl (S_move rfl) ?_
      refine VL_still rfl rfl rfl (S_move rfl) ?_
      refine VL_eff rfl (X_append rfl Try.underlying88 Try.underlying88 rfl tx23 rfl rfl rfl rfl hB Pick.here (SlR.blk (b := b2) (off := 0) (l := vc) (T := 23) (fz := (0, 0)) (by simp) (by omega) (by omega) (by omega)) (by rw [hvt]; exact ho') (by omega)) ?_
      rintro _ _ _ ⟨v25, G25, hB25, rfl, rfl, rfl⟩
      rw [hvt] at hB25
      refine VL_still rfl rfl rfl (S_assign rfl) ?_
      refine VL_nil ?_
      refine VQ_then ?_
      refine V_ret ?_
      refine VQ_then_ret ?_
      refine VQ_fin1 (nb := [G25]) (by first | exact .inl rfl | exact .inr rfl) rfl (RV_tmp rfl) ?sb ?po
      case po =>
        refine ⟨rfl, G25, ?_, rfl⟩
        have hl : cs.length = n * 1 := hrd.len
        subst hin
        rw [List.take_of_length_le (by omega), List.drop_of_length_le (by omega), List.append_nil]
        exact hB25
      case sb => exact (by repeat (first | exact SubB.nil | exact Pick.here | apply Pick.there | apply SubB.emp | apply SubB.cons))
    · skip
      have hin : i < n := by
        have := of_decide_eq_false hc22
        omega
      rcases hB with ⟨e1, rfl, _⟩ | ⟨b, cap', sp, e1, rfl, l1, l2, hl, hl'⟩
      · omega
      cases e1
      refine V_ne (b := b) (b' := b2) Pick.here Pick.here (fun hne => ?_)
      have hl2 : cs.length + sp.length = cap * 1 := by rw [← hl', List.length_append]
      refine V_skip ?_
      refine VQ_then ?_
      refine V_seq ?_
      refine V_seq ?_
      refine V_region ?_
      refine VL_still rfl rfl rfl (S_move rfl) ?_
      refine VL_still rfl rfl rfl (S_move rfl) ?_
      first | refine VL_still rfl rfl rfl (S_addi rfl rfl (by omega) (by omega)) ?_ | refine VL_still rfl rfl rfl (S_add rfl rfl) ?_
      refine VL_still rfl rfl rfl (S_move rfl) ?_
      refine VL_still rfl rfl rfl (S_cap Try.underlying88 rfl) ?_
      refine VL_still rfl rfl rfl (S_gtr rfl rfl) ?_
      refine VL_nil ?_
      refine VQ_then ?_
      refine V_cond rfl (fun hc31 => ?_) (fun hc31 => ?_)
      · skip
        have hc : cap < n + 1 := by
          have := of_decide_eq_true hc31
          omega
        refine V_seq ?_
        refine V_region ?_
        refine VL_still rfl rfl rfl (S_move rfl) ?_
        refine VL_still rfl rfl rfl (S_move rfl) ?_
        refine VL_still rfl rfl rfl (X_to i (by simp) Try.underlying88 tx23 rfl rfl (by omega)) ?_
        refine VL_still rfl rfl rfl (S_move rfl) ?_
        refine VL_still rfl rfl rfl (S_move rfl) ?_
        first | refine VL_still rfl rfl rfl (S_addi rfl rfl (by omega) (by omega)) ?_ | refine VL_still rfl rfl rfl (S_add rfl rfl) ?_
        refine VL_still rfl rfl rfl (S_move rfl) ?_
        first | refine VL_still rfl rfl rfl (S_subi rfl rfl (by omega) (by omega)) ?_ | refine VL_still rfl rfl rfl (S_sub rfl rfl) ?_
        refine VL_eff rfl (X_append_zeros rfl Try.underlying88 Try.underlying3 tx23 rfl rfl rfl rfl rfl (SlR.blk (b := b) (off := 0) (l := cs ++ sp) (T := 23) (fz := (0, 0)) (by simp) (by rw [List.length_append]; omega) (by omega) (by omega)) (by omega) (by omega) (by omega)) ?_
        rintro _ _ _ ⟨b9, cap9, sp9, hb9, k1, k2, k3, rfl, rfl, rfl⟩
        have eL : (List.drop 0 (cs ++ sp)).take (i * 1) = cs.take (i * 1) := by rw [List.drop_zero, List.take_append_of_le_length (by omega)]
        have eN : i + ((n : Int) + ((1 : Nat) : Int) - (i : Int)).toNat = n + 1 := by omega
        rw [eL] at k3 ⊢
        rw [eN] at k1 ⊢
        have hF : (fillC (.int .u64 0) ((n : Int) + ((1 : Nat) : Int) - (i : Int)).toNat).length = vc.length + (cs.length - i * 1) := by
          rw [fillC_length (sz := 1) rfl]; omega
        refine VL_ne (b := b9) (b' := b2) Pick.here (Pick.there Pick.here) (fun hne9 => ?_)
        refine VL_still rfl rfl rfl (S_assign rfl) ?_
        refine VL_nil ?_
        refine VQ_then ?_
        refine V_seq ?_
        refine V_region ?_
        refine VL_still rfl rfl rfl (S_move rfl) ?_
        refine VL_still rfl rfl rfl (S_move rfl) ?_
        refine VL_still rfl rfl rfl (X_piece i (n + 1) Try.underlying88 tx23 rfl rfl rfl (by omega) (by omega) (by omega)) ?_
        refine VL_still rfl rfl rfl (S_move rfl) ?_
        refine VL_eff rfl (X_copy (b := b9) (off := 0 + i * 1) (l := cs.take (i * 1) ++ fillC (.int .u64 0) ((n : Int) + ((1 : Nat) : Int) - (i : Int)).toNat ++ sp9) rfl Try.underlying88 tx23 rfl rfl (SlR.blk (b := b2) (off := 0) (l := vc) (T := 23) (fz := (0, 0)) (by simp) (by omega) (by omega) (by omega)) Pick.here (fun _ => rfl) (fun _ => by rw [k3]; omega) (by rw [hvt]; exact ones_take ho')) ?_
        rintro _ _ _ ⟨rfl, rfl, rfl⟩
        have eV : List.take (min 1 (n + 1 - i) * 1) ((vc.drop 0).take (1 * 1)) = vc := by
          rw [show min 1 (n + 1 - i) = 1 by omega, List.drop_zero, List.take_take]
          exact List.take_of_length_le (by omega)
        rw [eV]
        refine VL_nil ?_
        refine VQ_then ?_
        refine V_seq ?_
        refine V_drawL _ [] 256 Try.mixed (by kernel_rfl) (by kernel_rfl) (Sub.refl _) SubB.nil ?_
        refine VD_still rfl rfl rfl rfl (S_move rfl) ?_
        refine VD_still rfl rfl rfl rfl (S_move rfl) ?_
        refine VD_still rfl rfl rfl rfl (S_move rfl) ?_
        first | refine VD_still rfl rfl rfl rfl (S_addi rfl rfl (by omega) (by omega)) ?_ | refine VD_still rfl rfl rfl rfl (S_add rfl rfl) ?_
        refine VD_still rfl rfl rfl rfl (X_piece (i + 1) (n + 1) Try.underlying88 tx23 rfl rfl rfl (by omega) (by omega) (by omega)) ?_
        refine VD_still rfl rfl rfl rfl (S_move rfl) ?_
        refine VD_still rfl rfl rfl rfl (S_move rfl) ?_
        refine VD_still rfl rfl rfl rfl (X_piece i n Try.underlying88 tx23 rfl rfl rfl (by omega) (by omega) (by omega)) ?_
        have eD : List.take (min (n - i) (n + 1 - (i + 1)) * 1) (((cs ++ sp).drop (0 + i * 1)).take ((n - i) * 1)) = cs.drop (i * 1) := by
          rw [show min (n - i) (n + 1 - (i + 1)) = n - i by omega, Nat.zero_add, List.take_take, Nat.min_self, List.drop_append_of_le_length (by omega), List.take_append_of_le_length (by rw [List.length_drop]; omega), List.take_of_length_le (by rw [List.length_drop]; omega)]
        refine VD_last rfl rfl (X_copy (b := b9) (off := 0 + (i + 1) * 1) (l := putAt (cs.take (i * 1) ++ fillC (.int .u64 0) ((n : Int) + ((1 : Nat) : Int) - (i : Int)).toNat ++ sp9) (0 + i * 1) vc) rfl Try.underlying88 tx23 rfl rfl (SlR.blk (b := b) (off := 0 + i * 1) (l := cs ++ sp) (T := 23) (fz := (0, 0)) (by simp) (by rw [List.length_append]; omega) (by omega) (by omega)) Pick.here (fun _ => rfl) (fun _ => by rw [putAt_length (by rw [k3]; omega), k3]; omega) (by rw [eD]; exact ones_drop ho)) ?_
        rintro _ _ _ ⟨rfl, rfl, rfl⟩
        rw [eD]
        refine VQ_then ?_
        refine V_seq ?_
        refine V_region ?_
        refine VL_still rfl rfl rfl (S_move rfl) ?_
        refine VL_still rfl rfl rfl (S_assign rfl) ?_
        refine VL_nil ?_
        refine VQ_then ?_
        refine V_ret ?_
        refine VQ_then_ret ?_
        refine VQ_fin1 (nb := [[(b9, .cells (List.toArray (putAt (putAt (cs.take (i * 1) ++ fillC (.int .u64 0) ((n : Int) + ((1 : Nat) : Int) - (i : Int)).toNat ++ sp9) (0 + i * 1) vc) (0 + (i + 1) * 1) (cs.drop (i * 1)))) 23 (0, 0))]]) (by first | exact .inl rfl | exact .inr rfl) rfl (RV_tmp rfl) ?sb ?po
        case po =>
          refine ⟨rfl, _, ?_, rfl⟩
          have hg := ins_grow (cs := cs) (vc := vc) (F := fillC (.int .u64 0) ((n : Int) + ((1 : Nat) : Int) - (i : Int)).toNat) (sp := sp9) (a := i * 1) (by omega) hF
          rw [Nat.zero_add, Nat.zero_add, show (i + 1) * 1 = i * 1 + vc.length by omega, hg]
          refine .inr ⟨b9, cap9, sp9, rfl, rfl, by omega, by omega, ?_, ?_⟩
          · simp; omega
          · rw [List.length_append, List.length_append, hF, List.length_take] at k3
            simp only [List.length_append, List.length_take, List.length_drop]
            omega
        case sb => exact (by repeat (first | exact SubB.nil | exact Pick.here | apply Pick.there | apply SubB.emp | apply SubB.cons))
      · skip
        have hc : n + 1 ≤ cap := by
          have := of_decide_eq_false hc31
          omega
        refine V_skip ?_
        refine VQ_then ?_
        refine V_seq ?_
        refine V_region ?_
        refine VL_still rfl rfl rfl (S_move rfl) ?_
        refine VL_still rfl rfl rfl (S_move rfl) ?_
        refine VL_still rfl rfl rfl (S_move rfl) ?_
        first | refine VL_still rfl rfl rfl (S_addi rfl rfl (by omega) (by omega)) ?_ | refine VL_still rfl rfl rfl (S_add rfl rfl) ?_
        refine VL_still rfl rfl rfl (X_to (n + 1) (by simp) Try.underlying88 tx23 rfl rfl (by omega)) ?_
        refine VL_still rfl rfl rfl (S_assign rfl) ?_
        refine VL_nil ?_
        refine VQ_then ?_
        refine V_seq ?_
        refine V_seq ?_
        refine V_region ?_
        refine VL_still rfl rfl rfl (S_move rfl) ?_
        refine VL_still rfl rfl rfl (S_move rfl) ?_
        refine VL_still rfl rfl rfl (S_move rfl) ?_
        refine VL_still rfl rfl rfl (S_move rfl) ?_
        first | refine VL_still rfl rfl rfl (S_addi rfl rfl (by omega) (by omega)) ?_ | refine VL_still rfl rfl rfl (S_add rfl rfl) ?_
        refine VL_still rfl rfl rfl (X_piece (i + 1) (n + 1) Try.underlying88 tx23 rfl rfl rfl (by omega) (by omega) (by omega)) ?_
        refine VL_eff rfl (E_still rfl (X_overlaps (params := [88, 88]) (res := [4]) (l := vc) (l' := cs ++ sp) (T := 23) (T' := 23) Try.func81 ov81a ov81b ov81c ov81d rfl Try.underlying88 tx23 rfl rfl (by simp) (by simp) (Ne.symm hne) (by omega) (by rw [List.length_append]; omega))) ?_
        rintro _ hh67 _ ⟨rfl, rfl, rfl⟩
        refine VL_still rfl rfl rfl (S_not rfl) ?_
        refine VL_nil ?_
        refine VQ_then ?_
        refine V_cond rfl (fun hc68 => ?_) (fun hc68 => ?_)
        · skip
          refine V_seq ?_
          refine V_drawL _ [] 256 Try.mixed (by kernel_rfl) (by kernel_rfl) (Sub.refl _) SubB.nil ?_
          refine VD_still rfl rfl rfl rfl (S_move rfl) ?_
          refine VD_still rfl rfl rfl rfl (S_move rfl) ?_
          refine VD_still rfl rfl rfl rfl (S_move rfl) ?_
          first | refine VD_still rfl rfl rfl rfl (S_addi rfl rfl (by omega) (by omega)) ?_ | refine VD_still rfl rfl rfl rfl (S_add rfl rfl) ?_
          refine VD_still rfl rfl rfl rfl (X_piece (i + 1) (n + 1) Try.underlying88 tx23 rfl rfl rfl (by omega) (by omega) (by omega)) ?_
          refine VD_still rfl rfl rfl rfl (S_move rfl) ?_
          refine VD_still rfl rfl rfl rfl (S_move rfl) ?_
          refine VD_still rfl rfl rfl rfl (X_piece i (n + 1) Try.underlying88 tx23 rfl rfl rfl (by omega) (by omega) (by omega)) ?_
          have eD : List.take (min (n + 1 - i) (n + 1 - (i + 1)) * 1) (((cs ++ sp).drop (0 + i * 1)).take ((n + 1 - i) * 1)) = cs.drop (i * 1) := by
            rw [show min (n + 1 - i) (n + 1 - (i + 1)) = n - i by omega, Nat.zero_add, List.take_take, Nat.min_eq_left (Nat.mul_le_mul_right _ (by omega)), List.drop_append_of_le_length (by omega), List.take_append_of_le_length (by rw [List.length_drop]; omega), List.take_of_length_le (by rw [List.length_drop]; omega)]
          refine VD_last rfl rfl (X_copy (b := b) (off := 0 + (i + 1) * 1) (l := cs ++ sp) rfl Try.underlying88 tx23 rfl rfl (SlR.blk (b := b) (off := 0 + i * 1) (l := cs ++ sp) (T := 23) (fz := (0, 0)) (by simp) (by rw [List.length_append]; omega) (by omega) (by omega)) Pick.here (fun _ => rfl) (fun _ => by rw [List.length_append]; omega) (by rw [eD]; exact ones_drop ho)) ?_
          rintro _ _ _ ⟨rfl, rfl, rfl⟩
          rw [eD]
          refine VQ_then ?_
          refine V_seq ?_
          refine V_region ?_
          refine VL_still rfl rfl rfl (S_move rfl) ?_
          refine VL_still rfl rfl rfl (S_move rfl) ?_
          refine VL_still rfl rfl rfl (X_piece i (n + 1) Try.underlying88 tx23 rfl rfl rfl (by omega) (by omega) (by omega)) ?_
          refine VL_still rfl rfl rfl (S_move rfl) ?_
          refine VL_eff rfl (X_copy (b := b) (off := 0 + i * 1) (l := putAt (cs ++ sp) (0 + (i + 1) * 1) (cs.drop (i * 1))) rfl Try.underlying88 tx23 rfl rfl (SlR.blk (b := b2) (off := 0) (l := vc) (T := 23) (fz := (0, 0)) (by simp) (by omega) (by omega) (by omega)) Pick.here (fun _ => rfl) (fun _ => by rw [putAt_length (by rw [List.length_append, List.length_drop]; omega), List.length_append]; omega) (by rw [hvt]; exact ones_take ho')) ?_
          rintro _ _ _ ⟨rfl, rfl, rfl⟩
          have eV : List.take (min 1 (n + 1 - i) * 1) ((vc.drop 0).take (1 * 1)) = vc := by
            rw [show min 1 (n + 1 - i) = 1 by omega, List.drop_zero, List.take_take]
            exact List.take_of_length_le (by omega)
          rw [eV]
          refine VL_nil ?_
          refine VQ_then ?_
          refine V_seq ?_
          refine V_region ?_
          refine VL_still rfl rfl rfl (S_move rfl) ?_
          refine VL_still rfl rfl rfl (S_assign rfl) ?_
          refine VL_nil ?_
          refine VQ_then ?_
          refine V_ret ?_
          refine VQ_then_ret ?_
          refine VQ_fin1 (nb := [[(b, .cells (List.toArray (putAt (putAt (cs ++ sp) (0 + (i + 1) * 1) (cs.drop (i * 1))) (0 + i * 1) vc)) 23 (0, 0))]]) (by first | exact .inl rfl | exact .inr rfl) rfl (RV_tmp rfl) ?sb ?po
          case po =>
            refine ⟨rfl, _, ?_, rfl⟩
            have hg := ins_place (cs := cs) (vc := vc) (sp := sp) (a := i * 1) (by omega) (by omega)
            rw [Nat.zero_add, Nat.zero_add, show (i + 1) * 1 = i * 1 + vc.length by omega, hg]
            refine .inr ⟨b, cap, sp.drop vc.length, rfl, rfl, by omega, by omega, ?_, ?_⟩
            · simp; omega
            · simp; omega
          case sb => exact (by repeat (first | exact SubB.nil | exact Pick.here | apply Pick.there | apply SubB.emp | apply SubB.cons))
        · skip
          simp at hc68

set_option maxRecDepth 100000 in
theorem k_delete (v : Value) (n i j : Nat) (cs : List Value) (h : Hp) (G : Gr) (hB : Buf 23 1 v n cs G) (ho : ones cs = true) (hij : i < j) (hj : j ≤ n) (hn : n ≤ 1000000) : Con Try.prog 65 [v, .int .i64 (i : Nat), .int .i64 (j : Nat)] h [G] (fun r h' nb => h = h' ∧ ∃ G', Buf 23 1 r (i + (n - j)) (cs.take (i * 1) ++ cs.drop (j * 1)) G' ∧ nb = [G']) := by
  have hrd := hB.reads (h := h) (bl := [G]) (fun q hq => by simpa using hq)
  obtain ⟨A, cap, rfl, hle, hmx⟩ := hrd.form
  rcases hB with ⟨e1, rfl, _⟩ | ⟨b, cap', sp, e1, rfl, l1, l2, hl, hl'⟩
  · omega
  cases e1
  have hl2 : cs.length + sp.length = cap * 1 := by rw [← hl', List.length_append]
  refine Con_of Try.func65 rfl Try.ntmps65 (Nat.le_of_ble_eq_true rfl) (fun w0 => ?_)
  refine V_seq ?_
  refine V_region ?_
  refine VL_still rfl rfl rfl (S_assign rfl) ?_
  refine VL_nil ?_
  refine VQ_then ?_
  refine V_seq ?_
  refine V_region ?_
  refine VL_still rfl rfl rfl (S_move rfl) ?_
  refine VL_still rfl rfl rfl (S_move rfl) ?_
  refine VL_still rfl rfl rfl (S_move rfl) ?_
  refine VL_still rfl rfl rfl (S_move rfl) ?_
  refine VL_still rfl rfl rfl (S_len Try.underlying88 rfl) ?_
  refine VL_still rfl rfl rfl (X_slice3 i j n Try.underlying88 tx23 rfl rfl rfl rfl (by omega) (by omega) (by omega)) ?_
  refine VL_nil ?_
  refine VQ_then ?_
  refine V_seq ?_
  refine V_seq ?_
  refine V_region ?_
  refine VL_still rfl rfl rfl (S_move rfl) ?_
  refine VL_still rfl rfl rfl (S_move rfl) ?_
  refine VL_still rfl rfl rfl (S_eql rfl rfl) ?_
  refine VL_nil ?_
  refine VQ_then ?_
  refine V_cond rfl (fun hc16 => ?_) (fun hc16 => ?_)
  · skip
    have := of_decide_eq_true hc16
    omega
  · skip
    refine V_skip ?_
    refine VQ_then ?_
    refine V_seq ?_
    refine V_region ?_
    refine VL_still rfl rfl rfl (S_move rfl) ?_
    refine VL_still rfl rfl rfl (S_len Try.underlying88 rfl) ?_
    refine VL_still rfl rfl rfl (S_assign rfl) ?_
    refine VL_nil ?_
    refine VQ_then ?_
    refine V_seq ?_
    refine V_draw _ [] 64 Try.mixed (by kernel_rfl) (Sub.refl _) SubB.nil ?_
    refine VD_still rfl rfl rfl rfl (S_move rfl) ?_
    refine VD_still rfl rfl rfl rfl (S_move rfl) ?_
    refine VD_still rfl rfl rfl rfl (X_to i (by simp) Try.underlying88 tx23 rfl rfl (by omega)) ?_
    refine VD_still rfl rfl rfl rfl (S_move rfl) ?_
    refine VD_still rfl rfl rfl rfl (S_move rfl) ?_
    refine VD_still rfl rfl rfl rfl (X_cut j n Try.underlying88 tx23 rfl rfl rfl (by omega) (by omega)) ?_
    have eD : List.take ((n - j) * 1) (cs.drop (j * 1)) = cs.drop (j * 1) := List.take_of_length_le (by rw [List.length_drop]; omega)
    refine VD_eff rfl rfl (X_append_in (b := b) (off := 0) (l := cs ++ sp) rfl Try.underlying88 Try.underlying88 rfl tx23 rfl rfl (hrd.cut (by omega) (by omega)) (by omega) Pick.here (by rw [List.length_append]; omega) (by rw [eD]; exact ones_drop ho)) ?_
    rintro _ _ _ ⟨rfl, rfl, rfl⟩
    rw [eD]
    refine ⟨⟨(by first | exact Sub.refl _ | assumption | exact Sub.trans (by assumption) (by assumption)), (by repeat (first | exact SubB.nil | exact Pick.here | apply Pick.there | apply SubB.emp | apply SubB.cons))⟩, ?_⟩
    refine VD_still rfl rfl rfl rfl (S_assign rfl) ?_
    refine VD_nil ?_
    refine VQ_then ?_
    refine V_seq ?_
    refine V_region ?_
    refine VL_still rfl rfl rfl (S_move rfl) ?_
    refine VL_still rfl rfl rfl (S_move rfl) ?_
    refine VL_still rfl rfl rfl (S_len Try.underlying88 rfl) ?_
    refine VL_still rfl rfl rfl (S_move rfl) ?_
    refine VL_still rfl rfl rfl (X_piece (i + (n - j)) n Try.underlying88 tx23 rfl rfl rfl (by omega) (by omega) (by omega)) ?_
    refine VL_eff rfl (X_clear (b := b) (off := 0 + (i + (n - j)) * 1) (l := putAt (cs ++ sp) (0 + i * 1) (cs.drop (j * 1))) Try.underlying88 tx23 rfl rfl rfl Pick.here (fun _ => rfl) (fun _ => by rw [putAt_length (by rw [List.length_append, List.length_drop]; omega), List.length_append]; omega)) ?_
    rintro _ _ _ ⟨rfl, rfl, rfl⟩
    refine VL_nil ?_
    refine VQ_then ?_
    refine V_seq ?_
    refine V_region ?_
    refine VL_still rfl rfl rfl (S_move rfl) ?_
    refine VL_still rfl rfl rfl (S_assign rfl) ?_
    refine VL_nil ?_
    refine VQ_then ?_
    refine V_ret ?_
    refine VQ_fin1 (nb := [[(b, .cells (List.toArray (putAt (putAt (cs ++ sp) (0 + i * 1) (cs.drop (j * 1))) (0 + (i + (n - j)) * 1) (fillC (.int .u64 0) (n - (i + (n - j)))))) 23 (0, 0))]]) (by first | exact .inl rfl | exact .inr rfl) rfl (RV_tmp rfl) ?sb ?po
    case po =>
      refine ⟨rfl, _, ?_, rfl⟩
      have hZ : (fillC (.int .u64 0) (n - (i + (n - j)))).length = j * 1 - i * 1 := by rw [fillC_length (sz := 1) rfl]; omega
      have hg := del_place (cs := cs) (sp := sp) (Z := fillC (.int .u64 0) (n - (i + (n - j)))) (a := i * 1) (b := j * 1) (by omega) (by omega) hZ
      rw [Nat.zero_add, Nat.zero_add, show (i + (n - j)) * 1 = i * 1 + (cs.length - j * 1) by omega, hg]
      refine .inr ⟨b, cap, fillC (.int .u64 0) (n - (i + (n - j))) ++ sp, rfl, rfl, by omega, by omega, ?_, ?_⟩
      · simp; omega
      · simp only [List.length_append, List.length_take, List.length_drop, hZ]; omega
    case sb => exact (by repeat (first | exact SubB.nil | exact Pick.here | apply Pick.there | apply SubB.emp | apply SubB.cons))

end Go.Proofs.Ytdglignjoojimaa

/- Contracts of the library's slices functions at api.Extent. No conditions. -/
set_option linter.unusedVariables false
set_option linter.unusedSimpArgs false
namespace Go.Proofs.Ytdglignjoojimaa

set_option maxRecDepth 100000 in
theorem x_clone (v : Value) (n : Nat) (cs : List Value) (h : Hp) (G : Gr) (hs : SlR h [G] v n cs 2) (ho : ones cs = true) (hn : n ≤ 1000000) : Con Try.prog 59 [v] h [G] (fun r h' nb => h = h' ∧ ∃ G', Buf 34 2 r n cs G' ∧ nb = [G, G']) := by
  obtain ⟨A, cap, rfl, hle, hmx⟩ := hs.form
  refine Con_of Try.func59 rfl Try.ntmps59 (Nat.le_of_ble_eq_true rfl) (fun w0 => ?_)
  refine V_seq ?_
  refine V_region ?_
  refine VL_still rfl rfl rfl (S_assign rfl) ?_
  refine VL_nil ?_
  refine VQ_then ?_
  refine V_seq ?_
  refine V_seq ?_
  refine V_region ?_
  refine VL_still rfl rfl rfl (S_move rfl) ?_
  refine VL_still rfl rfl rfl (S_eqnil Try.underlying89 rfl rfl) ?_
  refine VL_nil ?_
  refine VQ_then ?_
  refine V_cond rfl (fun hc4 => ?_) (fun hc4 => ?_)
  · skip
    refine V_seq ?_
    refine V_region ?_
    refine VL_still rfl rfl rfl (S_assign rfl) ?_
    refine VL_nil ?_
    refine VQ_then ?_
    refine V_ret ?_
    refine VQ_then_ret ?_
    refine VQ_fin1 (nb := [G, []]) (by first | exact .inl rfl | exact .inr rfl) rfl (RV_tmp rfl) ?sb ?po
    case po =>
      refine ⟨rfl, [], ?_, rfl⟩
      cases A with
      | none =>
        obtain ⟨rfl, rfl⟩ := hs.nil_len
        exact .inl ⟨rfl, rfl, rfl, rfl⟩
      | some a => simp at hc4
    case sb => exact (by repeat (first | exact SubB.nil | exact Pick.here | apply Pick.there | apply SubB.emp | apply SubB.cons))
  · skip
    refine V_skip ?_
    refine VQ_then ?_
    refine V_seq ?_
    refine V_region ?_
    refine VL_eff rfl (E_bs0 rfl Try.underlying89 ti34) ?_
    rintro _ _ _ ⟨b5, hb5, rfl, rfl, rfl⟩
    refine VL_still rfl rfl rfl (S_move rfl) ?_
    refine VL_eff rfl (X_append rfl Try.underlying89 Try.underlying89 rfl tx34 rfl rfl rfl rfl (Buf.lit (n := 0) (cs := []) rfl (by omega)) Pick.here (hs.mono (Sub.refl _) (fun q hq => by simp at hq ⊢; simp [hq])) ho (by omega)) ?_
    rintro _ _ _ ⟨v7, G7, hB7, rfl, rfl, rfl⟩
    rw [Nat.zero_add, List.nil_append] at hB7
    refine VL_still rfl rfl rfl (S_assign rfl) ?_
    refine VL_nil ?_
    refine VQ_then ?_
    refine V_ret ?_
    refine VQ_fin1 (nb := [G, G7]) (by first | exact .inl rfl | exact .inr rfl) rfl (RV_tmp rfl) ?sb ?po
    case po =>
      exact ⟨rfl, G7, hB7, rfl⟩
    case sb => exact (by repeat (first | exact SubB.nil | exact Pick.here | apply Pick.there | apply SubB.emp | apply SubB.cons))

theorem ov83a : Try.f83.body.isNone = true := by kernel_rfl
theorem ov83b : (Try.f83.name == "runtime.NumGoroutine") = false := by kernel_rfl
theorem ov83c : (Extern.findNext Try.f83).isNone = true := by kernel_rfl
theorem ov83d : Extern.find Try.f83 = some (Extern.SlicesOverlaps.overlaps (List.toArray [89, 89]) (List.toArray [4])) := by kernel_rfl
set_option maxRecDepth 100000 in
theorem x_insert (v : Value) (n i b2 : Nat) (cs vc : List Value) (h : Hp) (G : Gr) (hB : Buf 34 2 v n cs G) (ho : ones cs = true) (ho' : ones vc = true) (hvc : vc.length = 2) (hi : i ≤ n) (hn : n ≤ 1000000) : Con Try.prog 62 [v, .int .i64 (i : Nat), .slice (some ⟨b2, 0, none⟩) 1 1] h [G, [(b2, .cells (List.toArray vc) 34 (0, 0))]] (fun r h' nb => h = h' ∧ ∃ G', Buf 34 2 r (n + 1) (cs.take (i * 2) ++ vc ++ cs.drop (i * 2)) G' ∧ nb = [G']) := by
  have hrd := hB.reads (h := h) (bl := [G]) (fun q hq => by simpa using hq)
  obtain ⟨A, cap, rfl, hle, hmx⟩ := hrd.form
  have hvt : List.take (1 * 2) (List.drop 0 vc) = vc := by rw [List.drop_zero]; exact List.take_of_length_le (by omega)
  refine Con_of Try.func62 rfl Try.ntmps62 (Nat.le_of_ble_eq_true rfl) (fun w0 => ?_)
  refine V_seq ?_
  refine V_region ?_
  refine VL_still rfl rfl rfl (S_assign rfl) ?_
  refine VL_nil ?_
  refine VQ_then ?_
  refine V_seq ?_
  refine V_region ?_
  refine VL_still rfl rfl rfl (S_move rfl) ?_
  refine VL_still rfl rfl rfl (S_move rfl) ?_
  refine VL_still rfl rfl rfl (X_cut i n Try.underlying89 tx34 rfl rfl rfl (by omega) (by omega)) ?_
  refine VL_nil ?_
  refine VQ_then ?_
  refine V_seq ?_
  refine V_region ?_
  refine VL_still rfl rfl rfl (S_move rfl) ?_
  refine VL_still rfl rfl rfl (S_len Try.underlying89 rfl) ?_
  refine VL_still rfl rfl rfl (S_assign rfl) ?_
  refine VL_nil ?_
  refine VQ_then ?_
  refine V_seq ?_
  refine V_seq ?_
  refine V_region ?_
  refine VL_still rfl rfl rfl (S_move rfl) ?_
  refine VL_still rfl rfl rfl (S_eql rfl rfl) ?_
  refine VL_nil ?_
  refine VQ_then ?_
  refine V_cond rfl (fun hc16 => ?_) (fun hc16 => ?_)
  · skip
    simp at hc16
  · skip
    refine V_skip ?_
    refine VQ_then ?_
    refine V_seq ?_
    refine V_region ?_
    refine VL_still rfl rfl rfl (S_move rfl) ?_
    refine VL_still rfl rfl rfl (S_len Try.underlying89 rfl) ?_
    refine VL_still rfl rfl rfl (S_assign rfl) ?_
    refine VL_nil ?_
    refine VQ_then ?_
    refine V_seq ?_
    refine V_seq ?_
    refine V_region ?_
    refine VL_still rfl rfl rfl (S_move rfl) ?_
    refine VL_still rfl rfl rfl (S_move rfl) ?_
    refine VL_still rfl rfl rfl (S_eql rfl rfl) ?_
    refine VL_nil ?_
    refine VQ_then ?_
    refine V_cond rfl (fun hc22 => ?_) (fun hc22 => ?_)
    · skip
      have hin : i = n := by
        have := of_decide_eq_true hc22
        omega
      refine V_seq ?_
      refine V_region ?_
      refine VL_still rfl rfl rfl (S_move rfl) ?_
      refine VL_still rfl rfl rfl (S_move rfl) ?_
      refine VL_eff rfl (X_append rfl Try.underlying89 Try.underlying89 rfl tx34 rfl rfl rfl rfl hB Pick.here (SlR.blk (b := b2) (off := 0) (l := vc) (T := 34) (fz := (0, 0)) (by simp) (by omega) (by omega) (by omega)) (by rw [hvt]; exact ho') (by omega)) ?_
      rintro _ _ _ ⟨v25, G25, hB25, rfl, rfl, rfl⟩
      rw [hvt] at hB25
      refine VL_still rfl rfl rfl (S_assign rfl) ?_
      refine VL_nil ?_
      refine VQ_then ?_
      refine V_ret ?_
      refine VQ_then_ret ?_
      refine VQ_fin1 (nb := [G25]) (by first | exact .inl rfl | exact .inr rfl) rfl (RV_tmp rfl) ?sb ?po
      case po =>
        refine ⟨rfl, G25, ?_, rfl⟩
        have hl : cs.length = n * 2 := hrd.len
        subst hin
        rw [List.take_of_length_le (by omega), List.drop_of_length_le (by omega), List.append_nil]
        exact hB25
      case sb => exact (by repeat (first | exact SubB.nil | exact Pick.here | apply Pick.there | apply SubB.emp | apply SubB.cons))
    · skip
      have hin : i < n := by
        have := of_decide_eq_false hc22
        omega
      rcases hB with ⟨e1, rfl, _⟩ | ⟨b, cap', sp, e1, rfl, l1, l2, hl, hl'⟩
      · omega
      cases e1
      refine V_ne (b := b) (b' := b2) Pick.here Pick.here (fun hne => ?_)
      have hl2 : cs.length + sp.length = cap * 2 := by rw [← hl', List.length_append]
      refine V_skip ?_
      refine VQ_then ?_
      refine V_seq ?_
      refine V_seq ?_
      refine V_region ?_
      refine VL_still rfl rfl rfl (S_move rfl) ?_
      refine VL_still rfl rfl rfl (S_move rfl) ?_
      first | refine VL_still rfl rfl rfl (S_addi rfl rfl (by omega) (by omega)) ?_ | refine VL_still rfl rfl rfl (S_add rfl rfl) ?_
      refine VL_still rfl rfl rfl (S_move rfl) ?_
      refine VL_still rfl rfl rfl (S_cap Try.underlying89 rfl) ?_
      refine VL_still rfl rfl rfl (S_gtr rfl rfl) ?_
      refine VL_nil ?_
      refine VQ_then ?_
      refine V_cond rfl (fun hc31 => ?_) (fun hc31 => ?_)
      · skip
        have hc : cap < n + 1 := by
          have := of_decide_eq_true hc31
          omega
        refine V_seq ?_
        refine V_region ?_
        refine VL_still rfl rfl rfl (S_move rfl) ?_
        refine VL_still rfl rfl rfl (S_move rfl) ?_
        refine VL_still rfl rfl rfl (X_to i (by simp) Try.underlying89 tx34 rfl rfl (by omega)) ?_
        refine VL_still rfl rfl rfl (S_move rfl) ?_
        refine VL_still rfl rfl rfl (S_move rfl) ?_
        first | refine VL_still rfl rfl rfl (S_addi rfl rfl (by omega) (by omega)) ?_ | refine VL_still rfl rfl rfl (S_add rfl rfl) ?_
        refine VL_still rfl rfl rfl (S_move rfl) ?_
        first | refine VL_still rfl rfl rfl (S_subi rfl rfl (by omega) (by omega)) ?_ | refine VL_still rfl rfl rfl (S_sub rfl rfl) ?_
        refine VL_eff rfl (X_append_zeros rfl Try.underlying89 Try.underlying3 tx34 rfl rfl rfl rfl rfl (SlR.blk (b := b) (off := 0) (l := cs ++ sp) (T := 34) (fz := (0, 0)) (by simp) (by rw [List.length_append]; omega) (by omega) (by omega)) (by omega) (by omega) (by omega)) ?_
        rintro _ _ _ ⟨b9, cap9, sp9, hb9, k1, k2, k3, rfl, rfl, rfl⟩
        have eL : (List.drop 0 (cs ++ sp)).take (i * 2) = cs.take (i * 2) := by rw [List.drop_zero, List.take_append_of_le_length (by omega)]
        have eN : i + ((n : Int) + ((1 : Nat) : Int) - (i : Int)).toNat = n + 1 := by omega
        rw [eL] at k3 ⊢
        rw [eN] at k1 ⊢
        have hF : (fillC (.agg #[(.int .i64 0), (.int .i64 0)]) ((n : Int) + ((1 : Nat) : Int) - (i : Int)).toNat).length = vc.length + (cs.length - i * 2) := by
          rw [fillC_length (sz := 2) rfl]; omega
        refine VL_ne (b := b9) (b' := b2) Pick.here (Pick.there Pick.here) (fun hne9 => ?_)
        refine VL_still rfl rfl rfl (S_assign rfl) ?_
        refine VL_nil ?_
        refine VQ_then ?_
        refine V_seq ?_
        refine V_region ?_
        refine VL_still rfl rfl rfl (S_move rfl) ?_
        refine VL_still rfl rfl rfl (S_move rfl) ?_
        refine VL_still rfl rfl rfl (X_piece i (n + 1) Try.underlying89 tx34 rfl rfl rfl (by omega) (by omega) (by omega)) ?_
        refine VL_still rfl rfl rfl (S_move rfl) ?_
        refine VL_eff rfl (X_copy (b := b9) (off := 0 + i * 2) (l := cs.take (i * 2) ++ fillC (.agg #[(.int .i64 0), (.int .i64 0)]) ((n : Int) + ((1 : Nat) : Int) - (i : Int)).toNat ++ sp9) rfl Try.underlying89 tx34 rfl rfl (SlR.blk (b := b2) (off := 0) (l := vc) (T := 34) (fz := (0, 0)) (by simp) (by omega) (by omega) (by omega)) Pick.here (fun _ => rfl) (fun _ => by rw [k3]; omega) (by rw [hvt]; exact ones_take ho')) ?_
        rintro _ _ _ ⟨rfl, rfl, rfl⟩
        have eV : List.take (min 1 (n + 1 - i) * 2) ((vc.drop 0).take (1 * 2)) = vc := by
          rw [show min 1 (n + 1 - i) = 1 by omega, List.drop_zero, List.take_take]
          exact List.take_of_length_le (by omega)
        rw [eV]
        refine VL_nil ?_
        refine VQ_then ?_
        refine V_seq ?_
        refine V_drawL _ [] 256 Try.mixed (by kernel_rfl) (by kernel_rfl) (Sub.refl _) SubB.nil ?_
        refine VD_still rfl rfl rfl rfl (S_move rfl) ?_
        refine VD_still rfl rfl rfl rfl (S_move rfl) ?_
        refine VD_still rfl rfl rfl rfl (S_move rfl) ?_
        first | refine VD_still rfl rfl rfl rfl (S_addi rfl rfl (by omega) (by omega)) ?_ | refine VD_still rfl rfl rfl rfl (S_add rfl rfl) ?_
        refine VD_still rfl rfl rfl rfl (X_piece (i + 1) (n + 1) Try.underlying89 tx34 rfl rfl rfl (by omega) (by omega) (by omega)) ?_
        refine VD_still rfl rfl rfl rfl (S_move rfl) ?_
        refine VD_still rfl rfl rfl rfl (S_move rfl) ?_
        refine VD_still rfl rfl rfl rfl (X_piece i n Try.underlying89 tx34 rfl rfl rfl (by omega) (by omega) (by omega)) ?_
        have eD : List.take (min (n - i) (n + 1 - (i + 1)) * 2) (((cs ++ sp).drop (0 + i * 2)).take ((n - i) * 2)) = cs.drop (i * 2) := by
          rw [show min (n - i) (n + 1 - (i + 1)) = n - i by omega, Nat.zero_add, List.take_take, Nat.min_self, List.drop_append_of_le_length (by omega), List.take_append_of_le_length (by rw [List.length_drop]; omega), List.take_of_length_le (by rw [List.length_drop]; omega)]
        refine VD_last rfl rfl (X_copy (b := b9) (off := 0 + (i + 1) * 2) (l := putAt (cs.take (i * 2) ++ fillC (.agg #[(.int .i64 0), (.int .i64 0)]) ((n : Int) + ((1 : Nat) : Int) - (i : Int)).toNat ++ sp9) (0 + i * 2) vc) rfl Try.underlying89 tx34 rfl rfl (SlR.blk (b := b) (off := 0 + i * 2) (l := cs ++ sp) (T := 34) (fz := (0, 0)) (by simp) (by rw [List.length_append]; omega) (by omega) (by omega)) Pick.here (fun _ => rfl) (fun _ => by rw [putAt_length (by rw [k3]; omega), k3]; omega) (by rw [eD]; exact ones_drop ho)) ?_
        rintro _ _ _ ⟨rfl, rfl, rfl⟩
        rw [eD]
        refine VQ_then ?_
        refine V_seq ?_
        refine V_region ?_
        refine VL_still rfl rfl rfl (S_move rfl) ?_
        refine VL_still rfl rfl rfl (S_assign rfl) ?_
        refine VL_nil ?_
        refine VQ_then ?_
        refine V_ret ?_
        refine VQ_then_ret ?_
        refine VQ_fin1 (nb := [[(b9, .cells (List.toArray (putAt (putAt (cs.take (i * 2) ++ fillC (.agg #[(.int .i64 0), (.int .i64 0)]) ((n : Int) + ((1 : Nat) : Int) - (i : Int)).toNat ++ sp9) (0 + i * 2) vc) (0 + (i + 1) * 2) (cs.drop (i * 2)))) 34 (0, 0))]]) (by first | exact .inl rfl | exact .inr rfl) rfl (RV_tmp rfl) ?sb ?po
        case po =>
          refine ⟨rfl, _, ?_, rfl⟩
          have hg := ins_grow (cs := cs) (vc := vc) (F := fillC (.agg #[(.int .i64 0), (.int .i64 0)]) ((n : Int) + ((1 : Nat) : Int) - (i : Int)).toNat) (sp := sp9) (a := i * 2) (by omega) hF
          rw [Nat.zero_add, Nat.zero_add, show (i + 1) * 2 = i * 2 + vc.length by omega, hg]
          refine .inr ⟨b9, cap9, sp9, rfl, rfl, by omega, by omega, ?_, ?_⟩
          · simp; omega
          · rw [List.length_append, List.length_append, hF, List.length_take] at k3
            simp only [List.length_append, List.length_take, List.length_drop]
            omega
        case sb => exact (by repeat (first | exact SubB.nil | exact Pick.here | apply Pick.there | apply SubB.emp | apply SubB.cons))
      · skip
        have hc : n + 1 ≤ cap := by
          have := of_decide_eq_false hc31
          omega
        refine V_skip ?_
        refine VQ_then ?_
        refine V_seq ?_
        refine V_region ?_
        refine VL_still rfl rfl rfl (S_move rfl) ?_
        refine VL_still rfl rfl rfl (S_move rfl) ?_
        refine VL_still rfl rfl rfl (S_move rfl) ?_
        first | refine VL_still rfl rfl rfl (S_addi rfl rfl (by omega) (by omega)) ?_ | refine VL_still rfl rfl rfl (S_add rfl rfl) ?_
        refine VL_still rfl rfl rfl (X_to (n + 1) (by simp) Try.underlying89 tx34 rfl rfl (by omega)) ?_
        refine VL_still rfl rfl rfl (S_assign rfl) ?_
        refine VL_nil ?_
        refine VQ_then ?_
        refine V_seq ?_
        refine V_seq ?_
        refine V_region ?_
        refine VL_still rfl rfl rfl (S_move rfl) ?_
        refine VL_still rfl rfl rfl (S_move rfl) ?_
        refine VL_still rfl rfl rfl (S_move rfl) ?_
        refine VL_still rfl rfl rfl (S_move rfl) ?_
        first | refine VL_still rfl rfl rfl (S_addi rfl rfl (by omega) (by omega)) ?_ | refine VL_still rfl rfl rfl (S_add rfl rfl) ?_
        refine VL_still rfl rfl rfl (X_piece (i + 1) (n + 1) Try.underlying89 tx34 rfl rfl rfl (by omega) (by omega) (by omega)) ?_
        refine VL_eff rfl (E_still rfl (X_overlaps (params := [89, 89]) (res := [4]) (l := vc) (l' := cs ++ sp) (T := 34) (T' := 34) Try.func83 ov83a ov83b ov83c ov83d rfl Try.underlying89 tx34 rfl rfl (by simp) (by simp) (Ne.symm hne) (by omega) (by rw [List.length_append]; omega))) ?_
        rintro _ hh67 _ ⟨rfl, rfl, rfl⟩
        refine VL_still rfl rfl rfl (S_not rfl) ?_
        refine VL_nil ?_
        refine VQ_then ?_
        refine V_cond rfl (fun hc68 => ?_) (fun hc68 => ?_)
        · skip
          refine V_seq ?_
          refine V_drawL _ [] 256 Try.mixed (by kernel_rfl) (by kernel_rfl) (Sub.refl _) SubB.nil ?_
          refine VD_still rfl rfl rfl rfl (S_move rfl) ?_
          refine VD_still rfl rfl rfl rfl (S_move rfl) ?_
          refine VD_still rfl rfl rfl rfl (S_move rfl) ?_
          first | refine VD_still rfl rfl rfl rfl (S_addi rfl rfl (by omega) (by omega)) ?_ | refine VD_still rfl rfl rfl rfl (S_add rfl rfl) ?_
          refine VD_still rfl rfl rfl rfl (X_piece (i + 1) (n + 1) Try.underlying89 tx34 rfl rfl rfl (by omega) (by omega) (by omega)) ?_
          refine VD_still rfl rfl rfl rfl (S_move rfl) ?_
          refine VD_still rfl rfl rfl rfl (S_move rfl) ?_
          refine VD_still rfl rfl rfl rfl (X_piece i (n + 1) Try.underlying89 tx34 rfl rfl rfl (by omega) (by omega) (by omega)) ?_
          have eD : List.take (min (n + 1 - i) (n + 1 - (i + 1)) * 2) (((cs ++ sp).drop (0 + i * 2)).take ((n + 1 - i) * 2)) = cs.drop (i * 2) := by
            rw [show min (n + 1 - i) (n + 1 - (i + 1)) = n - i by omega, Nat.zero_add, List.take_take, Nat.min_eq_left (Nat.mul_le_mul_right _ (by omega)), List.drop_append_of_le_length (by omega), List.take_append_of_le_length (by rw [List.length_drop]; omega), List.take_of_length_le (by rw [List.length_drop]; omega)]
          refine VD_last rfl rfl (X_copy (b := b) (off := 0 + (i + 1) * 2) (l := cs ++ sp) rfl Try.underlying89 tx34 rfl rfl (SlR.blk (b := b) (off := 0 + i * 2) (l := cs ++ sp) (T := 34) (fz := (0, 0)) (by simp) (by rw [List.length_append]; omega) (by omega) (by omega)) Pick.here (fun _ => rfl) (fun _ => by rw [List.length_append]; omega) (by rw [eD]; exact ones_drop ho)) ?_
          rintro _ _ _ ⟨rfl, rfl, rfl⟩
          rw [eD]
          refine VQ_then ?_
          refine V_seq ?_
          refine V_region ?_
          refine VL_still rfl rfl rfl (S_move rfl) ?_
          refine VL_still rfl rfl rfl (S_move rfl) ?_
          refine VL_still rfl rfl rfl (X_piece i (n + 1) Try.underlying89 tx34 rfl rfl rfl (by omega) (by omega) (by omega)) ?_
          refine VL_still rfl rfl rfl (S_move rfl) ?_
          refine VL_eff rfl (X_copy (b := b) (off := 0 + i * 2) (l := putAt (cs ++ sp) (0 + (i + 1) * 2) (cs.drop (i * 2))) rfl Try.underlying89 tx34 rfl rfl (SlR.blk (b := b2) (off := 0) (l := vc) (T := 34) (fz := (0, 0)) (by simp) (by omega) (by omega) (by omega)) Pick.here (fun _ => rfl) (fun _ => by rw [putAt_length (by rw [List.length_append, List.length_drop]; omega), List.length_append]; omega) (by rw [hvt]; exact ones_take ho')) ?_
          rintro _ _ _ ⟨rfl, rfl, rfl⟩
          have eV : List.take (min 1 (n + 1 - i) * 2) ((vc.drop 0).take (1 * 2)) = vc := by
            rw [show min 1 (n + 1 - i) = 1 by omega, List.drop_zero, List.take_take]
            exact List.take_of_length_le (by omega)
          rw [eV]
          refine VL_nil ?_
          refine VQ_then ?_
          refine V_seq ?_
          refine V_region ?_
          refine VL_still rfl rfl rfl (S_move rfl) ?_
          refine VL_still rfl rfl rfl (S_assign rfl) ?_
          refine VL_nil ?_
          refine VQ_then ?_
          refine V_ret ?_
          refine VQ_then_ret ?_
          refine VQ_fin1 (nb := [[(b, .cells (List.toArray (putAt (putAt (cs ++ sp) (0 + (i + 1) * 2) (cs.drop (i * 2))) (0 + i * 2) vc)) 34 (0, 0))]]) (by first | exact .inl rfl | exact .inr rfl) rfl (RV_tmp rfl) ?sb ?po
          case po =>
            refine ⟨rfl, _, ?_, rfl⟩
            have hg := ins_place (cs := cs) (vc := vc) (sp := sp) (a := i * 2) (by omega) (by omega)
            rw [Nat.zero_add, Nat.zero_add, show (i + 1) * 2 = i * 2 + vc.length by omega, hg]
            refine .inr ⟨b, cap, sp.drop vc.length, rfl, rfl, by omega, by omega, ?_, ?_⟩
            · simp; omega
            · simp; omega
          case sb => exact (by repeat (first | exact SubB.nil | exact Pick.here | apply Pick.there | apply SubB.emp | apply SubB.cons))
        · skip
          simp at hc68

set_option maxRecDepth 100000 in
theorem x_delete (v : Value) (n i j : Nat) (cs : List Value) (h : Hp) (G : Gr) (hB : Buf 34 2 v n cs G) (ho : ones cs = true) (hij : i < j) (hj : j ≤ n) (hn : n ≤ 1000000) : Con Try.prog 66 [v, .int .i64 (i : Nat), .int .i64 (j : Nat)] h [G] (fun r h' nb => h = h' ∧ ∃ G', Buf 34 2 r (i + (n - j)) (cs.take (i * 2) ++ cs.drop (j * 2)) G' ∧ nb = [G']) := by
  have hrd := hB.reads (h := h) (bl := [G]) (fun q hq => by simpa using hq)
  obtain ⟨A, cap, rfl, hle, hmx⟩ := hrd.form
  rcases hB with ⟨e1, rfl, _⟩ | ⟨b, cap', sp, e1, rfl, l1, l2, hl, hl'⟩
  · omega
  cases e1
  have hl2 : cs.length + sp.length = cap * 2 := by rw [← hl', List.length_append]
  refine Con_of Try.func66 rfl Try.ntmps66 (Nat.le_of_ble_eq_true rfl) (fun w0 => ?_)
  refine V_seq ?_
  refine V_region ?_
  refine VL_still rfl rfl rfl (S_assign rfl) ?_
  refine VL_nil ?_
  refine VQ_then ?_
  refine V_seq ?_
  refine V_region ?_
  refine VL_still rfl rfl rfl (S_move rfl) ?_
  refine VL_still rfl rfl rfl (S_move rfl) ?_
  refine VL_still rfl rfl rfl (S_move rfl) ?_
  refine VL_still rfl rfl rfl (S_move rfl) ?_
  refine VL_still rfl rfl rfl (S_len Try.underlying89 rfl) ?_
  refine VL_still rfl rfl rfl (X_slice3 i j n Try.underlying89 tx34 rfl rfl rfl rfl (by omega) (by omega) (by omega)) ?_
  refine VL_nil ?_
  refine VQ_then ?_
  refine V_seq ?_
  refine V_seq ?_
  refine V_region ?_
  refine VL_still rfl rfl rfl (S_move rfl) ?_
  refine VL_still rfl rfl rfl (S_move rfl) ?_
  refine VL_still rfl rfl rfl (S_eql rfl rfl) ?_
  refine VL_nil ?_
  refine VQ_then ?_
  refine V_cond rfl (fun hc16 => ?_) (fun hc16 => ?_)
  · skip
    have := of_decide_eq_true hc16
    omega
  · skip
    refine V_skip ?_
    refine VQ_then ?_
    refine V_seq ?_
    refine V_region ?_
    refine VL_still rfl rfl rfl (S_move rfl) ?_
    refine VL_still rfl rfl rfl (S_len Try.underlying89 rfl) ?_
    refine VL_still rfl rfl rfl (S_assign rfl) ?_
    refine VL_nil ?_
    refine VQ_then ?_
    refine V_seq ?_
    refine V_draw _ [] 64 Try.mixed (by kernel_rfl) (Sub.refl _) SubB.nil ?_
    refine VD_still rfl rfl rfl rfl (S_move rfl) ?_
    refine VD_still rfl rfl rfl rfl (S_move rfl) ?_
    refine VD_still rfl rfl rfl rfl (X_to i (by simp) Try.underlying89 tx34 rfl rfl (by omega)) ?_
    refine VD_still rfl rfl rfl rfl (S_move rfl) ?_
    refine VD_still rfl rfl rfl rfl (S_move rfl) ?_
    refine VD_still rfl rfl rfl rfl (X_cut j n Try.underlying89 tx34 rfl rfl rfl (by omega) (by omega)) ?_
    have eD : List.take ((n - j) * 2) (cs.drop (j * 2)) = cs.drop (j * 2) := List.take_of_length_le (by rw [List.length_drop]; omega)
    refine VD_eff rfl rfl (X_append_in (b := b) (off := 0) (l := cs ++ sp) rfl Try.underlying89 Try.underlying89 rfl tx34 rfl rfl (hrd.cut (by omega) (by omega)) (by omega) Pick.here (by rw [List.length_append]; omega) (by rw [eD]; exact ones_drop ho)) ?_
    rintro _ _ _ ⟨rfl, rfl, rfl⟩
    rw [eD]
    refine ⟨⟨(by first | exact Sub.refl _ | assumption | exact Sub.trans (by assumption) (by assumption)), (by repeat (first | exact SubB.nil | exact Pick.here | apply Pick.there | apply SubB.emp | apply SubB.cons))⟩, ?_⟩
    refine VD_still rfl rfl rfl rfl (S_assign rfl) ?_
    refine VD_nil ?_
    refine VQ_then ?_
    refine V_seq ?_
    refine V_region ?_
    refine VL_still rfl rfl rfl (S_move rfl) ?_
    refine VL_still rfl rfl rfl (S_move rfl) ?_
    refine VL_still rfl rfl rfl (S_len Try.underlying89 rfl) ?_
    refine VL_still rfl rfl rfl (S_move rfl) ?_
    refine VL_still rfl rfl rfl (X_piece (i + (n - j)) n Try.underlying89 tx34 rfl rfl rfl (by omega) (by omega) (by omega)) ?_
    refine VL_eff rfl (X_clear (b := b) (off := 0 + (i + (n - j)) * 2) (l := putAt (cs ++ sp) (0 + i * 2) (cs.drop (j * 2))) Try.underlying89 tx34 rfl rfl rfl Pick.here (fun _ => rfl) (fun _ => by rw [putAt_length (by rw [List.length_append, List.length_drop]; omega), List.length_append]; omega)) ?_
    rintro _ _ _ ⟨rfl, rfl, rfl⟩
    refine VL_nil ?_
    refine VQ_then ?_
    refine V_seq ?_
    refine V_region ?_
    refine VL_still rfl rfl rfl (S_move rfl) ?_
    refine VL_still rfl rfl rfl (S_assign rfl) ?_
    refine VL_nil ?_
    refine VQ_then ?_
    refine V_ret ?_
    refine VQ_fin1 (nb := [[(b, .cells (List.toArray (putAt (putAt (cs ++ sp) (0 + i * 2) (cs.drop (j * 2))) (0 + (i + (n - j)) * 2) (fillC (.agg #[(.int .i64 0), (.int .i64 0)]) (n - (i + (n - j)))))) 34 (0, 0))]]) (by first | exact .inl rfl | exact .inr rfl) rfl (RV_tmp rfl) ?sb ?po
    case po =>
      refine ⟨rfl, _, ?_, rfl⟩
      have hZ : (fillC (.agg #[(.int .i64 0), (.int .i64 0)]) (n - (i + (n - j)))).length = j * 2 - i * 2 := by rw [fillC_length (sz := 2) rfl]; omega
      have hg := del_place (cs := cs) (sp := sp) (Z := fillC (.agg #[(.int .i64 0), (.int .i64 0)]) (n - (i + (n - j)))) (a := i * 2) (b := j * 2) (by omega) (by omega) hZ
      rw [Nat.zero_add, Nat.zero_add, show (i + (n - j)) * 2 = i * 2 + (cs.length - j * 2) by omega, hg]
      refine .inr ⟨b, cap, fillC (.agg #[(.int .i64 0), (.int .i64 0)]) (n - (i + (n - j))) ++ sp, rfl, rfl, by omega, by omega, ?_, ?_⟩
      · simp; omega
      · simp only [List.length_append, List.length_take, List.length_drop, hZ]; omega
    case sb => exact (by repeat (first | exact SubB.nil | exact Pick.here | apply Pick.there | apply SubB.emp | apply SubB.cons))

end Go.Proofs.Ytdglignjoojimaa

/- Contracts of the library's slices functions at pointers to tree.node. No conditions. -/
set_option linter.unusedVariables false
set_option linter.unusedSimpArgs false
namespace Go.Proofs.Ytdglignjoojimaa

set_option maxRecDepth 100000 in
theorem n_clone (v : Value) (n : Nat) (cs : List Value) (h : Hp) (G : Gr) (hs : SlR h [G] v n cs 1) (ho : ones cs = true) (hn : n ≤ 1000000) : Con Try.prog 80 [v] h [G] (fun r h' nb => h = h' ∧ ∃ G', Buf 83 1 r n cs G' ∧ nb = [G, G']) := by
  obtain ⟨A, cap, rfl, hle, hmx⟩ := hs.form
  refine Con_of Try.func80 rfl Try.ntmps80 (Nat.le_of_ble_eq_true rfl) (fun w0 => ?_)
  refine V_seq ?_
  refine V_region ?_
  refine VL_still rfl rfl rfl (S_assign rfl) ?_
  refine VL_nil ?_
  refine VQ_then ?_
  refine V_seq ?_
  refine V_seq ?_
  refine V_region ?_
  refine VL_still rfl rfl rfl (S_move rfl) ?_
  refine VL_still rfl rfl rfl (S_eqnil Try.underlying90 rfl rfl) ?_
  refine VL_nil ?_
  refine VQ_then ?_
  refine V_cond rfl (fun hc4 => ?_) (fun hc4 => ?_)
  · skip
    refine V_seq ?_
    refine V_region ?_
    refine VL_still rfl rfl rfl (S_assign rfl) ?_
    refine VL_nil ?_
    refine VQ_then ?_
    refine V_ret ?_
    refine VQ_then_ret ?_
    refine VQ_fin1 (nb := [G, []]) (by first | exact .inl rfl | exact .inr rfl) rfl (RV_tmp rfl) ?sb ?po
    case po =>
      refine ⟨rfl, [], ?_, rfl⟩
      cases A with
      | none =>
        obtain ⟨rfl, rfl⟩ := hs.nil_len
        exact .inl ⟨rfl, rfl, rfl, rfl⟩
      | some a => simp at hc4
    case sb => exact (by repeat (first | exact SubB.nil | exact Pick.here | apply Pick.there | apply SubB.emp | apply SubB.cons))
  · skip
    refine V_skip ?_
    refine VQ_then ?_
    refine V_seq ?_
    refine V_region ?_
    refine VL_eff rfl (E_bs0 rfl Try.underlying90 ti83) ?_
    rintro _ _ _ ⟨b5, hb5, rfl, rfl, rfl⟩
    refine VL_still rfl rfl rfl (S_move rfl) ?_
    refine VL_eff rfl (X_append rfl Try.underlying90 Try.underlying90 rfl tx83 rfl rfl rfl rfl (Buf.lit (n := 0) (cs := []) rfl (by omega)) Pick.here (hs.mono (Sub.refl _) (fun q hq => by simp at hq ⊢; simp [hq])) ho (by omega)) ?_
    rintro _ _ _ ⟨v7, G7, hB7, rfl, rfl, rfl⟩
    rw [Nat.zero_add, List.nil_append] at hB7
    refine VL_still rfl rfl rfl (S_assign rfl) ?_
    refine VL_nil ?_
    refine VQ_then ?_
    refine V_ret ?_
    refine VQ_fin1 (nb := [G, G7]) (by first | exact .inl rfl | exact .inr rfl) rfl (RV_tmp rfl) ?sb ?po
    case po =>
      exact ⟨rfl, G7, hB7, rfl⟩
    case sb => exact (by repeat (first | exact SubB.nil | exact Pick.here | apply Pick.there | apply SubB.emp | apply SubB.cons))

theorem ov85a : Try.f85.body.isNone = true := by kernel_rfl
theorem ov85b : (Try.f85.name == "runtime.NumGoroutine") = false := by kernel_rfl
theorem ov85c : (Extern.findNext Try.f85).isNone = true := by kernel_rfl
theorem ov85d : Extern.find Try.f85 = some (Extern.SlicesOverlaps.overlaps (List.toArray [90, 90]) (List.toArray [4])) := by kernel_rfl
set_option maxRecDepth 100000 in
theorem n_insert (v : Value) (n i b2 : Nat) (cs vc : List Value) (h : Hp) (G : Gr) (hB : Buf 83 1 v n cs G) (ho : ones cs = true) (ho' : ones vc = true) (hvc : vc.length = 1) (hi : i ≤ n) (hn : n ≤ 1000000) : Con Try.prog 64 [v, .int .i64 (i : Nat), .slice (some ⟨b2, 0, none⟩) 1 1] h [G, [(b2, .cells (List.toArray vc) 83 (0, 0))]] (fun r h' nb => h = h' ∧ ∃ G', Buf 83 1 r (n + 1) (cs.take (i * 1) ++ vc ++ cs.drop (i * 1)) G' ∧ nb = [G']) := by
  have hrd := hB.reads (h := h) (bl := [G]) (fun q hq => by simpa using hq)
  obtain ⟨A, cap, rfl, hle, hmx⟩ := hrd.form
  have hvt : List.take (1 * 1) (List.drop 0 vc) = vc := by rw [List.drop_zero]; exact List.take_of_length_le (by omega)
  refine Con_of Try.func64 rfl Try.ntmps64 (Nat.le_of_ble_eq_true rfl) (fun w0 => ?_)
  refine V_seq ?_
  refine V_region ?_
  refine VL_still rfl rfl rfl (S_assign rfl) ?_
  refine VL_nil ?_
  refine VQ_then ?_
  refine V_seq ?_
  refine V_region ?_
  refine VL_still rfl rfl rfl (S_move rfl) ?_
  refine VL_still rfl rfl rfl (S_move rfl) ?_
  refine VL_still rfl rfl rfl (X_cut i n Try.underlying90 tx83 rfl rfl rfl (by omega) (by omega)) ?_
  refine VL_nil ?_
  refine VQ_then ?_
  refine V_seq ?_
  refine V_region ?_
  refine VL_still rfl rfl rfl (S_move rfl) ?_
  refine VL_still rfl rfl rfl (S_len Try.underlying90 rfl) ?_
  refine VL_still rfl rfl rfl (S_assign rfl) ?_
  refine VL_nil ?_
  refine VQ_then ?_
  refine V_seq ?_
  refine V_seq ?_
  refine V_region ?_
  refine VL_still rfl rfl rfl (S_move rfl) ?_
  refine VL_still rfl rfl rfl (S_eql rfl rfl) ?_
  refine VL_nil ?_
  refine VQ_then ?_
  refine V_cond rfl (fun hc16 => ?_) (fun hc16 => ?_)
  · skip
    simp at hc16
  · skip
    refine V_skip ?_
    refine VQ_then ?_
    refine V_seq ?_
    refine V_region ?_
    refine VL_still rfl rfl rfl (S_move rfl) ?_
    refine VL_still rfl rfl rfl (S_len Try.underlying90 rfl) ?_
    refine VL_still rfl rfl rfl (S_assign rfl) ?_
    refine VL_nil ?_
    refine VQ_then ?_
    refine V_seq ?_
    refine V_seq ?_
    refine V_region ?_
    refine VL_still rfl rfl rfl (S_move rfl) ?_
    refine VL_still rfl rfl rfl (S_move rfl) ?_
    refine VL_still rfl rfl rfl (S_eql rfl rfl) ?_
    refine VL_nil ?_
    refine VQ_then ?_
    refine V_cond rfl (fun hc22 => ?_) (fun hc22 => ?_)
    · skip
      have hin : i = n := by
        have := of_decide_eq_true hc22
        omega
      refine V_seq ?_
      refine V_region ?_
      refine VL_still rfl rfl rfl (S_move rfl) ?_
      refine VL_still rfl rfl rfl (S_move rfl) ?_
      refine VL_eff rfl (X_append rfl Try.underlying90 Try.underlying90 rfl tx83 rfl rfl rfl rfl hB Pick.here (SlR.blk (b := b2) (off := 0) (l := vc) (T := 83) (fz := (0, 0)) (by simp) (by omega) (by omega) (by omega)) (by rw [hvt]; exact ho') (by omega)) ?_
      rintro _ _ _ ⟨v25, G25, hB25, rfl, rfl, rfl⟩
      rw [hvt] at hB25
      refine VL_still rfl rfl rfl (S_assign rfl) ?_
      refine VL_nil ?_
      refine VQ_then ?_
      refine V_ret ?_
      refine VQ_then_ret ?_
      refine VQ_fin1 (nb := [G25]) (by first | exact .inl rfl | exact .inr rfl) rfl (RV_tmp rfl) ?sb ?po
      case po =>
        refine ⟨rfl, G25, ?_, rfl⟩
        have hl : cs.length = n * 1 := hrd.len
        subst hin
        rw [List.take_of_length_le (by omega), List.drop_of_length_le (by omega), List.append_nil]
        exact hB25
      case sb => exact (by repeat (first | exact SubB.nil | exact Pick.here | apply Pick.there | apply SubB.emp | apply SubB.cons))
    · skip
      have hin : i < n := by
        have := of_decide_eq_false hc22
        omega
      rcases hB with ⟨e1, rfl, _⟩ | ⟨b, cap', sp, e1, rfl, l1, l2, hl, hl'⟩
      · omega
      cases e1
      refine V_ne (b := b) (b' := b2) Pick.here Pick.here (fun hne => ?_)
      have hl2 : cs.length + sp.length = cap * 1 := by rw [← hl', List.length_append]
      refine V_skip ?_
      refine VQ_then ?_
      refine V_seq ?_
      refine V_seq ?_
      refine V_region ?_
      refine VL_still rfl rfl rfl (S_move rfl) ?_
      refine VL_still rfl rfl rfl (S_move rfl) ?_
      first | refine VL_still rfl rfl rfl (S_addi rfl rfl (by omega) (by omega)) ?_ | refine VL_still rfl rfl rfl (S_add rfl rfl) ?_
      refine VL_still rfl rfl rfl (S_move rfl) ?_
      refine VL_still rfl rfl rfl (S_cap Try.underlying90 rfl) ?_
      refine VL_still rfl rfl rfl (S_gtr rfl rfl) ?_
      refine VL_nil ?_
      refine VQ_then ?_
      refine V_cond rfl (fun hc31 => ?_) (fun hc31 => ?_)
      · skip
        have hc : cap < n + 1 := by
          have := of_decide_eq_true hc31
          omega
        refine V_seq ?_
        refine V_region ?_
        refine VL_still rfl rfl rfl (S_move rfl) ?_
        refine VL_still rfl rfl rfl (S_move rfl) ?_
        refine VL_still rfl rfl rfl (X_to i (by simp) Try.underlying90 tx83 rfl rfl (by omega)) ?_
        refine VL_still rfl rfl rfl (S_move rfl) ?_
        refine VL_still rfl rfl rfl (S_move rfl) ?_
        first | refine VL_still rfl rfl rfl (S_addi rfl rfl (by omega) (by omega)) ?_ | refine VL_still rfl rfl rfl (S_add rfl rfl) ?_
        refine VL_still rfl rfl rfl (S_move rfl) ?_
        first | refine VL_still rfl rfl rfl (S_subi rfl rfl (by omega) (by omega)) ?_ | refine VL_still rfl rfl rfl (S_sub rfl rfl) ?_
        refine VL_eff rfl (X_append_zeros rfl Try.underlying90 Try.underlying3 tx83 rfl rfl rfl rfl rfl (SlR.blk (b := b) (off := 0) (l := cs ++ sp) (T := 83) (fz := (0, 0)) (by simp) (by rw [List.length_append]; omega) (by omega) (by omega)) (by omega) (by omega) (by omega)) ?_
        rintro _ _ _ ⟨b9, cap9, sp9, hb9, k1, k2, k3, rfl, rfl, rfl⟩
        have eL : (List.drop 0 (cs ++ sp)).take (i * 1) = cs.take (i * 1) := by rw [List.drop_zero, List.take_append_of_le_length (by omega)]
        have eN : i + ((n : Int) + ((1 : Nat) : Int) - (i : Int)).toNat = n + 1 := by omega
        rw [eL] at k3 ⊢
        rw [eN] at k1 ⊢
        have hF : (fillC (.pointer none) ((n : Int) + ((1 : Nat) : Int) - (i : Int)).toNat).length = vc.length + (cs.length - i * 1) := by
          rw [fillC_length (sz := 1) rfl]; omega
        refine VL_ne (b := b9) (b' := b2) Pick.here (Pick.there Pick.here) (fun hne9 => ?_)
        refine VL_still rfl rfl rfl (S_assign rfl) ?_
        refine VL_nil ?_
        refine VQ_then ?_
        refine V_seq ?_
        refine V_region ?_
        refine VL_still rfl rfl rfl (S_move rfl) ?_
        refine VL_still rfl rfl rfl (S_move rfl) ?_
        refine VL_still rfl rfl rfl (X_piece i (n + 1) Try.underlying90 tx83 rfl rfl rfl (by omega) (by omega) (by omega)) ?_
        refine VL_still rfl rfl rfl (S_move rfl) ?_
        refine VL_eff rfl (X_copy (b := b9) (off := 0 + i * 1) (l := cs.take (i * 1) ++ fillC (.pointer none) ((n : Int) + ((1 : Nat) : Int) - (i : Int)).toNat ++ sp9) rfl Try.underlying90 tx83 rfl rfl (SlR.blk (b := b2) (off := 0) (l := vc) (T := 83) (fz := (0, 0)) (by simp) (by omega) (by omega) (by omega)) Pick.here (fun _ => rfl) (fun _ => by rw [k3]; omega) (by rw [hvt]; exact ones_take ho')) ?_
        rintro _ _ _ ⟨rfl, rfl, rfl⟩
        have eV : List.take (min 1 (n + 1 - i) * 1) ((vc.drop 0).take (1 * 1)) = vc := by
          rw [show min 1 (n + 1 - i) = 1 by omega, List.drop_zero, List.take_take]
          exact List.take_of_length_le (by omega)
        rw [eV]
        refine VL_nil ?_
        refine VQ_then ?_
        refine V_seq ?_
        refine V_drawL _ [] 256 Try.mixed (by kernel_rfl) (by kernel_rfl) (Sub.refl _) SubB.nil ?_
        refine VD_still rfl rfl rfl rfl (S_move rfl) ?_
        refine VD_still rfl rfl rfl rfl (S_move rfl) ?_
        refine VD_still rfl rfl rfl rfl (S_move rfl) ?_
        first | refine VD_still rfl rfl rfl rfl (S_addi rfl rfl (by omega) (by omega)) ?_ | refine VD_still rfl rfl rfl rfl (S_add rfl rfl) ?_
        refine VD_still rfl rfl rfl rfl (X_piece (i + 1) (n + 1) Try.underlying90 tx83 rfl rfl rfl (by omega) (by omega) (by omega)) ?_
        refine VD_still rfl rfl rfl rfl (S_move rfl) ?_
        refine VD_still rfl rfl rfl rfl (S_move rfl) ?_
        refine VD_still rfl rfl rfl rfl (X_piece i n Try.underlying90 tx83 rfl rfl rfl (by omega) (by omega) (by omega)) ?_
        have eD : List.take (min (n - i) (n + 1 - (i + 1)) * 1) (((cs ++ sp).drop (0 + i * 1)).take ((n - i) * 1)) = cs.drop (i * 1) := by
          rw [show min (n - i) (n + 1 - (i + 1)) = n - i by omega, Nat.zero_add, List.take_take, Nat.min_self, List.drop_append_of_le_length (by omega), List.take_append_of_le_length (by rw [List.length_drop]; omega), List.take_of_length_le (by rw [List.length_drop]; omega)]
        refine VD_last rfl rfl (X_copy (b := b9) (off := 0 + (i + 1) * 1) (l := putAt (cs.take (i * 1) ++ fillC (.pointer none) ((n : Int) + ((1 : Nat) : Int) - (i : Int)).toNat ++ sp9) (0 + i * 1) vc) rfl Try.underlying90 tx83 rfl rfl (SlR.blk (b := b) (off := 0 + i * 1) (l := cs ++ sp) (T := 83) (fz := (0, 0)) (by simp) (by rw [List.length_append]; omega) (by omega) (by omega)) Pick.here (fun _ => rfl) (fun _ => by rw [putAt_length (by rw [k3]; omega), k3]; omega) (by rw [eD]; exact ones_drop ho)) ?_
        rintro _ _ _ ⟨rfl, rfl, rfl⟩
        rw [eD]
        refine VQ_then ?_
        refine V_seq ?_
        refine V_region ?_
        refine VL_still rfl rfl rfl (S_move rfl) ?_
        refine VL_still rfl rfl rfl (S_assign rfl) ?_
        refine VL_nil ?_
        refine VQ_then ?_
        refine V_ret ?_
        refine VQ_then_ret ?_
        refine VQ_fin1 (nb := [[(b9, .cells (List.toArray (putAt (putAt (cs.take (i * 1) ++ fillC (.pointer none) ((n : Int) + ((1 : Nat) : Int) - (i : Int)).toNat ++ sp9) (0 + i * 1) vc) (0 + (i + 1) * 1) (cs.drop (i * 1)))) 83 (0, 0))]]) (by first | exact .inl rfl | exact .inr rfl) rfl (RV_tmp rfl) ?sb ?po
        case po =>
          refine ⟨rfl, _, ?_, rfl⟩
          have hg := ins_grow (cs := cs) (vc := vc) (F := fillC (.pointer none) ((n : Int) + ((1 : Nat) : Int) - (i : Int)).toNat) (sp := sp9) (a := i * 1) (by omega) hF
          rw [Nat.zero_add, Nat.zero_add, show (i + 1) * 1 = i * 1 + vc.length by omega, hg]
          refine .inr ⟨b9, cap9, sp9, rfl, rfl, by omega, by omega, ?_, ?_⟩
          · simp; omega
          · rw [List.length_append, List.length_append, hF, List.length_take] at k3
            simp only [List.length_append, List.length_take, List.length_drop]
            omega
        case sb => exact (by repeat (first | exact SubB.nil | exact Pick.here | apply Pick.there | apply SubB.emp | apply SubB.cons))
      · skip
        have hc : n + 1 ≤ cap := by
          have := of_decide_eq_false hc31
          omega
        refine V_skip ?_
        refine VQ_then ?_
        refine V_seq ?_
        refine V_region ?_
        refine VL_still rfl rfl rfl (S_move rfl) ?_
        refine VL_still rfl rfl rfl (S_move rfl) ?_
        refine VL_still rfl rfl rfl (S_move rfl) ?_
        first | refine VL_still rfl rfl rfl (S_addi rfl rfl (by omega) (by omega)) ?_ | refine VL_still rfl rfl rfl (S_add rfl rfl) ?_
        refine VL_still rfl rfl rfl (X_to (n + 1) (by simp) Try.underlying90 tx83 rfl rfl (by omega)) ?_
        refine VL_still rfl rfl rfl (S_assign rfl) ?_
        refine VL_nil ?_
        refine VQ_then ?_
        refine V_seq ?_
        refine V_seq ?_
        refine V_region ?_
        refine VL_still rfl rfl rfl (S_move rfl) ?_
        refine VL_still rfl rfl rfl (S_move rfl) ?_
        refine VL_still rfl rfl rfl (S_move rfl) ?_
        refine VL_still rfl rfl rfl (S_move rfl) ?_
        first | refine VL_still rfl rfl rfl (S_addi rfl rfl (by omega) (by omega)) ?_ | refine VL_still rfl rfl rfl (S_add rfl rfl) ?_
        refine VL_still rfl rfl rfl (X_piece (i + 1) (n + 1) Try.underlying90 tx83 rfl rfl rfl (by omega) (by omega) (by omega)) ?_
        refine VL_eff rfl (E_still rfl (X_overlaps (params := [90, 90]) (res := [4]) (l := vc) (l' := cs ++ sp) (T := 83) (T' := 83) Try.func85 ov85a ov85b ov85c ov85d rfl Try.underlying90 tx83 rfl rfl (by simp) (by simp) (Ne.symm hne) (by omega) (by rw [List.length_append]; omega))) ?_
        rintro _ hh67 _ ⟨rfl, rfl, rfl⟩
        refine VL_still rfl rfl rfl (S_not rfl) ?_
        refine VL_nil ?_
        refine VQ_then ?_
        refine V_cond rfl (fun hc68 => ?_) (fun hc68 => ?_)
        · skip
          refine V_seq ?_
          refine V_drawL _ [] 256 Try.mixed (by kernel_rfl) (by kernel_rfl) (Sub.refl _) SubB.nil ?_
          refine VD_still rfl rfl rfl rfl (S_move rfl) ?_
          refine VD_still rfl rfl rfl rfl (S_move rfl) ?_
          refine VD_still rfl rfl rfl rfl (S_move rfl) ?_
          first | refine VD_still rfl rfl rfl rfl (S_addi rfl rfl (by omega) (by omega)) ?_ | refine VD_still rfl rfl rfl rfl (S_add rfl rfl) ?_
          refine VD_still rfl rfl rfl rfl (X_piece (i + 1) (n + 1) Try.underlying90 tx83 rfl rfl rfl (by omega) (by omega) (by omega)) ?_
          refine VD_still rfl rfl rfl rfl (S_move rfl) ?_
          refine VD_still rfl rfl rfl rfl (S_move rfl) ?_
          refine VD_still rfl rfl rfl rfl (X_piece i (n + 1) Try.underlying90 tx83 rfl rfl rfl (by omega) (by omega) (by omega)) ?_
          have eD : List.take (min (n + 1 - i) (n + 1 - (i + 1)) * 1) (((cs ++ sp).drop (0 + i * 1)).take ((n + 1 - i) * 1)) = cs.drop (i * 1) := by
            rw [show min (n + 1 - i) (n + 1 - (i + 1)) = n - i by omega, Nat.zero_add, List.take_take, Nat.min_eq_left (Nat.mul_le_mul_right _ (by omega)), List.drop_append_of_le_length (by omega), List.take_append_of_le_length (by rw [List.length_drop]; omega), List.take_of_length_le (by rw [List.length_drop]; omega)]
          refine VD_last rfl rfl (X_copy (b := b) (off := 0 + (i + 1) * 1) (l := cs ++ sp) rfl Try.underlying90 tx83 rfl rfl (SlR.blk (b := b) (off := 0 + i * 1) (l := cs ++ sp) (T := 83) (fz := (0, 0)) (by simp) (by rw [List.length_append]; omega) (by omega) (by omega)) Pick.here (fun _ => rfl) (fun _ => by rw [List.length_append]; omega) (by rw [eD]; exact ones_drop ho)) ?_
          rintro _ _ _ ⟨rfl, rfl, rfl⟩
          rw [eD]
          refine VQ_then ?_
          refine V_seq ?_
          refine V_region ?_
          refine VL_still rfl rfl rfl (S_move rfl) ?_
          refine VL_still rfl rfl rfl (S_move rfl) ?_
          refine VL_still rfl rfl rfl (X_piece i (n + 1) Try.underlying90 tx83 rfl rfl rfl (by omega) (by omega) (by omega)) ?_
          refine VL_still rfl rfl rfl (S_move rfl) ?_
          refine VL_eff rfl (X_copy (b := b) (off := 0 + i * 1) (l := putAt (cs ++ sp) (0 + (i + 1) * 1) (cs.drop (i * 1))) rfl Try.underlying90 tx83 rfl rfl (SlR.blk (b := b2) (off := 0) (l := vc) (T := 83) (fz := (0, 0)) (by simp) (by omega) (by omega) (by omega)) Pick.here (fun _ => rfl) (fun _ => by rw [putAt_length (by rw [List.length_append, List.length_drop]; omega), List.length_append]; omega) (by rw [hvt]; exact ones_take ho')) ?_
          rintro _ _ _ ⟨rfl, rfl, rfl⟩
          have eV : List.take (min 1 (n + 1 - i) * 1) ((vc.drop 0).take (1 * 1)) = vc := by
            rw [show min 1 (n + 1 - i) = 1 by omega, List.drop_zero, List.take_take]
            exact List.take_of_length_le (by omega)
          rw [eV]
          refine VL_nil ?_
          refine VQ_then ?_
          refine V_seq ?_
          refine V_region ?_
          refine VL_still rfl rfl rfl (S_move rfl) ?_
          refine VL_still rfl rfl rfl (S_assign rfl) ?_
          refine VL_nil ?_
          refine VQ_then ?_
          refine V_ret ?_
          refine VQ_then_ret ?_
          refine VQ_fin1 (nb := [[(b, .cells (List.toArray (putAt (putAt (cs ++ sp) (0 + (i + 1) * 1) (cs.drop (i * 1))) (0 + i * 1) vc)) 83 (0, 0))]]) (by first | exact .inl rfl | exact .inr rfl) rfl (RV_tmp rfl) ?sb ?po
          case po =>
            refine ⟨rfl, _, ?_, rfl⟩
            have hg := ins_place (cs := cs) (vc := vc) (sp := sp) (a := i * 1) (by omega) (by omega)
            rw [Nat.zero_add, Nat.zero_add, show (i + 1) * 1 = i * 1 + vc.length by omega, hg]
            refine .inr ⟨b, cap, sp.drop vc.length, rfl, rfl, by omega, by omega, ?_, ?_⟩
            · simp; omega
            · simp; omega
          case sb => exact (by repeat (first | exact SubB.nil | exact Pick.here | apply Pick.there | apply SubB.emp | apply SubB.cons))
        · skip
          simp at hc68

set_option maxRecDepth 100000 in
theorem n_delete (v : Value) (n i j : Nat) (cs : List Value) (h : Hp) (G : Gr) (hB : Buf 83 1 v n cs G) (ho : ones cs = true) (hij : i < j) (hj : j ≤ n) (hn : n ≤ 1000000) : Con Try.prog 89 [v, .int .i64 (i : Nat), .int .i64 (j : Nat)] h [G] (fun r h' nb => h = h' ∧ ∃ G', Buf 83 1 r (i + (n - j)) (cs.take (i * 1) ++ cs.drop (j * 1)) G' ∧ nb = [G']) := by
  have hrd := hB.reads (h := h) (bl := [G]) (fun q hq => by simpa using hq)
  obtain ⟨A, cap, rfl, hle, hmx⟩ := hrd.form
  rcases hB with ⟨e1, rfl, _⟩ | ⟨b, cap', sp, e1, rfl, l1, l2, hl, hl'⟩
  · omega
  cases e1
  have hl2 : cs.length + sp.length = cap * 1 := by rw [← hl', List.length_append]
  refine Con_of Try.func89 rfl Try.ntmps89 (Nat.le_of_ble_eq_true rfl) (fun w0 => ?_)
  refine V_seq ?_
  refine V_region ?_
  refine VL_still rfl rfl rfl (S_assign rfl) ?_
  refine VL_nil ?_
  refine VQ_then ?_
  refine V_seq ?_
  refine V_region ?_
  refine VL_still rfl rfl rfl (S_move rfl) ?_
  refine VL_still rfl rfl rfl (S_move rfl) ?_
  refine VL_still rfl rfl rfl (S_move rfl) ?_
  refine VL_still rfl rfl rfl (S_move rfl) ?_
  refine VL_still rfl rfl rfl (S_len Try.underlying90 rfl) ?_
  refine VL_still rfl rfl rfl (X_slice3 i j n Try.underlying90 tx83 rfl rfl rfl rfl (by omega) (by omega) (by omega)) ?_
  refine VL_nil ?_
  refine VQ_then ?_
  refine V_seq ?_
  refine V_seq ?_
  refine V_region ?_
  refine VL_still rfl rfl rfl (S_move rfl) ?_
  refine VL_still rfl rfl rfl (S_move rfl) ?_
  refine VL_still rfl rfl rfl (S_eql rfl rfl) ?_
  refine VL_nil ?_
  refine VQ_then ?_
  refine V_cond rfl (fun hc16 => ?_) (fun hc16 => ?_)
  · skip
    have := of_decide_eq_true hc16
    omega
  · skip
    refine V_skip ?_
    refine VQ_then ?_
    refine V_seq ?_
    refine V_region ?_
    refine VL_still rfl rfl rfl (S_move rfl) ?_
    refine VL_still rfl rfl rfl (S_len Try.underlying90 rfl) ?_
    refine VL_still rfl rfl rfl (S_assign rfl) ?_
    refine VL_nil ?_
    refine VQ_then ?_
    refine V_seq ?_
    refine V_draw _ [] 64 Try.mixed (by kernel_rfl) (Sub.refl _) SubB.nil ?_
    refine VD_still rfl rfl rfl rfl (S_move rfl) ?_
    refine VD_still rfl rfl rfl rfl (S_move rfl) ?_
    refine VD_still rfl rfl rfl rfl (X_to i (by simp) Try.underlying90 tx83 rfl rfl (by omega)) ?_
    refine VD_still rfl rfl rfl rfl (S_move rfl) ?_
    refine VD_still rfl rfl rfl rfl (S_move rfl) ?_
    refine VD_still rfl rfl rfl rfl (X_cut j n Try.underlying90 tx83 rfl rfl rfl (by omega) (by omega)) ?_
    have eD : List.take ((n - j) * 1) (cs.drop (j * 1)) = cs.drop (j * 1) := List.take_of_length_le (by rw [List.length_drop]; omega)
    refine VD_eff rfl rfl (X_append_in (b := b) (off := 0) (l := cs ++ sp) rfl Try.underlying90 Try.underlying90 rfl tx83 rfl rfl (hrd.cut (by omega) (by omega)) (by omega) Pick.here (by rw [List.length_append]; omega) (by rw [eD]; exact ones_drop ho)) ?_
    rintro _ _ _ ⟨rfl, rfl, rfl⟩
    rw [eD]
    refine ⟨⟨(by first | exact Sub.refl _ | assumption | exact Sub.trans (by assumption) (by assumption)), (by repeat (first | exact SubB.nil | exact Pick.here | apply Pick.there | apply SubB.emp | apply SubB.cons))⟩, ?_⟩
    refine VD_still rfl rfl rfl rfl (S_assign rfl) ?_
    refine VD_nil ?_
    refine VQ_then ?_
    refine V_seq ?_
    refine V_region ?_
    refine VL_still rfl rfl rfl (S_move rfl) ?_
    refine VL_still rfl rfl rfl (S_move rfl) ?_
    refine VL_still rfl rfl rfl (S_len Try.underlying90 rfl) ?_
    refine VL_still rfl rfl rfl (S_move rfl) ?_
    refine VL_still rfl rfl rfl (X_piece (i + (n - j)) n Try.underlying90 tx83 rfl rfl rfl (by omega) (by omega) (by omega)) ?_
    refine VL_eff rfl (X_clear (b := b) (off := 0 + (i + (n - j)) * 1) (l := putAt (cs ++ sp) (0 + i * 1) (cs.drop (j * 1))) Try.underlying90 tx83 rfl rfl rfl Pick.here (fun _ => rfl) (fun _ => by rw [putAt_length (by rw [List.length_append, List.length_drop]; omega), List.length_append]; omega)) ?_
    rintro _ _ _ ⟨rfl, rfl, rfl⟩
    refine VL_nil ?_
    refine VQ_then ?_
    refine V_seq ?_
    refine V_region ?_
    refine VL_still rfl rfl rfl (S_move rfl) ?_
    refine VL_still rfl rfl rfl (S_assign rfl) ?_
    refine VL_nil ?_
    refine VQ_then ?_
    refine V_ret ?_
    refine VQ_fin1 (nb := [[(b, .cells (List.toArray (putAt (putAt (cs ++ sp) (0 + i * 1) (cs.drop (j * 1))) (0 + (i + (n - j)) * 1) (fillC (.pointer none) (n - (i + (n - j)))))) 83 (0, 0))]]) (by first | exact .inl rfl | exact .inr rfl) rfl (RV_tmp rfl) ?sb ?po
    case po =>
      refine ⟨rfl, _, ?_, rfl⟩
      have hZ : (fillC (.pointer none) (n - (i + (n - j)))).length = j * 1 - i * 1 := by rw [fillC_length (sz := 1) rfl]; omega
      have hg := del_place (cs := cs) (sp := sp) (Z := fillC (.pointer none) (n - (i + (n - j)))) (a := i * 1) (b := j * 1) (by omega) (by omega) hZ
      rw [Nat.zero_add, Nat.zero_add, show (i + (n - j)) * 1 = i * 1 + (cs.length - j * 1) by omega, hg]
      refine .inr ⟨b, cap, fillC (.pointer none) (n - (i + (n - j))) ++ sp, rfl, rfl, by omega, by omega, ?_, ?_⟩
      · simp; omega
      · simp only [List.length_append, List.length_take, List.length_drop, hZ]; omega
    case sb => exact (by repeat (first | exact SubB.nil | exact Pick.here | apply Pick.there | apply SubB.emp | apply SubB.cons))

end Go.Proofs.Ytdglignjoojimaa

/- Contracts of the library's Grow and Concat. No conditions. -/
set_option linter.unusedVariables false
set_option linter.unusedSimpArgs false
namespace Go.Proofs.Ytdglignjoojimaa

/-- What is put together, one behind the other. -/
def tot (ps : List (Value × Nat × List Value)) : Nat := (ps.map (fun x => x.2.1)).sum
def catL (ps : List (Value × Nat × List Value)) : List Value := ps.flatMap (fun x => x.2.2)
theorem tot_snoc (ps : List (Value × Nat × List Value)) (i : Nat) (hi : i < ps.length) : tot (ps.take (i + 1)) = tot (ps.take i) + ps[i].2.1 := by
  rw [List.take_succ_eq_append_getElem hi]; unfold tot; rw [List.map_append, List.sum_append]; simp
theorem catL_snoc (ps : List (Value × Nat × List Value)) (i : Nat) (hi : i < ps.length) : catL (ps.take (i + 1)) = catL (ps.take i) ++ ps[i].2.2 := by
  rw [List.take_succ_eq_append_getElem hi]; unfold catL; rw [List.flatMap_append]; simp
theorem tot_le (ps : List (Value × Nat × List Value)) (i : Nat) : tot (ps.take i) ≤ tot ps := by
  conv => rhs; rw [← List.take_append_drop i ps]
  unfold tot; rw [List.map_append, List.sum_append]; omega

set_option maxRecDepth 100000 in
theorem x_grow (m : Nat) (h : Hp) (hn : m ≤ 1000000) : Con Try.prog 105 [.slice none 0 0, .int .i64 (m : Int)] h [] (fun r h' nb => h = h' ∧ ∃ G', Buf 34 2 r 0 [] G' ∧ nb = [G']) := by
  refine Con_of Try.func105 rfl Try.ntmps105 (Nat.le_of_ble_eq_true rfl) (fun w0 => ?_)
  refine V_seq ?_
  refine V_region ?_
  refine VL_still rfl rfl rfl (S_assign rfl) ?_
  refine VL_nil ?_
  refine VQ_then ?_
  refine V_seq ?_
  refine V_seq ?_
  refine V_region ?_
  refine VL_still rfl rfl rfl (S_move rfl) ?_
  refine VL_still rfl rfl rfl (S_lss rfl rfl) ?_
  refine VL_nil ?_
  refine VQ_then ?_
  refine V_cond rfl (fun hc6 => ?_) (fun hc6 => ?_)
  · skip
    have := of_decide_eq_true hc6
    omega
  · skip
    refine V_skip ?_
    refine VQ_then ?_
    refine V_seq ?_
    refine V_seq ?_
    refine V_region ?_
    refine VL_still rfl rfl rfl (S_move rfl) ?_
    refine VL_still rfl rfl rfl (S_move rfl) ?_
    refine VL_still rfl rfl rfl (S_cap Try.underlying89 rfl) ?_
    refine VL_still rfl rfl rfl (S_move rfl) ?_
    refine VL_still rfl rfl rfl (S_len Try.underlying89 rfl) ?_
    first | refine VL_still rfl rfl rfl (S_subi rfl rfl (by omega) (by omega)) ?_ | refine VL_still rfl rfl rfl (S_sub rfl rfl) ?_
    rw [show ((0 : Nat) : Int) - ((0 : Nat) : Int) = 0 by omega]
    first | refine VL_still rfl rfl rfl (S_subi rfl rfl (by omega) (by omega)) ?_ | refine VL_still rfl rfl rfl (S_sub rfl rfl) ?_
    rw [show (m : Int) - 0 = m by omega]
    refine VL_still rfl rfl rfl (S_assign rfl) ?_
    refine VL_nil ?_
    refine VQ_then ?_
    refine V_seq ?_
    refine V_region ?_
    refine VL_still rfl rfl rfl (S_move rfl) ?_
    refine VL_still rfl rfl rfl (S_gtr rfl rfl) ?_
    refine VL_nil ?_
    refine VQ_then ?_
    refine V_cond rfl (fun hc16 => ?_) (fun hc16 => ?_)
    · skip
      have hm : (0 : Int) < m := of_decide_eq_true hc16
      refine V_region ?_
      refine VL_still rfl rfl rfl (S_move rfl) ?_
      refine VL_still rfl rfl rfl (S_move rfl) ?_
      refine VL_still rfl rfl rfl (S_cap Try.underlying89 rfl) ?_
      refine VL_still rfl rfl rfl (X_to 0 (by simp) Try.underlying89 tx34 rfl rfl (by omega)) ?_
      refine VL_still rfl rfl rfl (S_move rfl) ?_
      refine VL_eff rfl (X_append_zeros (m := (m : Int)) rfl Try.underlying89 Try.underlying3 tx34 rfl rfl rfl rfl rfl (SlR.nil 2) (by omega) (by omega) (by omega)) ?_
      rintro _ _ _ ⟨b9, cap9, sp9, hb9, k1, k2, k3, rfl, rfl, rfl⟩
      refine VL_still rfl rfl rfl (S_move rfl) ?_
      refine VL_still rfl rfl rfl (S_len Try.underlying89 rfl) ?_
      refine VL_still rfl rfl rfl (X_to 0 (by simp) Try.underlying89 tx34 rfl rfl (by omega)) ?_
      refine VL_still rfl rfl rfl (S_assign rfl) ?_
      refine VL_nil ?_
      refine VQ_then ?_
      refine V_seq ?_
      refine V_region ?_
      refine VL_still rfl rfl rfl (S_move rfl) ?_
      refine VL_still rfl rfl rfl (S_assign rfl) ?_
      refine VL_nil ?_
      refine VQ_then ?_
      refine V_ret ?_
      refine VQ_fin1 (nb := [[(b9, .cells (List.toArray ([] ++ fillC (.agg #[(.int .i64 0), (.int .i64 0)]) (m : Int).toNat ++ sp9)) 34 (0, 0))]]) (by first | exact .inl rfl | exact .inr rfl) rfl (RV_tmp rfl) ?sb ?po
      case po =>
        exact ⟨rfl, _, .inr ⟨b9, cap9, fillC (.agg #[(.int .i64 0), (.int .i64 0)]) (m : Int).toNat ++ sp9, rfl, by simp, by omega, by omega, by simp, by simpa using k3⟩, rfl⟩
      case sb => exact (by repeat (first | exact SubB.nil | exact Pick.here | apply Pick.there | apply SubB.emp | apply SubB.cons))
    · skip
      refine V_skip ?_
      refine VQ_then ?_
      refine V_seq ?_
      refine V_region ?_
      refine VL_still rfl rfl rfl (S_move rfl) ?_
      refine VL_still rfl rfl rfl (S_assign rfl) ?_
      refine VL_nil ?_
      refine VQ_then ?_
      refine V_ret ?_
      refine VQ_fin1 (nb := [[]]) (by first | exact .inl rfl | exact .inr rfl) rfl (RV_tmp rfl) ?sb ?po
      case po =>
        exact ⟨rfl, [], Buf.nil _ _, rfl⟩
      case sb => exact (by repeat (first | exact SubB.nil | exact Pick.here | apply Pick.there | apply SubB.emp | apply SubB.cons))

set_option maxRecDepth 100000 in
theorem x_concat (b2 : Nat) (ps : List (Value × Nat × List Value)) (h : Hp) (hp : ∀ x ∈ ps, SlR h [] x.1 x.2.1 x.2.2 2) (ho : ∀ x ∈ ps, ones x.2.2 = true) (hn : tot ps ≤ 1000000) (hl : ps.length ≤ 1000000) : Con Try.prog 87 [.slice (some ⟨b2, 0, none⟩) ps.length ps.length] h [[(b2, .cells (List.toArray (ps.map (fun x => x.1))) 89 (0, 0))]] (fun r h' nb => h = h' ∧ ∃ G', Buf 34 2 r (tot ps) (catL ps) G' ∧ nb = [G']) := by
  refine Con_of Try.func87 rfl Try.ntmps87 (Nat.le_of_ble_eq_true rfl) (fun w0 => ?_)
  refine V_seq ?_
  refine V_region ?_
  refine VL_still rfl rfl rfl (S_assign rfl) ?_
  refine VL_nil ?_
  refine VQ_then ?_
  refine V_seq ?_
  refine V_region ?_
  refine VL_still rfl rfl rfl (S_assign rfl) ?_
  refine VL_nil ?_
  refine VQ_then ?_
  refine V_seq ?_
  refine V_seq ?_
  refine V_region ?_
  refine VL_still rfl rfl rfl (S_move rfl) ?_
  refine VL_still rfl rfl rfl (S_len Try.underlying189 rfl) ?_
  refine VL_still rfl rfl rfl (S_move rfl) ?_
  refine VL_nil ?_
  refine VQ_then ?_
  refine V_block ?_
  refine V_loop (ι := Nat) (fun i => ps.length - i) (fun i => i ≤ ps.length) (fun i => [(0, (.slice (some ⟨b2, 0, none⟩) ps.length ps.length)), (3, .int .i64 (tot (ps.take i) : Int)), (9, (.slice (some ⟨b2, 0, none⟩) ps.length ps.length)), (10, .int .i64 ps.length), (11, .int .i64 i)]) (fun _ => h) (fun _ => [[(b2, .cells (List.toArray (ps.map (fun x => x.1))) 89 (0, 0))]]) 0 (Nat.zero_le _) (by repeat (first | exact trivial | refine ⟨rfl, ?_⟩)) rfl (by repeat (first | exact SubB.nil | exact Pick.here | apply Pick.there | apply SubB.emp | apply SubB.cons)) (fun i hi => ?_)
  refine V_seq ?_
  refine V_region ?_
  refine VL_still rfl rfl rfl (S_lss rfl rfl) ?_
  refine VL_nil ?_
  refine VQ_then ?_
  refine V_seq ?_
  refine V_cond rfl (fun hc12 => ?_) (fun hc12 => ?_)
  · skip
    have hlt : i < ps.length := by
      have := of_decide_eq_true hc12
      omega
    have hpi := hp ps[i] (List.getElem_mem hlt)
    obtain ⟨Ai, ci, ei, li1, li2⟩ := hpi.form
    have hti := tot_snoc ps i hlt
    have htl := tot_le ps (i + 1)
    have hv : (ps.map (fun x => x.1))[0 + i * 1]? = some (.slice Ai ps[i].2.1 ci) := by
      rw [Nat.zero_add, Nat.mul_one, List.getElem?_map, List.getElem?_eq_getElem hlt, ← ei]; rfl
    refine V_skip ?_
    refine VQ_then ?_
    refine V_seq ?_
    refine V_block ?_
    refine V_seq ?_
    refine V_region ?_
    refine VL_still rfl rfl rfl (X_at i Try.underlying189 tx89 rfl rfl hlt) ?_
    refine VL_still rfl rfl rfl (S_load Try.underlying89 rfl rfl (Cell.trk (by repeat (first | exact Has.here | apply Has.there)) hv)) ?_
    refine VL_still rfl rfl rfl (S_assign rfl) ?_
    refine VL_nil ?_
    refine VQ_then ?_
    refine V_seq ?_
    refine V_region ?_
    refine VL_still rfl rfl rfl (S_move rfl) ?_
    refine VL_still rfl rfl rfl (S_move rfl) ?_
    refine VL_still rfl rfl rfl (S_len Try.underlying89 rfl) ?_
    refine VL_still rfl rfl rfl (S_addn (tot (ps.take i)) ps[i].2.1 rfl rfl (by omega)) ?_
    refine VL_still rfl rfl rfl (S_assign rfl) ?_
    refine VL_nil ?_
    refine VQ_then ?_
    refine V_seq ?_
    refine V_region ?_
    refine VL_still rfl rfl rfl (S_move rfl) ?_
    refine VL_still rfl rfl rfl (S_lss rfl rfl) ?_
    refine VL_nil ?_
    refine VQ_then ?_
    refine V_cond rfl (fun hc20 => ?_) (fun hc20 => ?_)
    · skip
      have := of_decide_eq_true hc20
      omega
    · skip
      refine V_skip ?_
      refine VQ_block_normal ?_
      refine VQ_then ?_
      refine V_region ?_
      first | refine VL_still rfl rfl rfl (S_addi rfl rfl (by omega) (by omega)) ?_ | refine VL_still rfl rfl rfl (S_add rfl rfl) ?_
      refine VL_still rfl rfl rfl (S_move rfl) ?_
      refine VL_nil ?_
      refine VQ_mid (i + 1) ⟨by omega, by omega⟩ (by rw [tot_snoc ps i hlt]; exact (by repeat (first | exact trivial | refine ⟨rfl, ?_⟩))) rfl (by repeat (first | exact SubB.nil | exact Pick.here | apply Pick.there | apply SubB.emp | apply SubB.cons))
  · skip
    have hge : i = ps.length := by
      have := of_decide_eq_false hc12
      omega
    subst hge
    rw [List.take_length]
    refine V_exit ?_
    refine VQ_then_exit ?_
    refine VQ_then_exit ?_
    refine VQ_block_exit ?_
    refine VQ_then ?_
    refine V_seq ?_
    refine V_region ?_
    refine VL_still rfl rfl rfl (S_move rfl) ?_
    refine VL_eff rfl (E_call rfl rfl rfl Try.call105 (x_grow (tot ps) h (by omega)) (by repeat (first | exact Split.nil | exact Pick.here | apply Pick.there | apply Split.cons))) ?_
    rintro _ hh24 _ ⟨v24, nb24, ⟨rfl, G24, hB24, rfl⟩, hs24, rfl, rfl⟩
    refine VL_still rfl rfl rfl (S_assign rfl) ?_
    refine VL_nil ?_
    refine VQ_then ?_
    refine V_seq ?_
    refine V_seq ?_
    refine V_region ?_
    refine VL_still rfl rfl rfl (S_move rfl) ?_
    refine VL_still rfl rfl rfl (S_len Try.underlying189 rfl) ?_
    refine VL_still rfl rfl rfl (S_move rfl) ?_
    refine VL_nil ?_
    refine VQ_then ?_
    refine V_block ?_
    refine V_loop (ι := Nat × Value × Gr) (fun i => ps.length - i.1) (fun (i, v, G) => i ≤ ps.length ∧ Buf 34 2 v (tot (ps.take i)) (catL (ps.take i)) G) (fun (i, v, G) => [(6, v), (25, (.slice (some ⟨b2, 0, none⟩) ps.length ps.length)), (26, .int .i64 ps.length), (27, .int .i64 i)]) (fun _ => h) (fun (i, v, G) => [G, [(b2, .cells (List.toArray (ps.map (fun x => x.1))) 89 (0, 0))]]) (0, v24, G24) ⟨Nat.zero_le _, hB24⟩ (by repeat (first | exact trivial | refine ⟨rfl, ?_⟩)) rfl (by repeat (first | exact SubB.nil | exact Pick.here | apply Pick.there | apply SubB.emp | apply SubB.cons)) (fun ⟨i, v6, G6⟩ hi => ?_)
    obtain ⟨hi1, hB6⟩ := hi
    simp only at hi1 hB6 ⊢
    refine V_seq ?_
    refine V_region ?_
    refine VL_still rfl rfl rfl (S_lss rfl rfl) ?_
    refine VL_nil ?_
    refine VQ_then ?_
    refine V_seq ?_
    refine V_cond rfl (fun hc28 => ?_) (fun hc28 => ?_)
    · skip
      have hlt : i < ps.length := by
        have := of_decide_eq_true hc28
        omega
      have hpi := hp ps[i] (List.getElem_mem hlt)
      obtain ⟨Ai, ci, ei, li1, li2⟩ := hpi.form
      have hti := tot_snoc ps i hlt
      have htl := tot_le ps (i + 1)
      have hv : (ps.map (fun x => x.1))[0 + i * 1]? = some (.slice Ai ps[i].2.1 ci) := by
        rw [Nat.zero_add, Nat.mul_one, List.getElem?_map, List.getElem?_eq_getElem hlt, ← ei]; rfl
      refine V_skip ?_
      refine VQ_then ?_
      refine V_seq ?_
      refine V_block ?_
      refine V_seq ?_
      refine V_region ?_
      refine VL_still rfl rfl rfl (X_at i Try.underlying189 tx89 rfl rfl hlt) ?_
      refine VL_still rfl rfl rfl (S_load Try.underlying89 rfl rfl (Cell.trk (by repeat (first | exact Has.here | apply Has.there)) hv)) ?_
      refine VL_still rfl rfl rfl (S_assign rfl) ?_
      refine VL_nil ?_
      refine VQ_then ?_
      refine V_region ?_
      refine VL_still rfl rfl rfl (S_move rfl) ?_
      refine VL_still rfl rfl rfl (S_move rfl) ?_
      refine VL_eff rfl (X_append rfl Try.underlying89 Try.underlying89 rfl tx34 rfl rfl rfl rfl hB6 (by repeat (first | exact Pick.here | apply Pick.there)) (SlR.sub (by rw [← ei]; exact hpi) (Sub.refl _)) (ho _ (List.getElem_mem hlt)) (by omega)) ?_
      rintro _ _ _ ⟨v33, G33, hB33, rfl, rfl, rfl⟩
      refine VL_still rfl rfl rfl (S_assign rfl) ?_
      refine VL_nil ?_
      refine VQ_block_normal ?_
      refine VQ_then ?_
      refine V_region ?_
      first | refine VL_still rfl rfl rfl (S_addi rfl rfl (by omega) (by omega)) ?_ | refine VL_still rfl rfl rfl (S_add rfl rfl) ?_
      refine VL_still rfl rfl rfl (S_move rfl) ?_
      refine VL_nil ?_
      refine VQ_mid (i + 1, v33, G33) ⟨⟨by omega, ?_⟩, by simp only; omega⟩ (by repeat (first | exact trivial | refine ⟨rfl, ?_⟩)) rfl (by repeat (first | exact SubB.nil | exact Pick.here | apply Pick.there | apply SubB.emp | apply SubB.cons))
      show Buf 34 2 _ _ _ _
      rw [tot_snoc ps i hlt, catL_snoc ps i hlt]
      exact hB33
    · skip
      refine V_exit ?_
      refine VQ_then_exit ?_
      refine VQ_then_exit ?_
      refine VQ_block_exit ?_
      refine VQ_then ?_
      refine V_seq ?_
      refine V_region ?_
      refine VL_still rfl rfl rfl (S_move rfl) ?_
      refine VL_still rfl rfl rfl (S_assign rfl) ?_
      refine VL_nil ?_
      refine VQ_then ?_
      refine V_ret ?_
      refine VQ_fin1 (nb := [G6]) (by first | exact .inl rfl | exact .inr rfl) rfl (RV_tmp rfl) ?sb ?po
      case po =>
        have hge : i = ps.length := by
          have := of_decide_eq_false hc28
          omega
        subst hge
        rw [List.take_length] at hB6
        exact ⟨rfl, G6, hB6, rfl⟩
      case sb => exact (by repeat (first | exact SubB.nil | exact Pick.here | apply Pick.there | apply SubB.emp | apply SubB.cons))

set_option maxRecDepth 100000 in
theorem n_grow (m : Nat) (h : Hp) (hn : m ≤ 1000000) : Con Try.prog 106 [.slice none 0 0, .int .i64 (m : Int)] h [] (fun r h' nb => h = h' ∧ ∃ G', Buf 83 1 r 0 [] G' ∧ nb = [G']) := by
  refine Con_of Try.func106 rfl Try.ntmps106 (Nat.le_of_ble_eq_true rfl) (fun w0 => ?_)
  refine V_seq ?_
  refine V_region ?_
  refine VL_still rfl rfl rfl (S_assign rfl) ?_
  refine VL_nil ?_
  refine VQ_then ?_
  refine V_seq ?_
  refine V_seq ?_
  refine V_region ?_
  refine VL_still rfl rfl rfl (S_move rfl) ?_
  refine VL_still rfl rfl rfl (S_lss rfl rfl) ?_
  refine VL_nil ?_
  refine VQ_then ?_
  refine V_cond rfl (fun hc6 => ?_) (fun hc6 => ?_)
  · skip
    have := of_decide_eq_true hc6
    omega
  · skip
    refine V_skip ?_
    refine VQ_then ?_
    refine V_seq ?_
    refine V_seq ?_
    refine V_region ?_
    refine VL_still rfl rfl rfl (S_move rfl) ?_
    refine VL_still rfl rfl rfl (S_move rfl) ?_
    refine VL_still rfl rfl rfl (S_cap Try.underlying90 rfl) ?_
    refine VL_still rfl rfl rfl (S_move rfl) ?_
    refine VL_still rfl rfl rfl (S_len Try.underlying90 rfl) ?_
    first | refine VL_still rfl rfl rfl (S_subi rfl rfl (by omega) (by omega)) ?_ | refine VL_still rfl rfl rfl (S_sub rfl rfl) ?_
    rw [show ((0 : Nat) : Int) - ((0 : Nat) : Int) = 0 by omega]
    first | refine VL_still rfl rfl rfl (S_subi rfl rfl (by omega) (by omega)) ?_ | refine VL_still rfl rfl rfl (S_sub rfl rfl) ?_
    rw [show (m : Int) - 0 = m by omega]
    refine VL_still rfl rfl rfl (S_assign rfl) ?_
    refine VL_nil ?_
    refine VQ_then ?_
    refine V_seq ?_
    refine V_region ?_
    refine VL_still rfl rfl rfl (S_move rfl) ?_
    refine VL_still rfl rfl rfl (S_gtr rfl rfl) ?_
    refine VL_nil ?_
    refine VQ_then ?_
    refine V_cond rfl (fun hc16 => ?_) (fun hc16 => ?_)
    · skip
      have hm : (0 : Int) < m := of_decide_eq_true hc16
      refine V_region ?_
      refine VL_still rfl rfl rfl (S_move rfl) ?_
      refine VL_still rfl rfl rfl (S_move rfl) ?_
      refine VL_still rfl rfl rfl (S_cap Try.underlying90 rfl) ?_
      refine VL_still rfl rfl rfl (X_to 0 (by simp) Try.underlying90 tx83 rfl rfl (by omega)) ?_
      refine VL_still rfl rfl rfl (S_move rfl) ?_
      refine VL_eff rfl (X_append_zeros (m := (m : Int)) rfl Try.underlying90 Try.underlying3 tx83 rfl rfl rfl rfl rfl (SlR.nil 1) (by omega) (by omega) (by omega)) ?_
      rintro _ _ _ ⟨b9, cap9, sp9, hb9, k1, k2, k3, rfl, rfl, rfl⟩
      refine VL_still rfl rfl rfl (S_move rfl) ?_
      refine VL_still rfl rfl rfl (S_len Try.underlying90 rfl) ?_
      refine VL_still rfl rfl rfl (X_to 0 (by simp) Try.underlying90 tx83 rfl rfl (by omega)) ?_
      refine VL_still rfl rfl rfl (S_assign rfl) ?_
      refine VL_nil ?_
      refine VQ_then ?_
      refine V_seq ?_
      refine V_region ?_
      refine VL_still rfl rfl rfl (S_move rfl) ?_
      refine VL_still rfl rfl rfl (S_assign rfl) ?_
      refine VL_nil ?_
      refine VQ_then ?_
      refine V_ret ?_
      refine VQ_fin1 (nb := [[(b9, .cells (List.toArray ([] ++ fillC (.pointer none) (m : Int).toNat ++ sp9)) 83 (0, 0))]]) (by first | exact .inl rfl | exact .inr rfl) rfl (RV_tmp rfl) ?sb ?po
      case po =>
        exact ⟨rfl, _, .inr ⟨b9, cap9, fillC (.pointer none) (m : Int).toNat ++ sp9, rfl, by simp, by omega, by omega, by simp, by simpa using k3⟩, rfl⟩
      case sb => exact (by repeat (first | exact SubB.nil | exact Pick.here | apply Pick.there | apply SubB.emp | apply SubB.cons))
    · skip
      refine V_skip ?_
      refine VQ_then ?_
      refine V_seq ?_
      refine V_region ?_
      refine VL_still rfl rfl rfl (S_move rfl) ?_
      refine VL_still rfl rfl rfl (S_assign rfl) ?_
      refine VL_nil ?_
      refine VQ_then ?_
      refine V_ret ?_
      refine VQ_fin1 (nb := [[]]) (by first | exact .inl rfl | exact .inr rfl) rfl (RV_tmp rfl) ?sb ?po
      case po =>
        exact ⟨rfl, [], Buf.nil _ _, rfl⟩
      case sb => exact (by repeat (first | exact SubB.nil | exact Pick.here | apply Pick.there | apply SubB.emp | apply SubB.cons))

set_option maxRecDepth 100000 in
theorem n_concat (b2 : Nat) (ps : List (Value × Nat × List Value)) (h : Hp) (hp : ∀ x ∈ ps, SlR h [] x.1 x.2.1 x.2.2 1) (ho : ∀ x ∈ ps, ones x.2.2 = true) (hn : tot ps ≤ 1000000) (hl : ps.length ≤ 1000000) : Con Try.prog 88 [.slice (some ⟨b2, 0, none⟩) ps.length ps.length] h [[(b2, .cells (List.toArray (ps.map (fun x => x.1))) 90 (0, 0))]] (fun r h' nb => h = h' ∧ ∃ G', Buf 83 1 r (tot ps) (catL ps) G' ∧ nb = [G']) := by
  refine Con_of Try.func88 rfl Try.ntmps88 (Nat.le_of_ble_eq_true rfl) (fun w0 => ?_)
  refine V_seq ?_
  refine V_region ?_
  refine VL_still rfl rfl rfl (S_assign rfl) ?_
  refine VL_nil ?_
  refine VQ_then ?_
  refine V_seq ?_
  refine V_region ?_
  refine VL_still rfl rfl rfl (S_assign rfl) ?_
  refine VL_nil ?_
  refine VQ_then ?_
  refine V_seq ?_
  refine V_seq ?_
  refine V_region ?_
  refine VL_still rfl rfl rfl (S_move rfl) ?_
  refine VL_still rfl rfl rfl (S_len Try.underlying191 rfl) ?_
  refine VL_still rfl rfl rfl (S_move rfl) ?_
  refine VL_nil ?_
  refine VQ_then ?_
  refine V_block ?_
  refine V_loop (ι := Nat) (fun i => ps.length - i) (fun i => i ≤ ps.length) (fun i => [(0, (.slice (some ⟨b2, 0, none⟩) ps.length ps.length)), (3, .int .i64 (tot (ps.take i) : Int)), (9, (.slice (some ⟨b2, 0, none⟩) ps.length ps.length)), (10, .int .i64 ps.length), (11, .int .i64 i)]) (fun _ => h) (fun _ => [[(b2, .cells (List.toArray (ps.map (fun x => x.1))) 90 (0, 0))]]) 0 (Nat.zero_le _) (by repeat (first | exact trivial | refine ⟨rfl, ?_⟩)) rfl (by repeat (first | exact SubB.nil | exact Pick.here | apply Pick.there | apply SubB.emp | apply SubB.cons)) (fun i hi => ?_)
  refine V_seq ?_
  refine V_region ?_
  refine VL_still rfl rfl rfl (S_lss rfl rfl) ?_
  refine VL_nil ?_
  refine VQ_then ?_
  refine V_seq ?_
  refine V_cond rfl (fun hc12 => ?_) (fun hc12 => ?_)
  · skip
    have hlt : i < ps.length := by
      have := of_decide_eq_true hc12
      omega
    have hpi := hp ps[i] (List.getElem_mem hlt)
    obtain ⟨Ai, ci, ei, li1, li2⟩ := hpi.form
    have hti := tot_snoc ps i hlt
    have htl := tot_le ps (i + 1)
    have hv : (ps.map (fun x => x.1))[0 + i * 1]? = some (.slice Ai ps[i].2.1 ci) := by
      rw [Nat.zero_add, Nat.mul_one, List.getElem?_map, List.getElem?_eq_getElem hlt, ← ei]; rfl
    refine V_skip ?_
    refine VQ_then ?_
    refine V_seq ?_
    refine V_block ?_
    refine V_seq ?_
    refine V_region ?_
    refine VL_still rfl rfl rfl (X_at i Try.underlying191 tx90 rfl rfl hlt) ?_
    refine VL_still rfl rfl rfl (S_load Try.underlying90 rfl rfl (Cell.trk (by repeat (first | exact Has.here | apply Has.there)) hv)) ?_
    refine VL_still rfl rfl rfl (S_assign rfl) ?_
    refine VL_nil ?_
    refine VQ_then ?_
    refine V_seq ?_
    refine V_region ?_
    refine VL_still rfl rfl rfl (S_move rfl) ?_
    refine VL_still rfl rfl rfl (S_move rfl) ?_
    refine VL_still rfl rfl rfl (S_len Try.underlying90 rfl) ?_
    refine VL_still rfl rfl rfl (S_addn (tot (ps.take i)) ps[i].2.1 rfl rfl (by omega)) ?_
    refine VL_still rfl rfl rfl (S_assign rfl) ?_
    refine VL_nil ?_
    refine VQ_then ?_
    refine V_seq ?_
    refine V_region ?_
    refine VL_still rfl rfl rfl (S_move rfl) ?_
    refine VL_still rfl rfl rfl (S_lss rfl rfl) ?_
    refine VL_nil ?_
    refine VQ_then ?_
    refine V_cond rfl (fun hc20 => ?_) (fun hc20 => ?_)
    · skip
      have := of_decide_eq_true hc20
      omega
    · skip
      refine V_skip ?_
      refine VQ_block_normal ?_
      refine VQ_then ?_
      refine V_region ?_
      first | refine VL_still rfl rfl rfl (S_addi rfl rfl (by omega) (by omega)) ?_ | refine VL_still rfl rfl rfl (S_add rfl rfl) ?_
      refine VL_still rfl rfl rfl (S_move rfl) ?_
      refine VL_nil ?_
      refine VQ_mid (i + 1) ⟨by omega, by omega⟩ (by rw [tot_snoc ps i hlt]; exact (by repeat (first | exact trivial | refine ⟨rfl, ?_⟩))) rfl (by repeat (first | exact SubB.nil | exact Pick.here | apply Pick.there | apply SubB.emp | apply SubB.cons))
  · skip
    have hge : i = ps.length := by
      have := of_decide_eq_false hc12
      omega
    subst hge
    rw [List.take_length]
    refine V_exit ?_
    refine VQ_then_exit ?_
    refine VQ_then_exit ?_
    refine VQ_block_exit ?_
    refine VQ_then ?_
    refine V_seq ?_
    refine V_region ?_
    refine VL_still rfl rfl rfl (S_move rfl) ?_
    refine VL_eff rfl (E_call rfl rfl rfl Try.call106 (n_grow (tot ps) h (by omega)) (by repeat (first | exact Split.nil | exact Pick.here | apply Pick.there | apply Split.cons))) ?_
    rintro _ hh24 _ ⟨v24, nb24, ⟨rfl, G24, hB24, rfl⟩, hs24, rfl, rfl⟩
    refine VL_still rfl rfl rfl (S_assign rfl) ?_
    refine VL_nil ?_
    refine VQ_then ?_
    refine V_seq ?_
    refine V_seq ?_
    refine V_region ?_
    refine VL_still rfl rfl rfl (S_move rfl) ?_
    refine VL_still rfl rfl rfl (S_len Try.underlying191 rfl) ?_
    refine VL_still rfl rfl rfl (S_move rfl) ?_
    refine VL_nil ?_
    refine VQ_then ?_
    refine V_block ?_
    refine V_loop (ι := Nat × Value × Gr) (fun i => ps.length - i.1) (fun (i, v, G) => i ≤ ps.length ∧ Buf 83 1 v (tot (ps.take i)) (catL (ps.take i)) G) (fun (i, v, G) => [(6, v), (25, (.slice (some ⟨b2, 0, none⟩) ps.length ps.length)), (26, .int .i64 ps.length), (27, .int .i64 i)]) (fun _ => h) (fun (i, v, G) => [G, [(b2, .cells (List.toArray (ps.map (fun x => x.1))) 90 (0, 0))]]) (0, v24, G24) ⟨Nat.zero_le _, hB24⟩ (by repeat (first | exact trivial | refine ⟨rfl, ?_⟩)) rfl (by repeat (first | exact SubB.nil | exact Pick.here | apply Pick.there | apply SubB.emp | apply SubB.cons)) (fun ⟨i, v6, G6⟩ hi => ?_)
    obtain ⟨hi1, hB6⟩ := hi
    simp only at hi1 hB6 ⊢
    refine V_seq ?_
    refine V_region ?_
    refine VL_still rfl rfl rfl (S_lss rfl rfl) ?_
    refine VL_nil ?_
    refine VQ_then ?_
    refine V_seq ?_
    refine V_cond rfl (fun hc28 => ?_) (fun hc28 => ?_)
    · skip
      have hlt : i < ps.length := by
        have := of_decide_eq_true hc28
        omega
      have hpi := hp ps[i] (List.getElem_mem hlt)
      obtain ⟨Ai, ci, ei, li1, li2⟩ := hpi.form
      have hti := tot_snoc ps i hlt
      have htl := tot_le ps (i + 1)
      have hv : (ps.map (fun x => x.1))[0 + i * 1]? = some (.slice Ai ps[i].2.1 ci) := by
        rw [Nat.zero_add, Nat.mul_one, List.getElem?_map, List.getElem?_eq_getElem hlt, ← ei]; rfl
      refine V_skip ?_
      refine VQ_then ?_
      refine V_seq ?_
      refine V_block ?_
      refine V_seq ?_
      refine V_region ?_
      refine VL_still rfl rfl rfl (X_at i Try.underlying191 tx90 rfl rfl hlt) ?_
      refine VL_still rfl rfl rfl (S_load Try.underlying90 rfl rfl (Cell.trk (by repeat (first | exact Has.here | apply Has.there)) hv)) ?_
      refine VL_still rfl rfl rfl (S_assign rfl) ?_
      refine VL_nil ?_
      refine VQ_then ?_
      refine V_region ?_
      refine VL_still rfl rfl rfl (S_move rfl) ?_
      refine VL_still rfl rfl rfl (S_move rfl) ?_
      refine VL_eff rfl (X_append rfl Try.underlying90 Try.underlying90 rfl tx83 rfl rfl rfl rfl hB6 (by repeat (first | exact Pick.here | apply Pick.there)) (SlR.sub (by rw [← ei]; exact hpi) (Sub.refl _)) (ho _ (List.getElem_mem hlt)) (by omega)) ?_
      rintro _ _ _ ⟨v33, G33, hB33, rfl, rfl, rfl⟩
      refine VL_still rfl rfl rfl (S_assign rfl) ?_
      refine VL_nil ?_
      refine VQ_block_normal ?_
      refine VQ_then ?_
      refine V_region ?_
      first | refine VL_still rfl rfl rfl (S_addi rfl rfl (by omega) (by omega)) ?_ | refine VL_still rfl rfl rfl (S_add rfl rfl) ?_
      refine VL_still rfl rfl rfl (S_move rfl) ?_
      refine VL_nil ?_
      refine VQ_mid (i + 1, v33, G33) ⟨⟨by omega, ?_⟩, by simp only; omega⟩ (by repeat (first | exact trivial | refine ⟨rfl, ?_⟩)) rfl (by repeat (first | exact SubB.nil | exact Pick.here | apply Pick.there | apply SubB.emp | apply SubB.cons))
      show Buf 83 1 _ _ _ _
      rw [tot_snoc ps i hlt, catL_snoc ps i hlt]
      exact hB33
    · skip
      refine V_exit ?_
      refine VQ_then_exit ?_
      refine VQ_then_exit ?_
      refine VQ_block_exit ?_
      refine VQ_then ?_
      refine V_seq ?_
      refine V_region ?_
      refine VL_still rfl rfl rfl (S_move rfl) ?_
      refine VL_still rfl rfl rfl (S_assign rfl) ?_
      refine VL_nil ?_
      refine VQ_then ?_
      refine V_ret ?_
      refine VQ_fin1 (nb := [G6]) (by first | exact .inl rfl | exact .inr rfl) rfl (RV_tmp rfl) ?sb ?po
      case po =>
        have hge : i = ps.length := by
          have := of_decide_eq_false hc28
          omega
        subst hge
        rw [List.take_length] at hB6
        exact ⟨rfl, G6, hB6, rfl⟩
      case sb => exact (by repeat (first | exact SubB.nil | exact Pick.here | apply Pick.there | apply SubB.emp | apply SubB.cons))

end Go.Proofs.Ytdglignjoojimaa

/- The plain law of trees: search trees of one depth, what is put and deleted, sizes and order. No program in sight. No conditions. -/
set_option linter.unusedVariables false
set_option linter.unusedSimpArgs false
namespace Go.Proofs.Ytdglignjoojimaa

/-- A key with its extent. -/
abbrev Pr := Int × Int × Int
/-- A tree. -/
inductive Tr : Type
  | leaf (l : List Pr)
  | node (ks : List Int) (ts : List Tr)
def keysP (l : List Pr) : List Int := l.map (fun p => p.1)
def keysT : Tr → List Int
  | .leaf l => keysP l
  | .node ks _ => ks
/-- The pairs of a tree whose leaves all lie d below it. -/
def flat : Nat → Tr → List Pr
  | 0, .leaf l => l
  | d + 1, .node _ ts => ts.flatMap (flat d)
  | _, _ => []
theorem flat_0 (l : List Pr) : flat 0 (.leaf l) = l := rfl
theorem flat_s (d : Nat) (ks : List Int) (ts : List Tr) : flat (d + 1) (.node ks ts) = ts.flatMap (flat d) := rfl
abbrev nk (t : Tr) : Nat := (keysT t).length

/-! ### Search -/
def lb : List Int → Int → Nat
  | [], _ => 0
  | x :: r, k => if x < k then lb r k + 1 else 0
def ub : List Int → Int → Nat
  | [], _ => 0
  | x :: r, k => if x ≤ k then ub r k + 1 else 0
/-- Rising, between lo and hi. -/
def Up : Int → Int → List Int → Prop
  | _, _, [] => True
  | lo, hi, x :: r => lo ≤ x ∧ x < hi ∧ Up (x + 1) hi r
theorem Up.mono : ∀ {l : List Int} {lo hi lo' hi' : Int}, Up lo hi l → lo' ≤ lo → hi ≤ hi' → Up lo' hi' l
  | [], _, _, _, _, _, _, _ => trivial
  | x :: r, lo, hi, lo', hi', ⟨h1, h2, h3⟩, a, b => ⟨by omega, by omega, h3.mono (Int.le_refl _) b⟩
theorem Up.app : ∀ {a b : List Int} {lo k hi : Int}, Up lo k a → Up k hi b → lo ≤ k → k ≤ hi → Up lo hi (a ++ b)
  | [], b, lo, k, hi, _, h, h1, h2 => h.mono h1 (Int.le_refl _)
  | x :: r, b, lo, k, hi, ⟨a1, a2, a3⟩, h, h1, h2 => ⟨a1, by omega, a3.app h (by omega) h2⟩
theorem Up.mem : ∀ {l : List Int} {lo hi x : Int}, Up lo hi l → x ∈ l → lo ≤ x ∧ x < hi
  | y :: r, lo, hi, x, ⟨h1, h2, h3⟩, hx => by
    rcases List.mem_cons.1 hx with rfl | hx
    · exact ⟨h1, h2⟩
    · have := h3.mem hx; omega
theorem Up.left : ∀ {a b : List Int} {lo hi : Int}, Up lo hi (a ++ b) → Up lo hi a
  | [], b, lo, hi, h => trivial
  | x :: r, b, lo, hi, ⟨h1, h2, h3⟩ => ⟨h1, h2, h3.left⟩
theorem Up.right : ∀ {a b : List Int} {lo hi : Int}, Up lo hi (a ++ b) → Up lo hi b
  | [], b, lo, hi, h => h
  | x :: r, b, lo, hi, ⟨h1, h2, h3⟩ => h3.right.mono (by omega) (Int.le_refl _)
/-- Split ahead of a key that is in it. -/
theorem Up.split : ∀ {a : List Int} {x : Int} {b : List Int} {lo hi : Int}, Up lo hi (a ++ x :: b) → Up lo x a ∧ Up x hi (x :: b) ∧ lo ≤ x ∧ x < hi ∧ (a ≠ [] → lo < x)
  | [], x, b, lo, hi, ⟨h1, h2, h3⟩ => ⟨trivial, ⟨Int.le_refl _, h2, h3⟩, h1, h2, fun h => absurd rfl h⟩
  | y :: a, x, b, lo, hi, ⟨h1, h2, h3⟩ => by
    obtain ⟨k1, k2, k3, k4, k5⟩ := h3.split
    exact ⟨⟨h1, by omega, k1⟩, k2, by omega, k4, fun _ => by omega⟩

theorem Up.get_lt : ∀ {l : List Int} {lo hi : Int} {i j : Nat} (h : Up lo hi l) (hij : i < j) (hj : j < l.length), l[i]'(by omega) < l[j]
  | x :: r, lo, hi, 0, j + 1, ⟨h1, h2, h3⟩, _, hj => by
    have := h3.mem (x := r[j]'(by simpa using hj)) (List.getElem_mem _)
    simp only [List.getElem_cons_zero, List.getElem_cons_succ]; omega
  | x :: r, lo, hi, i + 1, j + 1, ⟨h1, h2, h3⟩, hij, hj => by
    simp only [List.getElem_cons_succ]
    exact h3.get_lt (by omega) (by simpa using hj)
theorem Up.get_le {l : List Int} {lo hi : Int} {i j : Nat} (h : Up lo hi l) (hij : i < j) (hj : j < l.length) : l[i]'(by omega) ≤ l[j] := Int.le_of_lt (h.get_lt hij hj)
theorem lb_le : ∀ (l : List Int) (k : Int), lb l k ≤ l.length
  | [], k => Nat.le_refl _
  | x :: r, k => by have := lb_le r k; unfold lb; split <;> simp <;> omega
theorem ub_le : ∀ (l : List Int) (k : Int), ub l k ≤ l.length
  | [], k => Nat.le_refl _
  | x :: r, k => by have := ub_le r k; unfold ub; split <;> simp <;> omega
/-- What a search finds: all ahead of the place are less, all from it on are not. -/
theorem lb_of : ∀ {l : List Int} {k : Int} {i : Nat}, i ≤ l.length → (∀ j (hj : j < l.length), j < i → l[j] < k) → (∀ j (hj : j < l.length), i ≤ j → k ≤ l[j]) → lb l k = i
  | [], k, i, hi, _, _ => by simp at hi; subst hi; rfl
  | x :: r, k, 0, _, _, h2 => by
    have := h2 0 (by simp) (Nat.le_refl _)
    simp only [List.getElem_cons_zero] at this
    unfold lb; rw [if_neg (by omega)]
  | x :: r, k, i + 1, hi, h1, h2 => by
    have := h1 0 (by simp) (by omega)
    simp only [List.getElem_cons_zero] at this
    unfold lb; rw [if_pos this]
    congr 1
    refine lb_of (by simpa using hi) (fun j hj hj' => ?_) (fun j hj hj' => ?_)
    · have := h1 (j + 1) (by simpa using hj) (by omega)
      simpa using this
    · have := h2 (j + 1) (by simpa using hj) (by omega)
      simpa using this
theorem lb_lt : ∀ {l : List Int} {k : Int} {j : Nat} (hj : j < l.length), j < lb l k → l[j] < k
  | x :: r, k, 0, _, h => by unfold lb at h; split at h <;> simp_all
  | x :: r, k, j + 1, hj, h => by
    unfold lb at h; split at h
    · have := lb_lt (l := r) (k := k) (j := j) (by simpa using hj) (by omega); simpa using this
    · omega
theorem lb_ge : ∀ {l : List Int} {k lo hi : Int} {j : Nat} (hu : Up lo hi l) (hj : j < l.length), lb l k ≤ j → k ≤ l[j]
  | x :: r, k, lo, hi, 0, hu, _, h => by unfold lb at h; split at h <;> first | omega | (simp; omega)
  | x :: r, k, lo, hi, j + 1, hu, hj, h => by
    unfold lb at h; split at h
    · have := lb_ge (l := r) (k := k) (j := j) hu.2.2 (by simpa using hj) (by omega); simpa using this
    · have := hu.2.2.mem (x := r[j]'(by simpa using hj)) (List.getElem_mem _)
      simp only [List.getElem_cons_succ]; omega
theorem ub_eq : ∀ {l : List Int} {k lo hi : Int}, Up lo hi l → ub l k = (if l[lb l k]? = some k then lb l k + 1 else lb l k)
  | [], k, lo, hi, _ => by simp [ub, lb]
  | x :: r, k, lo, hi, ⟨h1, h2, h3⟩ => by
    have ih := ub_eq (k := k) h3
    unfold ub lb
    by_cases h : x < k
    · rw [if_pos (by omega), if_pos h, ih]
      simp only [List.getElem?_cons_succ]
      split <;> rfl
    · rw [if_neg h]
      simp only [List.getElem?_cons_zero, Option.some.injEq]
      by_cases e : x = k
      · subst e
        rw [if_pos (Int.le_refl _), if_pos rfl]
        have : ub r x = 0 := by
          cases r with
          | nil => rfl
          | cons y r => unfold ub; rw [if_neg (by have := h3.1; omega)]
        rw [this]
      · rw [if_neg (by omega), if_neg e]

/-! ### Pairs -/
def insP (l : List Pr) (k : Int) (v : Int × Int) : List Pr := l.filter (fun p => decide (p.1 < k)) ++ (k, v) :: l.filter (fun p => decide (k < p.1))
def delP (l : List Pr) (k : Int) : List Pr := l.filter (fun p => decide (p.1 ≠ k))
theorem filter_all {α : Type} {l : List α} {p : α → Bool} (h : ∀ x ∈ l, p x = true) : l.filter p = l := List.filter_eq_self.2 h
theorem filter_no {α : Type} {l : List α} {p : α → Bool} (h : ∀ x ∈ l, p x = false) : l.filter p = [] := List.filter_eq_nil_iff.2 fun x hx => by simp [h x hx]
theorem insP_mid {A B C : List Pr} {k : Int} {v : Int × Int} (hA : ∀ p ∈ A, p.1 < k) (hC : ∀ p ∈ C, k < p.1) : insP (A ++ B ++ C) k v = A ++ insP B k v ++ C := by
  unfold insP
  simp only [List.filter_append]
  rw [filter_all (l := A) (fun x hx => by simp [hA x hx]), filter_no (l := C) (fun x hx => by have := hC x hx; simp; omega),
    filter_no (l := A) (fun x hx => by have := hA x hx; simp; omega), filter_all (l := C) (fun x hx => by simp [hC x hx])]
  simp
theorem delP_mid {A B C : List Pr} {k : Int} (hA : ∀ p ∈ A, p.1 ≠ k) (hC : ∀ p ∈ C, p.1 ≠ k) : delP (A ++ B ++ C) k = A ++ delP B k ++ C := by
  unfold delP
  simp only [List.filter_append]
  rw [filter_all (l := A) (fun x hx => by simp [hA x hx]), filter_all (l := C) (fun x hx => by simp [hC x hx])]
/-- A leaf's list, split at a key's place. -/
theorem leaf_cut : ∀ {l : List Pr} {k lo hi : Int}, Up lo hi (keysP l) → (∀ p ∈ l.take (lb (keysP l) k), p.1 < k) ∧
    ((keysP l)[lb (keysP l) k]? = some k → ∃ v, l.drop (lb (keysP l) k) = (k, v) :: l.drop (lb (keysP l) k + 1) ∧ ∀ p ∈ l.drop (lb (keysP l) k + 1), k < p.1) ∧
    ((keysP l)[lb (keysP l) k]? ≠ some k → ∀ p ∈ l.drop (lb (keysP l) k), k < p.1)
  | [], k, lo, hi, _ => by simp [lb, keysP]
  | p :: l, k, lo, hi, h => by
    obtain ⟨h1, h2, h3⟩ : lo ≤ p.1 ∧ p.1 < hi ∧ Up (p.1 + 1) hi (keysP l) := h
    have ih := leaf_cut (k := k) h3
    have e : keysP (p :: l) = p.1 :: keysP l := rfl
    rw [e]
    unfold lb
    by_cases hk : p.1 < k
    · rw [if_pos hk]
      simp only [List.take_succ_cons, List.drop_succ_cons, List.getElem?_cons_succ, List.mem_cons, forall_eq_or_imp]
      exact ⟨⟨hk, ih.1⟩, ih.2.1, ih.2.2⟩
    · rw [if_neg hk]
      have hlt : ∀ q ∈ l, p.1 < q.1 := fun q hq => by
        have := h3.mem (x := q.1) (List.mem_map.2 ⟨q, hq, rfl⟩); omega
      simp only [List.take_zero, List.drop_zero, List.getElem?_cons_zero, Option.some.injEq, List.drop_succ_cons, List.not_mem_nil, false_imp_iff, implies_true, true_and]
      refine ⟨fun e => ?_, fun e q hq => ?_⟩
      · subst e; exact ⟨p.2, rfl, hlt⟩
      · have e' : p.1 ≠ k := by simpa using e
        rcases List.mem_cons.1 hq with rfl | hq
        · omega
        · have := hlt q hq; omega
theorem Up.ins {l : List Pr} {k lo hi : Int} {v : Int × Int} (h : Up lo hi (keysP l)) (h0 : lo ≤ k) (h1 : k < hi) : Up lo hi (keysP (insP l k v)) := by
  induction l generalizing lo with
  | nil => show lo ≤ k ∧ k < hi ∧ True; exact ⟨h0, h1, trivial⟩
  | cons p l ih =>
    obtain ⟨a1, a2, a3⟩ : lo ≤ p.1 ∧ p.1 < hi ∧ Up (p.1 + 1) hi (keysP l) := h
    have hlt : ∀ q ∈ l, p.1 < q.1 := fun q hq => by
      have := a3.mem (x := q.1) (List.mem_map.2 ⟨q, hq, rfl⟩); omega
    rcases Int.lt_trichotomy p.1 k with hk | hk | hk
    · have e : insP (p :: l) k v = p :: insP l k v := by
        unfold insP
        rw [List.filter_cons_of_pos (by simpa using hk), List.filter_cons_of_neg (by simp; omega)]; rfl
      rw [e]
      show lo ≤ p.1 ∧ p.1 < hi ∧ Up (p.1 + 1) hi (keysP (insP l k v))
      exact ⟨a1, a2, ih a3 (by omega)⟩
    · have e : insP (p :: l) k v = (k, v) :: l := by
        unfold insP
        rw [List.filter_cons_of_neg (by simp; omega), List.filter_cons_of_neg (by simp; omega), filter_no (fun x hx => by have := hlt x hx; simp; omega), filter_all (fun x hx => by have := hlt x hx; simp; omega)]; rfl
      rw [e]
      show lo ≤ k ∧ k < hi ∧ Up (k + 1) hi (keysP l)
      exact ⟨h0, h1, by rw [← hk]; exact a3⟩
    · have e : insP (p :: l) k v = (k, v) :: p :: l := by
        unfold insP
        rw [List.filter_cons_of_neg (by simp; omega), List.filter_cons_of_pos (by simpa using hk), filter_no (fun x hx => by have := hlt x hx; simp; omega), filter_all (fun x hx => by have := hlt x hx; simp; omega)]; rfl
      rw [e]
      show lo ≤ k ∧ k < hi ∧ k + 1 ≤ p.1 ∧ p.1 < hi ∧ Up (p.1 + 1) hi (keysP l)
      exact ⟨h0, h1, by omega, a2, a3⟩
theorem Up.filter {l : List Pr} {lo hi : Int} {f : Pr → Bool} (h : Up lo hi (keysP l)) : Up lo hi (keysP (l.filter f)) := by
  induction l generalizing lo with
  | nil => trivial
  | cons p l ih =>
    obtain ⟨a1, a2, a3⟩ : lo ≤ p.1 ∧ p.1 < hi ∧ Up (p.1 + 1) hi (keysP l) := h
    cases hf : f p with
    | true => rw [List.filter_cons_of_pos hf]; exact ⟨a1, a2, ih a3⟩
    | false => rw [List.filter_cons_of_neg (by simp [hf])]; exact ih (a3.mono (by omega) (Int.le_refl _))
end Go.Proofs.Ytdglignjoojimaa

/- The plain law of trees, part 2: chains of kids between separators; put and delete. No program in sight. No conditions. -/
set_option linter.unusedVariables false
set_option linter.unusedSimpArgs false
namespace Go.Proofs.Ytdglignjoojimaa

section
variable {α : Type} {R : Int → Int → α → Prop}
/-- Kids between separators. -/
def Ch (R : Int → Int → α → Prop) : Int → Int → List Int → List α → Prop
  | lo, hi, [], ts => ∃ t, ts = [t] ∧ R lo hi t
  | lo, hi, k :: ks, ts => ∃ t ts', ts = t :: ts' ∧ lo < k ∧ k < hi ∧ R lo k t ∧ Ch R k hi ks ts'
theorem Ch.len : ∀ {ks : List Int} {ts : List α} {lo hi : Int}, Ch R lo hi ks ts → ts.length = ks.length + 1
  | [], ts, lo, hi, ⟨t, e, _⟩ => by subst e; rfl
  | k :: ks, ts, lo, hi, ⟨t, ts', e, _, _, _, h⟩ => by subst e; have := h.len; simp; omega
theorem Ch.seps : ∀ {ks : List Int} {ts : List α} {lo hi : Int}, Ch R lo hi ks ts → Up (lo + 1) hi ks
  | [], ts, lo, hi, _ => trivial
  | k :: ks, ts, lo, hi, ⟨t, ts', e, h1, h2, _, h⟩ => ⟨by omega, h2, h.seps⟩
theorem Ch.up {f : α → List Pr} (hR : ∀ lo hi t, R lo hi t → Up lo hi (keysP (f t))) : ∀ {ks : List Int} {ts : List α} {lo hi : Int}, Ch R lo hi ks ts → Up lo hi (keysP (ts.flatMap f))
  | [], ts, lo, hi, ⟨t, e, h⟩ => by subst e; simpa using hR _ _ _ h
  | k :: ks, ts, lo, hi, ⟨t, ts', e, h1, h2, h3, h⟩ => by
    subst e
    rw [List.flatMap_cons]
    unfold keysP
    rw [List.map_append]
    exact (hR _ _ _ h3).app (h.up hR) (by omega) (by omega)
theorem Ch.app : ∀ {k1 : List Int} {t1 : List α} {lo s hi : Int} {k2 : List Int} {t2 : List α}, Ch R lo s k1 t1 → Ch R s hi k2 t2 → lo < s → s < hi → Ch R lo hi (k1 ++ s :: k2) (t1 ++ t2)
  | [], t1, lo, s, hi, k2, t2, ⟨t, e, h⟩, h2, a, b => by subst e; exact ⟨t, t2, rfl, a, b, h, h2⟩
  | k :: k1, t1, lo, s, hi, k2, t2, ⟨t, ts', e, h1, h3, h4, h⟩, h2, a, b => by
    subst e
    exact ⟨t, ts' ++ t2, rfl, h1, by omega, h4, h.app h2 h3 b⟩
theorem Ch.cut : ∀ {ks : List Int} {ts : List α} {lo hi : Int} {h : Nat}, Ch R lo hi ks ts → h < ks.length →
    ∃ s, ks[h]? = some s ∧ lo < s ∧ s < hi ∧ Ch R lo s (ks.take h) (ts.take (h + 1)) ∧ Ch R s hi (ks.drop (h + 1)) (ts.drop (h + 1))
  | k :: ks, ts, lo, hi, 0, ⟨t, ts', e, h1, h2, h3, h⟩, _ => by
    subst e; exact ⟨k, rfl, h1, h2, ⟨t, rfl, h3⟩, h⟩
  | k :: ks, ts, lo, hi, n + 1, ⟨t, ts', e, h1, h2, h3, h⟩, hn => by
    subst e
    obtain ⟨s, a1, a2, a3, a4, a5⟩ := h.cut (h := n) (by simpa using hn)
    exact ⟨s, by simpa using a1, by omega, a3, ⟨t, ts'.take (n + 1), rfl, h1, a2, h3, a4⟩, a5⟩

/-- One kid in the midst of the others. -/
structure Foc (R : Int → Int → α → Prop) (lo hi : Int) (ks : List Int) (i : Nat) (A : List α) (t : α) (B : List α) (lo' hi' : Int) : Prop where
  at_ : A.length = i
  low : lo ≤ lo'
  high : hi' ≤ hi
  mid : lo' < hi' ∨ ks = []
  one : R lo' hi' t
  put1 : ∀ t', R lo' hi' t' → Ch R lo hi ks (A ++ t' :: B)
  put2 : ∀ b t' m, lo' < b → b < hi' → R lo' b t' → R b hi' m → Ch R lo hi (ks.take i ++ b :: ks.drop i) (A ++ t' :: m :: B)
  key : ∀ k, ub ks k = i → lo ≤ k → k < hi → lo' ≤ k ∧ k < hi'
  left : ∀ a ∈ A, ∃ lo1 hi1, lo ≤ lo1 ∧ hi1 ≤ lo' ∧ R lo1 hi1 a
  right : ∀ b ∈ B, ∃ lo1 hi1, hi' ≤ lo1 ∧ hi1 ≤ hi ∧ R lo1 hi1 b
theorem Ch.foc : ∀ {ks : List Int} {ts : List α} {lo hi : Int} {i : Nat}, Ch R lo hi ks ts → i ≤ ks.length → ∃ A t B lo' hi', ts = A ++ t :: B ∧ Foc R lo hi ks i A t B lo' hi'
  | [], ts, lo, hi, i, ⟨t, e, h⟩, hi' => by
    have hi' : i = 0 := by simpa using hi'
    subst hi' e
    exact ⟨[], t, [], lo, hi, rfl, rfl, Int.le_refl _, Int.le_refl _, .inr rfl, h, fun t' h' => ⟨t', rfl, h'⟩, fun b t' m h1 h2 h3 h4 => ⟨t', [m], rfl, h1, h2, h3, m, rfl, h4⟩, fun k _ h1 h2 => ⟨h1, h2⟩, by simp, by simp⟩
  | k :: ks, ts, lo, hi, 0, ⟨t, ts', e, h1, h2, h3, h⟩, _ => by
    subst e
    refine ⟨[], t, ts', lo, k, rfl, rfl, Int.le_refl _, by omega, .inl h1, h3, fun t' h' => ⟨t', ts', rfl, h1, h2, h', h⟩, fun b t' m a1 a2 a3 a4 => ⟨t', m :: ts', rfl, a1, by omega, a3, m, ts', rfl, a2, h2, a4, h⟩, fun x hx a1 a2 => ?_, by simp, ?_⟩
    · unfold ub at hx
      split at hx
      · omega
      · omega
    · -- all kids behind
      have key : ∀ {ks : List Int} {ts : List α} {lo hi : Int}, Ch R lo hi ks ts → ∀ b ∈ ts, ∃ lo1 hi1, lo ≤ lo1 ∧ hi1 ≤ hi ∧ R lo1 hi1 b := by
        intro ks
        induction ks with
        | nil =>
          rintro ts lo hi ⟨t, e, h⟩ b hb
          subst e
          obtain rfl := List.mem_singleton.1 hb
          exact ⟨lo, hi, Int.le_refl _, Int.le_refl _, h⟩
        | cons k ks ih =>
          rintro ts lo hi ⟨t, ts', e, h1, h2, h3, h⟩ b hb
          subst e
          rcases List.mem_cons.1 hb with rfl | hb
          · exact ⟨lo, k, Int.le_refl _, by omega, h3⟩
          · obtain ⟨a, c, a1, a2, a3⟩ := ih h b hb
            exact ⟨a, c, by omega, a2, a3⟩
      exact key h
  | k :: ks, ts, lo, hi, i + 1, ⟨t, ts', e, h1, h2, h3, h⟩, hi' => by
    subst e
    obtain ⟨A, x, B, lo', hi', e, f⟩ := h.foc (i := i) (by simpa using hi')
    subst e
    refine ⟨t :: A, x, B, lo', hi', rfl, by simp [f.at_], by have := f.low; omega, f.high, .inl ?_, f.one, fun t' h' => ⟨t, _, rfl, h1, h2, h3, f.put1 t' h'⟩, fun b t' m a1 a2 a3 a4 => ?_, fun x hx a1 a2 => ?_, ?_, f.right⟩
    · rcases f.mid with g | g
      · exact g
      · subst g
        obtain ⟨t0, e0, _⟩ := f.put1 x f.one
        have : A = [] := by cases A with | nil => rfl | cons a A => simp at e0
        have hb := f.put2
        have hl := f.low; have hh := f.high
        -- no separators: the whole between k and hi
        have hk := f.key k (by
          have := f.at_
          rw [‹A = []›] at this
          rw [← this]; rfl) (Int.le_refl _) h2
        omega
    · have := f.put2 b t' m a1 a2 a3 a4
      simp only [List.take_succ_cons, List.drop_succ_cons, List.cons_append]
      exact ⟨t, _, rfl, h1, h2, h3, this⟩
    · unfold ub at hx
      split at hx
      · exact f.key x (by omega) (by omega) a2
      · omega
    · intro a ha
      rcases List.mem_cons.1 ha with rfl | ha
      · exact ⟨lo, k, Int.le_refl _, f.low, h3⟩
      · obtain ⟨l1, l2, b1, b2, b3⟩ := f.left a ha
        exact ⟨l1, l2, by omega, b2, b3⟩
/-- Two kids side by side. -/
structure Foc2 (R : Int → Int → α → Prop) (lo hi : Int) (ks : List Int) (i : Nat) (A : List α) (a b : α) (B : List α) (lo' s hi' : Int) : Prop where
  at_ : A.length = i
  low : lo ≤ lo'
  high : hi' ≤ hi
  m1 : lo' < s
  m2 : s < hi'
  sep : ks[i]? = some s
  ra : R lo' s a
  rb : R s hi' b
  put1 : ∀ c, R lo' hi' c → Ch R lo hi (ks.take i ++ ks.drop (i + 1)) (A ++ c :: B)
  put2 : ∀ b' l r, lo' < b' → b' < hi' → R lo' b' l → R b' hi' r → Ch R lo hi (ks.set i b') (A ++ l :: r :: B)
theorem Ch.foc2 : ∀ {ks : List Int} {ts : List α} {lo hi : Int} {i : Nat}, Ch R lo hi ks ts → i < ks.length → ∃ A a b B lo' s hi', ts = A ++ a :: b :: B ∧ Foc2 R lo hi ks i A a b B lo' s hi'
  | k :: ks, ts, lo, hi, 0, ⟨t, ts', e, h1, h2, h3, h⟩, _ => by
    subst e
    cases ks with
    | nil =>
      obtain ⟨u, e, hu⟩ := h
      subst e
      exact ⟨[], t, u, [], lo, k, hi, rfl, rfl, Int.le_refl _, Int.le_refl _, h1, h2, rfl, h3, hu, fun c hc => ⟨c, rfl, hc⟩, fun b' l r a1 a2 a3 a4 => ⟨l, [r], rfl, a1, a2, a3, r, rfl, a4⟩⟩
    | cons k2 ks =>
      obtain ⟨u, us, e, g1, g2, g3, g⟩ := h
      subst e
      exact ⟨[], t, u, us, lo, k, k2, rfl, rfl, Int.le_refl _, by omega, h1, g1, rfl, h3, g3, fun c hc => ⟨c, us, rfl, by omega, g2, hc, g⟩,
        fun b' l r a1 a2 a3 a4 => ⟨l, r :: us, rfl, a1, by omega, a3, r, us, rfl, a2, g2, a4, g⟩⟩
  | k :: ks, ts, lo, hi, i + 1, ⟨t, ts', e, h1, h2, h3, h⟩, hi' => by
    subst e
    obtain ⟨A, a, b, B, lo', s, hi', e, f⟩ := h.foc2 (i := i) (by simpa using hi')
    subst e
    exact ⟨t :: A, a, b, B, lo', s, hi', rfl, by simp [f.at_], by have := f.low; omega, f.high, f.m1, f.m2, by simpa using f.sep, f.ra, f.rb,
      fun c hc => ⟨t, _, rfl, h1, h2, h3, f.put1 c hc⟩, fun b' l r a1 a2 a3 a4 => ⟨t, _, rfl, h1, h2, h3, f.put2 b' l r a1 a2 a3 a4⟩⟩
end

/-- In order, between lo and hi. -/
def In : Nat → Int → Int → Tr → Prop
  | 0, lo, hi, .leaf l => Up lo hi (keysP l)
  | d + 1, lo, hi, .node ks ts => Ch (In d) lo hi ks ts
  | _, _, _, _ => False
/-- All below have enough keys, and not too many. -/
def Kd : Nat → Tr → Prop
  | d + 1, .node _ ts => ∀ x ∈ ts, 3 ≤ nk x ∧ nk x ≤ 7 ∧ Kd d x
  | _, _ => True
def Full (d : Nat) (t : Tr) : Prop := 3 ≤ nk t ∧ nk t ≤ 7 ∧ Kd d t
theorem In.up : ∀ {d : Nat} {t : Tr} {lo hi : Int}, In d lo hi t → Up lo hi (keysP (flat d t))
  | 0, .leaf l, lo, hi, h => h
  | d + 1, .node ks ts, lo, hi, h => Ch.up (fun lo hi t h => In.up h) h

/-! ### Put -/
def cutT : Tr → Tr × Option (Int × Tr)
  | .leaf l => if l.length ≤ 7 then (.leaf l, none) else (.leaf (l.take (l.length / 2)), some ((keysP l).getD (l.length / 2) 0, .leaf (l.drop (l.length / 2))))
  | .node ks ts => if ks.length ≤ 7 then (.node ks ts, none) else
      (.node (ks.take (ks.length / 2)) (ts.take (ks.length / 2 + 1)), some (ks.getD (ks.length / 2) 0, .node (ks.drop (ks.length / 2 + 1)) (ts.drop (ks.length / 2 + 1))))
def putT : Nat → Tr → Int → Int × Int → Tr × Option (Int × Tr)
  | 0, .leaf l, k, v =>
    if (keysP l)[lb (keysP l) k]? = some k then (.leaf (l.set (lb (keysP l) k) (k, v)), none)
    else cutT (.leaf (l.take (lb (keysP l) k) ++ (k, v) :: l.drop (lb (keysP l) k)))
  | d + 1, .node ks ts, k, v =>
    match ts[ub ks k]? with
    | none => (.node ks ts, none)
    | some x =>
      match (putT d x k v).2 with
      | none => cutT (.node ks (ts.set (ub ks k) (putT d x k v).1))
      | some (b, m) => cutT (.node (ks.take (ub ks k) ++ b :: ks.drop (ub ks k)) ((ts.set (ub ks k) (putT d x k v).1).take (ub ks k + 1) ++ m :: (ts.set (ub ks k) (putT d x k v).1).drop (ub ks k + 1)))
  | _, t, _, _ => (t, none)
theorem cutT_0 (l : List Pr) : cutT (.leaf l) = if l.length ≤ 7 then (.leaf l, none) else (.leaf (l.take (l.length / 2)), some ((keysP l).getD (l.length / 2) 0, .leaf (l.drop (l.length / 2)))) := rfl
theorem cutT_s (ks : List Int) (ts : List Tr) : cutT (.node ks ts) = if ks.length ≤ 7 then (.node ks ts, none) else
      (.node (ks.take (ks.length / 2)) (ts.take (ks.length / 2 + 1)), some (ks.getD (ks.length / 2) 0, .node (ks.drop (ks.length / 2 + 1)) (ts.drop (ks.length / 2 + 1)))) := rfl
theorem putT_0 (l : List Pr) (k : Int) (v : Int × Int) : putT 0 (.leaf l) k v = if (keysP l)[lb (keysP l) k]? = some k then (.leaf (l.set (lb (keysP l) k) (k, v)), none)
    else cutT (.leaf (l.take (lb (keysP l) k) ++ (k, v) :: l.drop (lb (keysP l) k))) := rfl
theorem putT_s (d : Nat) (ks : List Int) (ts : List Tr) (k : Int) (v : Int × Int) : putT (d + 1) (.node ks ts) k v =
    match ts[ub ks k]? with
    | none => (.node ks ts, none)
    | some x =>
      match (putT d x k v).2 with
      | none => cutT (.node ks (ts.set (ub ks k) (putT d x k v).1))
      | some (b, m) => cutT (.node (ks.take (ub ks k) ++ b :: ks.drop (ub ks k)) ((ts.set (ub ks k) (putT d x k v).1).take (ub ks k + 1) ++ m :: (ts.set (ub ks k) (putT d x k v).1).drop (ub ks k + 1))) := rfl
/-- A tree, or two with a separator: between lo and hi, of these pairs, of so many keys at least. -/
def Out (d : Nat) (lo hi : Int) (n : Nat) (l : List Pr) : Tr × Option (Int × Tr) → Prop
  | (t, none) => In d lo hi t ∧ Kd d t ∧ n ≤ nk t ∧ nk t ≤ 7 ∧ flat d t = l
  | (t, some (b, m)) => lo < b ∧ b < hi ∧ In d lo b t ∧ In d b hi m ∧ Full d t ∧ Full d m ∧ flat d t ++ flat d m = l
theorem cut_ok {d : Nat} {t : Tr} {lo hi : Int} (h : In d lo hi t) (hk : Kd d t) (h10 : nk t ≤ 10) : Out d lo hi (nk t) (flat d t) (cutT t) := by
  cases d with
  | zero =>
    cases t with
    | node ks ts => exact absurd h (by simp [In])
    | leaf l =>
    have h : Up lo hi (keysP l) := h
    have hn : nk (.leaf l) = l.length := by simp [nk, keysT, keysP]
    rw [cutT_0]
    split
    · exact ⟨h, trivial, Nat.le_refl _, by omega, rfl⟩
    · rename_i h7
      have hlt : l.length / 2 < l.length := by omega
      have hd : l.drop (l.length / 2) = l[l.length / 2] :: l.drop (l.length / 2 + 1) := List.drop_eq_getElem_cons hlt
      have hg : (keysP l).getD (l.length / 2) 0 = l[l.length / 2].1 := by simp [keysP, List.getD_eq_getElem?_getD, hlt]
      have hs : keysP l = keysP (l.take (l.length / 2)) ++ l[l.length / 2].1 :: keysP (l.drop (l.length / 2 + 1)) := by
        conv => lhs; rw [← List.take_append_drop (l.length / 2) l, hd]
        simp only [keysP, List.map_append, List.map_cons]
      rw [hs] at h
      obtain ⟨a1, a2, a3, a4, a5⟩ := h.split
      rw [hg]
      have hne : keysP (l.take (l.length / 2)) ≠ [] := by
        intro e
        have h1 : (keysP (l.take (l.length / 2))).length = l.length / 2 := by simp [keysP]; omega
        rw [e] at h1
        simp only [List.length_nil] at h1
        omega
      refine ⟨a5 hne, a4, a1, ?_, ⟨?_, ?_, trivial⟩, ⟨?_, ?_, trivial⟩, List.take_append_drop _ _⟩
      · show Up _ _ (keysP (l.drop (l.length / 2)))
        rw [hd]; exact a2
      all_goals simp [nk, keysT, keysP]; omega
  | succ d =>
    cases t with
    | leaf l => exact absurd h (by simp [In])
    | node ks ts =>
    have h : Ch (In d) lo hi ks ts := h
    have hk : ∀ x ∈ ts, 3 ≤ nk x ∧ nk x ≤ 7 ∧ Kd d x := hk
    have h10 : ks.length ≤ 10 := h10
    have hl := h.len
    rw [cutT_s]
    split
    · rename_i h7
      exact ⟨h, hk, Nat.le_refl _, h7, rfl⟩
    · rename_i h7
      obtain ⟨s, a1, a2, a3, a4, a5⟩ := h.cut (h := ks.length / 2) (by omega)
      have hg : ks.getD (ks.length / 2) 0 = s := by simp [List.getD_eq_getElem?_getD, a1]
      rw [hg]
      refine ⟨a2, a3, a4, a5, ⟨?_, ?_, ?_⟩, ⟨?_, ?_, ?_⟩, ?_⟩
      · show 3 ≤ (ks.take (ks.length / 2)).length
        simp; omega
      · show (ks.take (ks.length / 2)).length ≤ 7
        simp; omega
      · exact fun x hx => hk x (List.mem_of_mem_take hx)
      · show 3 ≤ (ks.drop (ks.length / 2 + 1)).length
        simp; omega
      · show (ks.drop (ks.length / 2 + 1)).length ≤ 7
        simp; omega
      · exact fun x hx => hk x (List.mem_of_mem_drop hx)
      · show (ts.take (ks.length / 2 + 1)).flatMap (flat d) ++ (ts.drop (ks.length / 2 + 1)).flatMap (flat d) = ts.flatMap (flat d)
        rw [← List.flatMap_append, List.take_append_drop]
theorem Out.le {d : Nat} {lo hi : Int} {n n' : Nat} {l l' : List Pr} {p : Tr × Option (Int × Tr)} (h : Out d lo hi n l p) (hn : n' ≤ n) (e : l = l') : Out d lo hi n' l' p := by
  subst e
  obtain ⟨t, o⟩ := p
  cases o with
  | none => exact ⟨h.1, h.2.1, by have := h.2.2.1; omega, h.2.2.2⟩
  | some q => exact h
theorem flat_side {d : Nat} {A : List Tr} {k : Int} {p : Pr} (h : ∀ a ∈ A, ∃ lo1 hi1, hi1 ≤ k ∧ In d lo1 hi1 a) (hp : p ∈ A.flatMap (flat d)) : p.1 < k := by
  obtain ⟨a, ha, hp⟩ := List.mem_flatMap.1 hp
  obtain ⟨l1, h1, h2, h3⟩ := h a ha
  have := h3.up.mem (x := p.1) (List.mem_map.2 ⟨p, hp, rfl⟩)
  omega
theorem flat_side' {d : Nat} {A : List Tr} {k : Int} {p : Pr} (h : ∀ a ∈ A, ∃ lo1 hi1, k ≤ lo1 ∧ In d lo1 hi1 a) (hp : p ∈ A.flatMap (flat d)) : k ≤ p.1 := by
  obtain ⟨a, ha, hp⟩ := List.mem_flatMap.1 hp
  obtain ⟨l1, h1, h2, h3⟩ := h a ha
  have := h3.up.mem (x := p.1) (List.mem_map.2 ⟨p, hp, rfl⟩)
  omega
theorem put_ok : ∀ {d : Nat} {t : Tr} {lo hi k : Int} {v : Int × Int}, In d lo hi t → Kd d t → nk t ≤ 7 → lo ≤ k → k < hi → Out d lo hi (nk t) (insP (flat d t) k v) (putT d t k v)
  | 0, .leaf l, lo, hi, k, v, h, _, h7, h0, h1 => by
    have h : Up lo hi (keysP l) := h
    obtain ⟨c1, c2, c3⟩ := leaf_cut (k := k) h
    have hn : ∀ l : List Pr, nk (.leaf l) = l.length := fun l => by simp [nk, keysT, keysP]
    have h7 : l.length ≤ 7 := by rw [← hn]; exact h7
    have hup := h.ins (v := v) h0 h1
    rw [putT_0]
    by_cases hf : (keysP l)[lb (keysP l) k]? = some k
    · rw [if_pos hf]
      obtain ⟨u, e1, e2⟩ := c2 hf
      have hlt : lb (keysP l) k < l.length := by
        have := (List.getElem?_eq_some_iff.1 hf).1
        simpa [keysP] using this
      have e : l.set (lb (keysP l) k) (k, v) = insP l k v := by
        rw [List.set_eq_take_append_cons_drop, if_pos hlt]
        conv => rhs; rw [← List.take_append_drop (lb (keysP l) k) l, e1]
        rw [show l.take (lb (keysP l) k) ++ (k, u) :: l.drop (lb (keysP l) k + 1) = l.take (lb (keysP l) k) ++ [(k, u)] ++ l.drop (lb (keysP l) k + 1) by simp, insP_mid c1 e2]
        simp [insP]
      show Up lo hi (keysP (l.set (lb (keysP l) k) (k, v))) ∧ _ ∧ _ ∧ _ ∧ l.set (lb (keysP l) k) (k, v) = insP l k v
      rw [hn, hn, List.length_set]
      exact ⟨by rw [e]; exact hup, trivial, Nat.le_refl _, h7, e⟩
    · rw [if_neg hf]
      have e2 := c3 hf
      have e : l.take (lb (keysP l) k) ++ (k, v) :: l.drop (lb (keysP l) k) = insP l k v := by
        conv => rhs; rw [← List.take_append_drop (lb (keysP l) k) l]
        rw [show l.take (lb (keysP l) k) ++ l.drop (lb (keysP l) k) = l.take (lb (keysP l) k) ++ [] ++ l.drop (lb (keysP l) k) by simp, insP_mid c1 e2]
        simp [insP]
      have hlen : (l.take (lb (keysP l) k) ++ (k, v) :: l.drop (lb (keysP l) k)).length = l.length + 1 := by
        have := lb_le (keysP l) k
        simp [keysP] at this ⊢
        omega
      refine (cut_ok (d := 0) (t := .leaf (l.take (lb (keysP l) k) ++ (k, v) :: l.drop (lb (keysP l) k))) (lo := lo) (hi := hi) (by show Up lo hi (keysP _); rw [e]; exact hup) trivial (by rw [hn]; omega)).le (by rw [hn, hn]; omega) e
  | d + 1, t, lo, hi, k, v, h, hk, h7, h0, h1 => by
    cases t with
    | leaf l => exact absurd h (by simp [In])
    | node ks ts =>
    have h : Ch (In d) lo hi ks ts := h
    have hk : ∀ x ∈ ts, 3 ≤ nk x ∧ nk x ≤ 7 ∧ Kd d x := hk
    have h7 : ks.length ≤ 7 := h7
    obtain ⟨A, x, B, lo', hi', e, f⟩ := h.foc (ub_le ks k)
    subst e
    obtain ⟨hA, hB⟩ := f.key k rfl h0 h1
    have hx := hk x (by simp)
    have ih := put_ok (v := v) f.one hx.2.2 hx.2.1 hA hB
    have hat := f.at_
    have hget : (A ++ x :: B)[ub ks k]? = some x := by rw [List.getElem?_append_right (by omega), hat]; simp
    have hset : ∀ y, (A ++ x :: B).set (ub ks k) y = A ++ y :: B := fun y => by rw [List.set_append, if_neg (by omega), hat]; simp
    have sA : ∀ p ∈ A.flatMap (flat d), p.1 < k := fun p hp => by
      have := flat_side (k := lo') (fun a ha => let ⟨l1, l2, _, q, r⟩ := f.left a ha; ⟨l1, l2, q, r⟩) hp
      omega
    have sB : ∀ p ∈ B.flatMap (flat d), k < p.1 := fun p hp => by
      have := flat_side' (k := hi') (fun a ha => let ⟨l1, l2, q, _, r⟩ := f.right a ha; ⟨l1, l2, q, r⟩) hp
      omega
    have hins : insP (flat (d + 1) (.node ks (A ++ x :: B))) k v = A.flatMap (flat d) ++ insP (flat d x) k v ++ B.flatMap (flat d) := by
      show insP ((A ++ x :: B).flatMap (flat d)) k v = _
      rw [← insP_mid sA sB]
      simp
    rw [putT_s]
    simp only [hget, hset]
    rw [hins]
    generalize putT d x k v = r at ih
    obtain ⟨t', o⟩ := r
    cases o with
    | none =>
      obtain ⟨i1, i2, i3, i4, i5⟩ := ih
      simp only
      refine (cut_ok (d := d + 1) (t := .node ks (A ++ t' :: B)) (f.put1 t' i1) (fun y hy => ?_) (show ks.length ≤ 10 by omega)).le (Nat.le_refl _) ?_
      · rcases List.mem_append.1 hy with hy | hy
        · exact hk y (by simp [hy])
        · rcases List.mem_cons.1 hy with rfl | hy
          · exact ⟨by omega, i4, i2⟩
          · exact hk y (by simp [hy])
      · show (A ++ t' :: B).flatMap (flat d) = _
        rw [← i5]; simp
    | some q =>
      obtain ⟨b, m⟩ := q
      obtain ⟨i1, i2, i3, i4, i5, i6, i7⟩ := ih
      simp only
      have e1 : (A ++ t' :: B).take (ub ks k + 1) = A ++ [t'] := by
        rw [List.take_append, List.take_of_length_le (by omega), hat, show ub ks k + 1 - ub ks k = 1 by omega]; simp
      have e2 : (A ++ t' :: B).drop (ub ks k + 1) = B := by
        rw [List.drop_append, List.drop_of_length_le (by omega), hat, show ub ks k + 1 - ub ks k = 1 by omega]; simp
      rw [e1, e2, show A ++ [t'] ++ m :: B = A ++ t' :: m :: B by simp]
      refine (cut_ok (d := d + 1) (t := .node (ks.take (ub ks k) ++ b :: ks.drop (ub ks k)) (A ++ t' :: m :: B)) (f.put2 b t' m i1 i2 i3 i4) (fun y hy => ?_) ?_).le ?_ ?_
      · rcases List.mem_append.1 hy with hy | hy
        · exact hk y (by simp [hy])
        · rcases List.mem_cons.1 hy with rfl | hy
          · exact i5
          · rcases List.mem_cons.1 hy with rfl | hy
            · exact i6
            · exact hk y (by simp [hy])
      · show (ks.take (ub ks k) ++ b :: ks.drop (ub ks k)).length ≤ 10
        simp; omega
      · show ks.length ≤ (ks.take (ub ks k) ++ b :: ks.drop (ub ks k)).length
        simp; omega
      · show (A ++ t' :: m :: B).flatMap (flat d) = _
        rw [← i7]; simp

/-! ### Delete -/
def bothT : Tr → Int → Tr → Tr
  | .leaf a, _, .leaf b => .leaf (a ++ b)
  | .node k1 t1, s, .node k2 t2 => .node (k1 ++ s :: k2) (t1 ++ t2)
  | a, _, _ => a
def mendT (ks : List Int) (ts : List Tr) (i : Nat) : List Int × List Tr :=
  match ts[i]?, ts[i + 1]?, ks[i]? with
  | some a, some b, some s =>
    match cutT (bothT a s b) with
    | (c, none) => (ks.take i ++ ks.drop (i + 1), (ts.take (i + 1) ++ ts.drop (i + 2)).set i c)
    | (l, some (s', r)) => (ks.set i s', (ts.set i l).set (i + 1) r)
  | _, _, _ => (ks, ts)
def delT : Nat → Tr → Int → Tr
  | 0, .leaf l, k => if (keysP l)[lb (keysP l) k]? = some k then .leaf (l.take (lb (keysP l) k) ++ l.drop (lb (keysP l) k + 1)) else .leaf l
  | d + 1, .node ks ts, k =>
    match ts[ub ks k]? with
    | none => .node ks ts
    | some x => if nk (delT d x k) < 3 then .node (mendT ks (ts.set (ub ks k) (delT d x k)) (ub ks k - 1)).1 (mendT ks (ts.set (ub ks k) (delT d x k)) (ub ks k - 1)).2 else .node ks (ts.set (ub ks k) (delT d x k))
  | _, t, _ => t
theorem delT_0 (l : List Pr) (k : Int) : delT 0 (.leaf l) k = if (keysP l)[lb (keysP l) k]? = some k then .leaf (l.take (lb (keysP l) k) ++ l.drop (lb (keysP l) k + 1)) else .leaf l := rfl
theorem delT_s (d : Nat) (ks : List Int) (ts : List Tr) (k : Int) : delT (d + 1) (.node ks ts) k =
    match ts[ub ks k]? with
    | none => .node ks ts
    | some x => if nk (delT d x k) < 3 then .node (mendT ks (ts.set (ub ks k) (delT d x k)) (ub ks k - 1)).1 (mendT ks (ts.set (ub ks k) (delT d x k)) (ub ks k - 1)).2 else .node ks (ts.set (ub ks k) (delT d x k)) := rfl
theorem both_ok : ∀ {d : Nat} {a b : Tr} {lo s hi : Int}, In d lo s a → In d s hi b → lo < s → s < hi → In d lo hi (bothT a s b) ∧ flat d (bothT a s b) = flat d a ++ flat d b ∧ (Kd d a → Kd d b → Kd d (bothT a s b)) ∧
    nk a + nk b ≤ nk (bothT a s b) ∧ nk (bothT a s b) ≤ nk a + nk b + 1
  | 0, .leaf a, .leaf b, lo, s, hi, h1, h2, h3, h4 => by
    refine ⟨?_, rfl, fun _ _ => trivial, ?_, ?_⟩
    · show Up lo hi (keysP (a ++ b))
      unfold keysP
      rw [List.map_append]
      exact Up.app h1 h2 (by omega) (by omega)
    all_goals simp [nk, keysT, keysP, bothT]
  | d + 1, .node k1 t1, .node k2 t2, lo, s, hi, h1, h2, h3, h4 => by
    refine ⟨Ch.app h1 h2 h3 h4, List.flatMap_append, fun ka kb x hx => ?_, ?_, ?_⟩
    · rcases List.mem_append.1 hx with hx | hx
      · exact ka x hx
      · exact kb x hx
    all_goals (simp [nk, keysT, bothT]; try omega)
/-- What mending makes of two kids, of which one has lost a key. -/
theorem mend_ok {d : Nat} {ks : List Int} {ts : List Tr} {lo hi : Int} {i : Nat} (h : Ch (In d) lo hi ks ts) (hi' : i < ks.length) (hk : ∀ x ∈ ts, 2 ≤ nk x ∧ nk x ≤ 7 ∧ Kd d x)
    (hrest : ∀ j x, ts[j]? = some x → j ≠ i → j ≠ i + 1 → 3 ≤ nk x) (hone : ∀ a b, ts[i]? = some a → ts[i + 1]? = some b → nk a + nk b ≤ 9 ∧ (3 ≤ nk a ∨ 3 ≤ nk b)) :
    Ch (In d) lo hi (mendT ks ts i).1 (mendT ks ts i).2 ∧ (∀ x ∈ (mendT ks ts i).2, Full d x) ∧ ks.length ≤ (mendT ks ts i).1.length + 1 ∧ (mendT ks ts i).1.length ≤ ks.length ∧
    (mendT ks ts i).2.flatMap (flat d) = ts.flatMap (flat d) := by
  obtain ⟨A, a, b, B, lo', s, hi', e, f⟩ := h.foc2 hi'
  subst e
  have hat := f.at_
  have g0 : (A ++ a :: b :: B)[i]? = some a := by rw [List.getElem?_append_right (by omega), hat]; simp
  have g1 : (A ++ a :: b :: B)[i + 1]? = some b := by rw [List.getElem?_append_right (by omega), hat, show i + 1 - i = 1 by omega]; simp
  have ka := hk a (by simp)
  have kb := hk b (by simp)
  have hab := hone a b g0 g1
  obtain ⟨b1, b2, b3, b4, b5⟩ := both_ok f.ra f.rb f.m1 f.m2
  have hA : ∀ x ∈ A, Full d x := fun x hx => by
    obtain ⟨j, hj, rfl⟩ := List.getElem_of_mem hx
    have := hrest j A[j] (by rw [List.getElem?_append_left hj]; simp) (by omega) (by omega)
    have k := hk A[j] (by simp)
    exact ⟨this, k.2⟩
  have hB : ∀ x ∈ B, Full d x := fun x hx => by
    obtain ⟨j, hj, rfl⟩ := List.getElem_of_mem hx
    have := hrest (i + 2 + j) B[j] (by rw [List.getElem?_append_right (by omega), hat, show i + 2 + j - i = j + 2 by omega]; simp [hj]) (by omega) (by omega)
    have k := hk B[j] (by simp)
    exact ⟨this, k.2⟩
  have hc := cut_ok b1 (b3 ka.2.2 kb.2.2) (by omega)
  unfold mendT
  simp only [g0, g1, f.sep]
  have e1 : (A ++ a :: b :: B).take (i + 1) = A ++ [a] := by
    rw [List.take_append, List.take_of_length_le (by omega), hat, show i + 1 - i = 1 by omega]; simp
  have e2 : (A ++ a :: b :: B).drop (i + 2) = B := by
    rw [List.drop_append, List.drop_of_length_le (by omega), hat, show i + 2 - i = 2 by omega]; simp
  have e3 : ∀ c, (A ++ [a] ++ B).set i c = A ++ c :: B := fun c => by
    rw [show A ++ [a] ++ B = A ++ a :: B by simp, List.set_append, if_neg (by omega), hat]; simp
  have e4 : ∀ l r, ((A ++ a :: b :: B).set i l).set (i + 1) r = A ++ l :: r :: B := fun l r => by
    rw [List.set_append, if_neg (by omega), hat, List.set_append, if_neg (by omega), hat, show i + 1 - i = 1 by omega]; simp
  rw [e1, e2]
  generalize hq : cutT (bothT a s b) = q at hc
  obtain ⟨c, o⟩ := q
  cases o with
  | none =>
    obtain ⟨c1, c2, c3, c4, c5⟩ := hc
    simp only [e3]
    refine ⟨f.put1 c c1, fun x hx => ?_, ?_, ?_, ?_⟩
    · rcases List.mem_append.1 hx with hx | hx
      · exact hA x hx
      · rcases List.mem_cons.1 hx with rfl | hx
        · exact ⟨by omega, c4, c2⟩
        · exact hB x hx
    · simp; omega
    · simp; omega
    · rw [List.flatMap_append, List.flatMap_cons, c5, b2]; simp
  | some p =>
    obtain ⟨s', r⟩ := p
    obtain ⟨c1, c2, c3, c4, c5, c6, c7⟩ := hc
    simp only [e4]
    refine ⟨f.put2 s' c r c1 c2 c3 c4, fun x hx => ?_, ?_, ?_, ?_⟩
    · rcases List.mem_append.1 hx with hx | hx
      · exact hA x hx
      · rcases List.mem_cons.1 hx with rfl | hx
        · exact c5
        · rcases List.mem_cons.1 hx with rfl | hx
          · exact c6
          · exact hB x hx
    · simp
    · simp
    · rw [List.flatMap_append, List.flatMap_cons, List.flatMap_cons, ← List.append_assoc (flat d c), c7, b2]; simp
theorem del_ok : ∀ {d : Nat} {t : Tr} {lo hi k : Int}, In d lo hi t → Kd d t → nk t ≤ 7 → (d ≠ 0 → 1 ≤ nk t) → lo ≤ k → k < hi →
    In d lo hi (delT d t k) ∧ Kd d (delT d t k) ∧ nk (delT d t k) ≤ 7 ∧ nk t ≤ nk (delT d t k) + 1 ∧ flat d (delT d t k) = delP (flat d t) k
  | 0, .leaf l, lo, hi, k, h, _, h7, _, h0, h1 => by
    have h : Up lo hi (keysP l) := h
    obtain ⟨c1, c2, c3⟩ := leaf_cut (k := k) h
    have hn : ∀ l : List Pr, nk (.leaf l) = l.length := fun l => by simp [nk, keysT, keysP]
    have h7 : l.length ≤ 7 := by rw [← hn]; exact h7
    rw [delT_0]
    by_cases hf : (keysP l)[lb (keysP l) k]? = some k
    · rw [if_pos hf]
      obtain ⟨u, e1, e2⟩ := c2 hf
      have hlt : lb (keysP l) k < l.length := by
        have := (List.getElem?_eq_some_iff.1 hf).1
        simpa [keysP] using this
      have e : l.take (lb (keysP l) k) ++ l.drop (lb (keysP l) k + 1) = delP l k := by
        conv => rhs; rw [← List.take_append_drop (lb (keysP l) k) l, e1]
        rw [show l.take (lb (keysP l) k) ++ (k, u) :: l.drop (lb (keysP l) k + 1) = l.take (lb (keysP l) k) ++ [(k, u)] ++ l.drop (lb (keysP l) k + 1) by simp,
          delP_mid (fun p hp => by have := c1 p hp; omega) (fun p hp => by have := e2 p hp; omega)]
        simp [delP]
      show Up lo hi (keysP (l.take (lb (keysP l) k) ++ l.drop (lb (keysP l) k + 1))) ∧ _ ∧ nk (.leaf (l.take (lb (keysP l) k) ++ l.drop (lb (keysP l) k + 1))) ≤ 7 ∧ _ ≤ nk (.leaf (l.take (lb (keysP l) k) ++ l.drop (lb (keysP l) k + 1))) + 1 ∧ l.take (lb (keysP l) k) ++ l.drop (lb (keysP l) k + 1) = delP l k
      rw [hn, hn]
      refine ⟨by rw [e]; exact h.filter, trivial, ?_, ?_, e⟩
      · simp; omega
      · simp; omega
    · rw [if_neg hf]
      have e2 := c3 hf
      refine ⟨h, trivial, by rw [hn]; exact h7, by omega, ?_⟩
      show l = delP l k
      unfold delP
      symm
      refine filter_all fun p hp => ?_
      have hp' : p ∈ l.take (lb (keysP l) k) ++ l.drop (lb (keysP l) k) := by rw [List.take_append_drop]; exact hp
      rcases List.mem_append.1 hp' with hp | hp
      · have := c1 p hp; simp; omega
      · have := e2 p hp; simp; omega
  | d + 1, t, lo, hi, k, h, hk, h7, hpos, h0, h1 => by
    cases t with
    | leaf l => exact absurd h (by simp [In])
    | node ks ts =>
    have h : Ch (In d) lo hi ks ts := h
    have hk : ∀ x ∈ ts, 3 ≤ nk x ∧ nk x ≤ 7 ∧ Kd d x := hk
    have h7 : ks.length ≤ 7 := h7
    have hpos : 1 ≤ ks.length := hpos (by omega)
    obtain ⟨A, x, B, lo', hi', e, f⟩ := h.foc (ub_le ks k)
    subst e
    obtain ⟨hA, hB⟩ := f.key k rfl h0 h1
    have hx := hk x (by simp)
    obtain ⟨i1, i2, i3, i4, i5⟩ := del_ok f.one hx.2.2 hx.2.1 (fun _ => by omega) hA hB
    have hat := f.at_
    have hget : (A ++ x :: B)[ub ks k]? = some x := by rw [List.getElem?_append_right (by omega), hat]; simp
    have hset : ∀ y, (A ++ x :: B).set (ub ks k) y = A ++ y :: B := fun y => by rw [List.set_append, if_neg (by omega), hat]; simp
    have sA : ∀ p ∈ A.flatMap (flat d), p.1 ≠ k := fun p hp => by
      have := flat_side (k := lo') (fun a ha => let ⟨l1, l2, _, q, r⟩ := f.left a ha; ⟨l1, l2, q, r⟩) hp
      omega
    have sB : ∀ p ∈ B.flatMap (flat d), p.1 ≠ k := fun p hp => by
      have := flat_side' (k := hi') (fun a ha => let ⟨l1, l2, q, _, r⟩ := f.right a ha; ⟨l1, l2, q, r⟩) hp
      omega
    have hdel : delP (flat (d + 1) (.node ks (A ++ x :: B))) k = A.flatMap (flat d) ++ delP (flat d x) k ++ B.flatMap (flat d) := by
      show delP ((A ++ x :: B).flatMap (flat d)) k = _
      rw [← delP_mid sA sB]
      simp
    have hfl : (A ++ delT d x k :: B).flatMap (flat d) = delP (flat (d + 1) (.node ks (A ++ x :: B))) k := by
      rw [hdel, ← i5]; simp
    rw [delT_s]
    simp only [hget, hset]
    by_cases hlt : nk (delT d x k) < 3
    · rw [if_pos hlt]
      have hlen := (f.put1 _ i1).len
      have m := mend_ok (i := ub ks k - 1) (f.put1 _ i1) (by have := ub_le ks k; omega) (fun y hy => by
        rcases List.mem_append.1 hy with hy | hy
        · have := hk y (by simp [hy]); exact ⟨by omega, this.2⟩
        · rcases List.mem_cons.1 hy with rfl | hy
          · exact ⟨by omega, i3, i2⟩
          · have := hk y (by simp [hy]); exact ⟨by omega, this.2⟩)
        (fun j y hj h1 h2 => by
          by_cases hja : j < A.length
          · rw [List.getElem?_append_left hja] at hj
            exact (hk y (by simp [List.mem_of_getElem? hj])).1
          · rw [List.getElem?_append_right (by omega)] at hj
            cases hjj : j - A.length with
            | zero => omega
            | succ n =>
              rw [hjj, List.getElem?_cons_succ] at hj
              exact (hk y (by simp [List.mem_of_getElem? hj])).1)
        (fun a b ha hb => by
          by_cases hu : ub ks k = 0
          · have hA0 : A = [] := List.eq_nil_of_length_eq_zero (by omega)
            subst hA0
            rw [hu] at ha hb
            simp only [List.nil_append, Nat.zero_sub, Nat.zero_add, List.getElem?_cons_succ, List.getElem?_cons_zero, Option.some.injEq] at ha hb
            subst ha
            have := hk b (by simp [List.mem_of_getElem? hb])
            exact ⟨by omega, .inr this.1⟩
          · rw [List.getElem?_append_left (by omega)] at ha
            rw [show ub ks k - 1 + 1 = A.length by omega, List.getElem?_append_right (Nat.le_refl _)] at hb
            simp only [Nat.sub_self, List.getElem?_cons_zero, Option.some.injEq] at hb
            subst hb
            have := hk a (by simp [List.mem_of_getElem? ha])
            exact ⟨by omega, .inl this.1⟩)
      obtain ⟨m1, m2, m3, m4, m5⟩ := m
      exact ⟨m1, m2, show (mendT ks _ _).1.length ≤ 7 by omega, m3, by rw [← hfl, ← m5]; rfl⟩
    · rw [if_neg hlt]
      refine ⟨f.put1 _ i1, fun y hy => ?_, h7, Nat.le_succ _, hfl⟩
      rcases List.mem_append.1 hy with hy | hy
      · exact hk y (by simp [hy])
      · rcases List.mem_cons.1 hy with rfl | hy
        · exact ⟨by omega, i3, i2⟩
        · exact hk y (by simp [hy])
end Go.Proofs.Ytdglignjoojimaa
