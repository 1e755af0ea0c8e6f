/- A region that draws its order and stores behind all else: what its loads read need be known only up to its first store. No conditions. -/
import Derived.Test.YtdglignjoojimaaSx15
import Derived.Orders
set_option linter.unusedVariables false
set_option linter.unusedSimpArgs false
namespace Go.Proofs.Ytdglignjoojimaa

section
variable {P : Program} {ops : Array Oper} {S : World → Prop} {E M k : Nat} {F : Act → World → Prop}

/-- What the operation i must know to yield. -/
def Dk (S : World → Prop) (M i : Nat) (w : World) : Prop := M.testBit i = true → S w
/-- What must hold where the operation i acts. -/
def Ck (S : World → Prop) (E k i : Nat) (w : World) : Prop := E.testBit i = true → i ≤ k → S w
def GKs (P : Program) (ops : Array Oper) (S : World → Prop) (E M k : Nat) (i : Nat) (K : Act → World → Prop) (a : Act) (w : World) : Prop :=
  Ck S E k i w ∧ Dk S M i w ∧ ∃ o, ops[i]? = some o ∧
    if Region.wanted o (yielded ops a.tmps) then
      if E.testBit i then o.wp P a w K Bot
      else ∃ v, (∀ w', Dk S M i w' → (execOp a.eval o).run P w' = .ok (.value v) w') ∧ K (a.put o.dst v) w
    else K (a.put o.dst undef) w
def GK (P : Program) (ops : Array Oper) (S : World → Prop) (E M k : Nat) (F : Act → World → Prop) : List Nat → Act → World → Prop
  | [], a, w => F a w
  | i :: rest, a, w => GKs P ops S E M k i (GK P ops S E M k F rest) a w

theorem GKs.mono {i : Nat} {K K' : Act → World → Prop} {a : Act} {w : World} (h : GKs P ops S E M k i K a w) (hk : ∀ a w, K a w → K' a w) : GKs P ops S E M k i K' a w := by
  obtain ⟨hc, hd, o, ho, h⟩ := h
  refine ⟨hc, hd, o, ho, ?_⟩
  split
  · rename_i hw
    rw [if_pos hw] at h
    split
    · rename_i he; rw [if_pos he] at h; exact Oper.wp_mono hk h
    · rename_i he
      rw [if_neg he] at h
      obtain ⟨v, h1, h2⟩ := h
      exact ⟨v, h1, hk _ _ h2⟩
  · rename_i hw; rw [if_neg hw] at h; exact hk _ _ h

theorem GKs.cases {i : Nat} {K : Act → World → Prop} {a : Act} {w : World} {o : Oper} (ho : ops[i]? = some o) (h : GKs P ops S E M k i K a w) :
    (∃ v, SY P ops (Dk S M i) o v a ∧ (E.testBit i = false ∨ Region.wanted o (yielded ops a.tmps) = false) ∧ K (a.put o.dst v) w) ∨ (Region.wanted o (yielded ops a.tmps) = true ∧ E.testBit i = true ∧ o.wp P a w K Bot) := by
  obtain ⟨_, _, o', ho', h⟩ := h
  rw [ho] at ho'; cases ho'
  by_cases hw : Region.wanted o (yielded ops a.tmps) = true
  · rw [if_pos hw] at h
    by_cases he : E.testBit i = true
    · rw [if_pos he] at h; exact .inr ⟨hw, he, h⟩
    · rw [if_neg he] at h
      obtain ⟨v, h1, h2⟩ := h
      exact .inl ⟨v, .inl ⟨hw, h1⟩, .inl (by simpa using he), h2⟩
  · rw [if_neg hw] at h
    exact .inl ⟨undef, .inr ⟨by simpa using hw, rfl⟩, .inr (by simpa using hw), h⟩
theorem GKs.yield {i : Nat} {K : Act → World → Prop} {a : Act} {w : World} {o : Oper} {v : Value} (ho : ops[i]? = some o) (hc : Ck S E k i w) (hd : Dk S M i w) (hy : SY P ops (Dk S M i) o v a)
    (he : E.testBit i = false ∨ Region.wanted o (yielded ops a.tmps) = false) (kk : K (a.put o.dst v) w) : GKs P ops S E M k i K a w := by
  refine ⟨hc, hd, o, ho, ?_⟩
  rcases hy with ⟨hw, hv⟩ | ⟨hw, rfl⟩
  · rw [if_pos hw]
    rcases he with he | he
    · rw [if_neg (by rw [he]; simp)]; exact ⟨v, hv, kk⟩
    · rw [he] at hw; cases hw
  · rw [if_neg (by rw [hw]; simp)]; exact kk
theorem GKs.act {i : Nat} {K : Act → World → Prop} {a : Act} {w : World} {o : Oper} (ho : ops[i]? = some o) (hc : Ck S E k i w) (hd : Dk S M i w) (hw : Region.wanted o (yielded ops a.tmps) = true) (he : E.testBit i = true)
    (kk : o.wp P a w K Bot) : GKs P ops S E M k i K a w := by
  refine ⟨hc, hd, o, ho, ?_⟩
  rw [if_pos hw, if_pos he]; exact kk

/-- As long as k is there, S holds. -/
theorem GK.S_ (hk : E.testBit k = true) : ∀ {l : List Nat} {a : Act} {w : World}, l.Pairwise (· < ·) → k ∈ l → GK P ops S E M k F l a w → S w
  | i :: l, a, w, hl, hm, h => by
    have hle : i ≤ k := by
      rcases List.mem_cons.1 hm with rfl | hm
      · exact Nat.le_refl _
      · exact Nat.le_of_lt (List.rel_of_pairwise_cons hl hm)
    by_cases hi : E.testBit i = true
    · exact h.1 hi hle
    · have hm' : k ∈ l := by
        rcases List.mem_cons.1 hm with rfl | hm
        · exact absurd hk hi
        · exact hm
      obtain ⟨_, _, o, ho, h⟩ := h
      have hl' := (List.pairwise_cons.1 hl).2
      rw [if_neg hi] at h
      split at h
      · obtain ⟨v, _, h⟩ := h
        exact GK.S_ hk hl' hm' h
      · exact GK.S_ hk hl' hm' h

theorem GKs.swap {i j : Nat} {oi oj : Oper} {K : Act → World → Prop} {a : Act} {w : World} (hsel : Region.noSelect ops = true) (hi : ops[i]? = some oi) (hj : ops[j]? = some oj) (hap : oi.apart ops oj = true)
    (hE : E.testBit i = false ∨ E.testBit j = false) (hij : E.testBit j = true → M.testBit i = true → ∀ a w, K a w → S w) (hji : E.testBit i = true → M.testBit j = true → i ≤ k)
    (h : GKs P ops S E M k i (GKs P ops S E M k j K) a w) : GKs P ops S E M k j (GKs P ops S E M k i K) a w := by
  obtain ⟨h1, h2, h3⟩ := Oper.apart_spec hap
  have hsi : ∀ cs b, oi.op ≠ .select cs b := fun cs b => Region.noSelect_spec hsel i oi cs b hi
  have hsj : ∀ cs b, oj.op ≠ .select cs b := fun cs b => Region.noSelect_spec hsel j oj cs b hj
  have h2' : ∀ d, oj.dst = some d → oi.dst ≠ some d := fun d hd hd' => h2 d hd' hd
  have toI : ∀ (D : World → Prop) (a : Act) (u v : Value), SY P ops D oi v (a.put oj.dst u) ↔ SY P ops D oi v a := fun D a u v =>
    ⟨fun k => k.same (execOp_put oi hsi a oj.dst u h3).symm (wanted_put oi a oj.dst u h3).symm, fun k => k.same (execOp_put oi hsi a oj.dst u h3) (wanted_put oi a oj.dst u h3)⟩
  have toJ : ∀ (D : World → Prop) (a : Act) (u v : Value), SY P ops D oj v (a.put oi.dst u) ↔ SY P ops D oj v a := fun D a u v =>
    ⟨fun k => k.same (execOp_put oj hsj a oi.dst u h1).symm (wanted_put oj a oi.dst u h1).symm, fun k => k.same (execOp_put oj hsj a oi.dst u h1) (wanted_put oj a oi.dst u h1)⟩
  have toD : ∀ (D : World → Prop) (o : Oper) (a : Act) (ds : List Deferred) (v : Value), SY P ops D o v { a with defers := ds } ↔ SY P ops D o v a := fun D o a ds v => ⟨fun k => k.same rfl rfl, fun k => k.same rfl rfl⟩
  have wI : ∀ (a : Act) (u : Value), Region.wanted oi (yielded ops (a.put oj.dst u).tmps) = Region.wanted oi (yielded ops a.tmps) := fun a u => wanted_put oi a oj.dst u h3
  have wJ : ∀ (a : Act) (u : Value), Region.wanted oj (yielded ops (a.put oi.dst u).tmps) = Region.wanted oj (yielded ops a.tmps) := fun a u => wanted_put oj a oi.dst u h1
  have hci := h.1
  have hdi := h.2.1
  rcases h.cases hi with ⟨v, hy, hei, h⟩ | ⟨hw, he, h⟩
  · have hcj := h.1
    have hdj := h.2.1
    rcases h.cases hj with ⟨u, hy', hej, h'⟩ | ⟨hw', he', h'⟩
    · -- both yield
      refine GKs.yield hj hcj hdj ((toJ _ a v u).1 hy') (by rw [wJ] at hej; exact hej) ?_
      refine GKs.yield hi hci hdi ((toI _ a u v).2 hy) (by rw [wI]; exact hei) ?_
      rw [← Act.put_comm a v u h2]; exact h'
    · -- the second acts
      have hEi : E.testBit i = false := hE.resolve_right (by rw [he']; simp)
      refine GKs.act hj hcj hdj (by rw [wJ] at hw'; exact hw') he' ?_
      refine wp_unput hsj h1 h' fun u ds w' hk => ?_
      refine GKs.yield hi (fun e _ => by rw [hEi] at e; cases e) (fun m => hij he' m _ _ hk) ((toI _ _ u v).2 ((toD _ oi a ds v).2 hy)) (by rw [wI]; exact hei) ?_
      rw [← Act.put_comm _ v u h2]; exact hk
  · -- the first acts: the second yields
    have hEj : E.testBit j = false := hE.resolve_left (by rw [he]; simp)
    obtain ⟨u0, w0, ds0, h0⟩ := wp_some h
    have key : ∀ u ds w', GKs P ops S E M k j K ({ a with defers := ds }.put oi.dst u) w' → ∃ v, SY P ops (Dk S M j) oj v a ∧ K (({ a with defers := ds }.put oi.dst u).put oj.dst v) w' := by
      intro u ds w' hk
      rcases hk.cases hj with ⟨v, hy, _, hk'⟩ | ⟨_, he', _⟩
      · exact ⟨v, (toD _ oj a ds v).1 ((toJ _ _ u v).1 hy), hk'⟩
      · rw [hEj] at he'; cases he'
    obtain ⟨v, hv, _⟩ := key u0 ds0 w0 h0
    have hdj : Dk S M j w := fun m => hci he (hji he m)
    refine GKs.yield hj (fun e _ => by rw [hEj] at e; cases e) hdj hv (.inl hEj) ?_
    refine GKs.act hi hci hdi (by rw [wI]; exact hw) he ?_
    refine wp_put hsi h3 h fun u ds w' hk => ?_
    obtain ⟨v', hv', hk'⟩ := key u ds w' hk
    have := SY.inj hdj hv hv'
    subst this
    rw [Act.put_comm _ v u h2']; exact hk'

theorem GK.front {j : Nat} {oj : Oper} (hsel : Region.noSelect ops = true) (hk : E.testBit k = true) (hj : ops[j]? = some oj) : ∀ (p q : List Nat) (a : Act) (w : World),
    (∀ i ∈ p, ∃ oi, ops[i]? = some oi ∧ oi.apart ops oj = true ∧ (E.testBit i = false ∨ E.testBit j = false) ∧ (E.testBit j = true → M.testBit i = true → j < k) ∧ (E.testBit i = true → M.testBit j = true → i ≤ k)) →
    (p ++ q).Pairwise (· < ·) → (E.testBit j = true → j < k → k ∈ q) → GK P ops S E M k F (p ++ j :: q) a w → GK P ops S E M k F (j :: (p ++ q)) a w
  | [], q, a, w, _, _, _, h => h
  | i :: p, q, a, w, hp, hs, hq, h => by
    obtain ⟨oi, hi, hap, hE, e1, e2⟩ := hp i (by simp)
    have hs' : (p ++ q).Pairwise (· < ·) := (List.pairwise_cons.1 hs).2
    have h' : GKs P ops S E M k i (GK P ops S E M k F (j :: (p ++ q))) a w := GKs.mono h fun a w kk => GK.front hsel hk hj p q a w (fun i hi => hp i (by simp [hi])) hs' hq kk
    exact GKs.swap hsel hi hj hap hE (fun he hm a w kk => GK.S_ hk hs' (List.mem_append.2 (.inr (hq he (e1 he hm)))) kk) e2 h'

def chkOneK (ops : Array Oper) (B : List Nat) (E M k : Nat) (j : Nat) (oj : Oper) : Bool :=
  oj.after.toList.all (fun e => !(Region.binds .any e) || Nat.blt e.on j) && Nat.beq (B.getD j 0 ||| ahead B oj.after.toList) (ahead B oj.after.toList) &&
  (List.range j).all fun i => (B.getD j 0).testBit i || (match ops[i]? with
    | some oi => !(E.testBit i && E.testBit j) && oi.apart ops oj && (!(E.testBit j && M.testBit i) || Nat.blt j k) && (!(E.testBit i && M.testBit j) || Nat.ble i k)
    | none => false)
def chkFromK (ops : Array Oper) (B : List Nat) (E M k : Nat) : Nat → List Oper → Bool
  | _, [] => true
  | j, o :: r => chkOneK ops B E M k j o && chkFromK ops B E M k (j + 1) r
def chkK (ops : Array Oper) (B : List Nat) (E M k : Nat) : Bool := Region.noSelect ops && Nat.blt k ops.size && E.testBit k && chkFromK ops B E M k 0 ops.toList

theorem chkFromK_at {ops : Array Oper} {B : List Nat} {E M q : Nat} (l : List Oper) : ∀ (k : Nat), chkFromK ops B E M q k l = true → ∀ (i : Nat) (o : Oper), l[i]? = some o → chkOneK ops B E M q (k + i) o = true := by
  induction l with
  | nil => intro k _ i o ho; simp at ho
  | cons x r ih =>
    intro k h i o ho
    rw [chkFromK, Bool.and_eq_true] at h
    cases i with
    | zero =>
      have : x = o := by simpa using ho
      subst this
      exact h.1
    | succ i =>
      have := ih (k + 1) h.2 i o (by simpa using ho)
      rw [show k + (i + 1) = k + 1 + i by omega]; exact this

theorem chkK_spec {ops : Array Oper} {B : List Nat} {E M k : Nat} (h : chkK ops B E M k = true) : Region.noSelect ops = true ∧ k < ops.size ∧ E.testBit k = true ∧ ∀ j oj, ops[j]? = some oj →
    (∀ e ∈ oj.after, Region.binds .any e = true → e.on < j) ∧ (∀ i, (B.getD j 0).testBit i = true → ∃ e ∈ oj.after, Region.binds .any e = true ∧ (e.on = i ∨ (B.getD e.on 0).testBit i = true)) ∧
    (∀ i, i < j → (B.getD j 0).testBit i = true ∨ ∃ oi, ops[i]? = some oi ∧ oi.apart ops oj = true ∧ (E.testBit i = false ∨ E.testBit j = false) ∧ (E.testBit j = true → M.testBit i = true → j < k) ∧ (E.testBit i = true → M.testBit j = true → i ≤ k)) := by
  simp only [chkK, Bool.and_eq_true] at h
  obtain ⟨⟨⟨g1, g2⟩, g3⟩, g4⟩ := h
  refine ⟨g1, by have := Nat.le_of_ble_eq_true g2; omega, g3, fun j oj hj => ?_⟩
  have := chkFromK_at ops.toList 0 g4 j oj (by simpa using hj)
  simp only [chkOneK, Nat.zero_add, Bool.and_eq_true, List.all_eq_true] at this
  obtain ⟨⟨h1, h2⟩, h3⟩ := this
  refine ⟨fun e he hb => ?_, fun i hi => ?_, fun i hi => ?_⟩
  · have := h1 e (by simpa using he)
    simp [Nat.blt, hb] at this
    omega
  · have e2 := Nat.eq_of_beq_eq_true h2
    have : (ahead B oj.after.toList).testBit i = true := by
      rw [← e2, Nat.testBit_or, hi]; rfl
    rcases ahead_bit this with h | ⟨e, he, hb, h⟩
    · simp at h
    · exact ⟨e, by simpa using he, hb, h⟩
  · have := h3 i (List.mem_range.2 hi)
    rcases Bool.or_eq_true _ _ ▸ this with h | h
    · exact .inl h
    · right
      split at h
      · rename_i oi hoi
        simp only [Bool.and_eq_true] at h
        obtain ⟨⟨⟨k1, k2⟩, k3⟩, k4⟩ := h
        refine ⟨oi, hoi, k2, ?_, fun a b => ?_, fun a b => ?_⟩
        · cases ha : E.testBit i <;> cases hb : E.testBit j <;> simp_all
        · rw [a, b] at k3
          have := Nat.le_of_ble_eq_true (by simpa [Nat.blt] using k3); omega
        · rw [a, b] at k4
          exact Nat.le_of_ble_eq_true (by simpa using k4)
      · cases h

theorem wpAny_of_GK {Q : Exit → Act → World → Prop} {B : List Nat} (hchk : chkK ops B E M k = true) : ∀ (n : Nat) (L : List Nat) (listed : Array Bool) (a : Act) (w : World), L.length = n →
    (∀ i, i ∈ L ↔ i < ops.size ∧ listed.getD i true = false) → L.Pairwise (· < ·) → listed.size = ops.size →
    (∀ x y, x < ops.size → listed.getD x true = true → (B.getD x 0).testBit y = true → listed.getD y true = true) → GK P ops S E M k (Q .normal) L a w → wpAny P .any ops Q n listed a w := by
  obtain ⟨hsel, hksz, hEk, hc⟩ := chkK_spec hchk
  intro n
  induction n with
  | zero =>
    intro L listed a w hn hL _ _ _ hG
    have : L = [] := List.eq_nil_of_length_eq_zero hn
    subst this
    refine ⟨List.eq_nil_iff_forall_not_mem.2 fun j hj => ?_, hG⟩
    obtain ⟨h0, o, ho, _⟩ := mem_ready.1 hj
    have := (hL j).2 ⟨(Array.getElem?_eq_some_iff.1 ho).1, h0⟩
    cases this
  | succ n ih =>
    intro L listed a w hn hL hP hsz hcl hG
    refine ⟨fun hr => ?_, fun j hj => ?_⟩
    · cases L with
      | nil => cases hn
      | cons i0 L =>
        obtain ⟨h1, h2⟩ := (hL i0).1 (by simp)
        obtain ⟨o, ho⟩ : ∃ o, ops[i0]? = some o := ⟨_, Array.getElem?_eq_getElem h1⟩
        have : i0 ∈ Region.ready .any ops listed := by
          refine mem_ready.2 ⟨h2, o, ho, fun e he hb0 => ?_⟩
          have hlt := (hc i0 o ho).1 e he hb0
          cases hb : listed.getD e.on true with
          | true =>
            have : e.on < listed.size := by omega
            simpa [this] using hb
          | false =>
            have hm := (hL e.on).2 ⟨by omega, hb⟩
            rcases List.mem_cons.1 hm with he' | hm
            · omega
            · have := List.rel_of_pairwise_cons hP hm
              omega
        rw [hr] at this; cases this
    · obtain ⟨h0, oj, hoj, hall⟩ := mem_ready.1 hj
      have hjlt : j < ops.size := (Array.getElem?_eq_some_iff.1 hoj).1
      have hjL : j ∈ L := (hL j).2 ⟨hjlt, h0⟩
      obtain ⟨p, q, rfl⟩ := List.append_of_mem hjL
      have hah : ∀ i, (B.getD j 0).testBit i = true → listed.getD i true = true := by
        intro i hi
        obtain ⟨e, he, hb, hi⟩ := (hc j oj hoj).2.1 i hi
        have hl := hall e he hb
        have hlt := (hc j oj hoj).1 e he hb
        have hl' : listed.getD e.on true = true := by
          have : e.on < listed.size := by omega
          simpa [this] using hl
        rcases hi with rfl | hi
        · exact hl'
        · exact hcl e.on i (by omega) hl' hi
      have hP' := List.pairwise_append.1 hP
      have hPpq : (p ++ q).Pairwise (· < ·) :=
        List.pairwise_append.2 ⟨hP'.1, (List.pairwise_cons.1 hP'.2.1).2, fun x hx y hy => hP'.2.2 x hx y (List.mem_cons_of_mem _ hy)⟩
      have hfront := GK.front (P := P) (S := S) (E := E) (M := M) (F := Q .normal) hsel hEk hoj p q a w (fun i hi => by
        have hij : i < j := hP'.2.2 i hi j (by simp)
        rcases (hc j oj hoj).2.2 i hij with hb | h
        · have h1 := hah i hb
          have h2 := ((hL i).1 (List.mem_append.2 (.inl hi))).2
          rw [h1] at h2; cases h2
        · exact h) hPpq (fun he hlt => by
          -- k is there still
          obtain ⟨ok, hok⟩ : ∃ o, ops[k]? = some o := ⟨_, Array.getElem?_eq_getElem hksz⟩
          have hkL : k ∈ p ++ j :: q := by
            refine (hL _).2 ⟨hksz, ?_⟩
            cases hb : listed.getD k true with
            | false => rfl
            | true =>
              rcases (hc k ok hok).2.2 j hlt with h | ⟨_, _, _, h, _⟩
              · have := hcl k j hksz hb h
                rw [this] at h0; cases h0
              · rw [he, hEk] at h; simp at h
          rcases List.mem_append.1 hkL with h | h
          · have := hP'.2.2 k h j (by simp); omega
          · rcases List.mem_cons.1 h with h | h
            · omega
            · exact h) hG
      have hjs : j < listed.size := by omega
      have ih' : ∀ a w, GK P ops S E M k (Q .normal) (p ++ q) a w → wpAny P .any ops Q n (listed.setIfInBounds j true) a w := by
        intro a w h
        have hnd : j ∉ p ++ q := by
          intro hm
          rcases List.mem_append.1 hm with hm | hm
          · have := hP'.2.2 j hm j (by simp); omega
          · have := List.rel_of_pairwise_cons hP'.2.1 hm; omega
        refine ih (p ++ q) (listed.setIfInBounds j true) a w (by simp at hn ⊢; omega) (fun i => ?_) hPpq (by simpa using hsz) (fun x y hx hlx hb => ?_) h
        · rw [getD_mark hjs]
          by_cases hij : j = i
          · subst hij
            simp only [if_true, Bool.true_eq_false, and_false, iff_false]
            exact hnd
          · rw [if_neg hij, ← hL i]
            simp only [List.mem_append, List.mem_cons]
            constructor
            · rintro (h | h)
              · exact .inl h
              · exact .inr (.inr h)
            · rintro (h | h | h)
              · exact .inl h
              · exact absurd h.symm hij
              · exact .inr h
        · rw [getD_mark hjs] at hlx ⊢
          split
          · rfl
          · rename_i hne
            split at hlx
            · rename_i hjx; subst hjx; exact hah y hb
            · exact hcl x y hx hlx hb
      have hst : GKs P ops S E M k j (wpAny P .any ops Q n (listed.setIfInBounds j true)) a w := GKs.mono hfront ih'
      unfold wpOp
      simp only [hoj]
      rcases hst.cases hoj with ⟨v, hy, _, hk⟩ | ⟨hw, _, hk⟩
      · rcases hy with ⟨hw, hv⟩ | ⟨hw, rfl⟩
        · rw [if_pos hw]
          left
          rw [Oper.wp, hv w hst.2.1, Oper.upon_value]; exact hk
        · rw [if_neg (by rw [hw]; simp)]; exact hk
      · rw [if_pos hw]
        left
        unfold Oper.wp at hk ⊢
        generalize (execOp a.eval oj).run P w = r at hk
        cases r with
        | ok nx w' =>
          cases nx <;> simp only [Oper.upon] at hk ⊢
          case value u => exact hk
          case skip => exact hk
          case defer d => exact hk
          case enter f args =>
            refine Calls.mono hk fun e w'' he => ?_
            cases e with
            | returned u => exact he
            | panicked c => exact he.elim
            | outgrown => exact absurd he not_letsOut
          case row row args => exact hk
        | halt x w' => cases x <;> simp only [Oper.upon] at hk ⊢; exact hk.elim

theorem wp_drawK {Q : Exit → Act → World → Prop} {B : List Nat} {id : Nat} {a : Act} {w : World} (hm : P.follows .mixedOrders = true) (hchk : chkK ops B E M k = true)
    (h : GK P ops S E M k (Q .normal) (List.range ops.size) a { w with drawn := w.drawn + 1 }) : (Code.region id ops true).wp P Q a w := by
  refine wp_region_any hm (wpAny_of_GK hchk ops.size (List.range ops.size) _ a _ (by simp) (fun i => ?_) ?_ (by simp) (fun x y hx hl _ => ?_) h)
  · simp only [List.mem_range]
    constructor
    · intro hi; exact ⟨hi, by simp [hi]⟩
    · exact fun h => h.1
  · exact List.pairwise_lt_range
  · simp [hx] at hl
end

/-- The judgement within such a region; k is its first store. -/
def VK (X : Cx) (P : Program) (N : Nat) (ops : Array Oper) (hS : Hp) (blS : Bl) (E M k : Nat) (F : Act → World → Prop) (i : Nat) (l : List Oper) (σ : List (Nat × Value)) (h : Hp) (bl : Bl) : Prop :=
  ∀ a w, Fr N σ a → Rel X h bl w → (i ≤ k → Knows hS blS w) → (∀ j, l[j]? = ops[i + j]?) → GK P ops (Knows hS blS) E M k F (List.range' i l.length) a w

section
variable {X : Cx} {P : Program} {N : Nat} {ops : Array Oper} {hS h : Hp} {blS bl : Bl} {E M k i : Nat} {F : Act → World → Prop} {Q : Exit → Act → World → Prop} {σ : List (Nat × Value)} {rest : List Oper}

theorem V_drawK {id : Nat} {l : List Oper} (hS : Hp) (blS : Bl) (E M k : Nat) (hm : P.follows .mixedOrders = true) (hc : chkK l.toArray (clos l) E M k = true) (h1 : Sub hS h) (h2 : SubB bl blS)
    (kk : VK X P N l.toArray hS blS E M k (Q .normal) 0 l σ h bl) : V X P N Q (.region id l.toArray true) σ h bl := by
  intro a w ha hr
  refine wp_drawK (S := Knows hS blS) hm hc ?_
  have hr' := hr.drew (w.drawn + 1)
  have := kk a _ ha hr' (fun _ => SubB.knows hr' h1 h2) (fun j => by simp)
  rw [List.range_eq_range']
  simpa using this

theorem VK_nil (q : VQ X N Q .normal σ h bl) : VK X P N ops hS blS E M k (Q .normal) i [] σ h bl := fun a w ha hr _ _ => q a w ha hr

/-- A load, ahead of the first store. -/
theorem VK_still {o : Oper} {d : Nat} {v : Value} (hw : wantd ops σ o = some true) (hE : Nat.testBit E i = false) (hik : Nat.ble i k = true) (hM : Nat.testBit M i = true) (hd : o.dst = some d) (hlt : Nat.blt d N = true) (hs : Still P N σ hS blS o v)
    (q : VK X P N ops hS blS E M k F (i + 1) rest ((d, v) :: σ) h bl) : VK X P N ops hS blS E M k F i (o :: rest) σ h bl := by
  intro a w ha hr hk ho
  have h0 : ops[i]? = some o := by simpa using (ho 0).symm
  have hkn := hk (Nat.le_of_ble_eq_true hik)
  show GKs _ _ _ _ _ _ _ (GK _ _ _ _ _ _ _ (List.range' (i + 1) rest.length)) _ _
  refine ⟨fun e _ => (by rw [hE] at e; cases e), fun _ => hkn, o, h0, ?_⟩
  rw [if_pos (wanted_of ha hw), if_neg (by rw [hE]; simp), hd]
  exact ⟨v, fun w' hw' => hs a w' ha (hw' hM), q _ _ (ha.put (Nat.le_of_ble_eq_true hlt) v) hr (fun hle => hkn) (tail_ops ho)⟩

/-- What knows nothing of memory. -/
theorem VK_pure {o : Oper} {d : Nat} {v : Value} (hw : wantd ops σ o = some true) (hE : Nat.testBit E i = false) (hM : Nat.testBit M i = false) (hd : o.dst = some d) (hlt : Nat.blt d N = true) (hs : Still P N σ (fun _ => none) [] o v)
    (q : VK X P N ops hS blS E M k F (i + 1) rest ((d, v) :: σ) h bl) : VK X P N ops hS blS E M k F i (o :: rest) σ h bl := by
  intro a w ha hr hk ho
  have h0 : ops[i]? = some o := by simpa using (ho 0).symm
  show GKs _ _ _ _ _ _ _ (GK _ _ _ _ _ _ _ (List.range' (i + 1) rest.length)) _ _
  refine ⟨fun e _ => (by rw [hE] at e; cases e), fun e => (by rw [hM] at e; cases e), o, h0, ?_⟩
  rw [if_pos (wanted_of ha hw), if_neg (by rw [hE]; simp), hd]
  exact ⟨v, fun w' _ => hs a w' ha ⟨fun b o h => (by cases h), fun p hp => (by simp at hp)⟩, q _ _ (ha.put (Nat.le_of_ble_eq_true hlt) v) hr (fun hle => hk (by omega)) (tail_ops ho)⟩

theorem VK_skip {o : Oper} {d : Nat} (hw : wantd ops σ o = some false) (hE : (Nat.ble i k || !(Nat.testBit E i || Nat.testBit M i)) = true) (hd : o.dst = some d) (hlt : Nat.blt d N = true)
    (q : VK X P N ops hS blS E M k F (i + 1) rest ((d, undef) :: σ) h bl) : VK X P N ops hS blS E M k F i (o :: rest) σ h bl := by
  intro a w ha hr hk ho
  have h0 : ops[i]? = some o := by simpa using (ho 0).symm
  show GKs _ _ _ _ _ _ _ (GK _ _ _ _ _ _ _ (List.range' (i + 1) rest.length)) _ _
  refine ⟨fun _ hle => hk hle, fun e => ?_, o, h0, ?_⟩
  · rw [e] at hE
    exact hk (Nat.le_of_ble_eq_true (by simpa using hE))
  · rw [if_neg (by rw [wanted_of ha hw]; simp), hd]
    exact q _ _ (ha.put (Nat.le_of_ble_eq_true hlt) _) hr (fun hle => hk (by omega)) (tail_ops ho)

/-- It acts, ahead of the first store. -/
theorem VK_eff {o : Oper} {Post : List (Nat × Value) → Hp → Bl → Prop} (hw : wantd ops σ o = some true) (hE : Nat.testBit E i = true) (hM : Nat.testBit M i = false) (he : Eff X P N o σ h bl Post)
    (q : ∀ σ' h' bl', Post σ' h' bl' → (Sub hS h' ∧ SubB bl' blS) ∧ VK X P N ops hS blS E M k F (i + 1) rest σ' h' bl') : VK X P N ops hS blS E M k F i (o :: rest) σ h bl := by
  intro a w ha hr hk ho
  have h0 : ops[i]? = some o := by simpa using (ho 0).symm
  show GKs _ _ _ _ _ _ _ (GK _ _ _ _ _ _ _ (List.range' (i + 1) rest.length)) _ _
  refine ⟨fun _ hle => hk hle, fun e => (by rw [hM] at e; cases e), o, h0, ?_⟩
  rw [if_pos (wanted_of ha hw), if_pos hE]
  exact wp_exits (fun a' w' ⟨σ', h', bl', hp, hf, hr'⟩ => (q σ' h' bl' hp).2 a' w' hf hr' (fun _ => SubB.knows hr' (q σ' h' bl' hp).1.1 (q σ' h' bl' hp).1.2) (tail_ops ho)) (he a w ha hr)
/-- The first store, or what acts behind it. -/
theorem VK_effT {o : Oper} {Post : List (Nat × Value) → Hp → Bl → Prop} (hw : wantd ops σ o = some true) (hE : Nat.testBit E i = true) (hM : Nat.testBit M i = false) (hik : Nat.ble k i = true) (he : Eff X P N o σ h bl Post)
    (q : ∀ σ' h' bl', Post σ' h' bl' → VK X P N ops hS blS E M k F (i + 1) rest σ' h' bl') : VK X P N ops hS blS E M k F i (o :: rest) σ h bl := by
  intro a w ha hr hk ho
  have h0 : ops[i]? = some o := by simpa using (ho 0).symm
  have hle := Nat.le_of_ble_eq_true hik
  show GKs _ _ _ _ _ _ _ (GK _ _ _ _ _ _ _ (List.range' (i + 1) rest.length)) _ _
  refine ⟨fun _ hle => hk hle, fun e => (by rw [hM] at e; cases e), o, h0, ?_⟩
  rw [if_pos (wanted_of ha hw), if_pos hE]
  exact wp_exits (fun a' w' ⟨σ', h', bl', hp, hf, hr'⟩ => q σ' h' bl' hp a' w' hf hr' (fun h => by omega) (tail_ops ho)) (he a w ha hr)

theorem VK_bool {l : List Oper} (t : Nat) {b : Bool} (ht : look σ t = some (.bool b)) (k1 : b = true → VK X P N ops hS blS E M k F i l ((t, .bool true) :: σ) h bl)
    (k2 : b = false → VK X P N ops hS blS E M k F i l ((t, .bool false) :: σ) h bl) : VK X P N ops hS blS E M k F i l σ h bl := by
  intro a w ha hr hk ho
  have key : ∀ c, b = c → Fr N ((t, .bool c) :: σ) a := by
    rintro c rfl
    refine ⟨ha.defers, ha.size, fun s u hs => ?_⟩
    rw [look_cons] at hs
    split at hs
    · rename_i e; subst e; cases hs; exact ha.at_ _ _ ht
    · exact ha.at_ _ _ hs
  cases hb : b with
  | true => exact k1 hb a w (key _ hb) hr hk ho
  | false => exact k2 hb a w (key _ hb) hr hk ho
end
end Go.Proofs.Ytdglignjoojimaa
