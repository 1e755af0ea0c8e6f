/- The plain law of trees, part 2: chains of kids between separators; put and delete. No program in sight. No conditions. -/
import Derived.Test.YtdglignjoojimaaT1
set_option linter.unusedVariables false
set_option linter.unusedSimpArgs false
namespace Go.Proofs.Ytdglignjoojimaa

section
variable {α : Type} {R : Int → Int → α → Prop}
/-- Kids between separators. -/
def Ch (R : Int → Int → α → Prop) : Int → Int → List Int → List α → Prop
  | lo, hi, [], ts => ∃ t, ts = [t] ∧ R lo hi t
  | lo, hi, k :: ks, ts => ∃ t ts', ts = t :: ts' ∧ lo < k ∧ k < hi ∧ R lo k t ∧ Ch R k hi ks ts'
theorem Ch.len : ∀ {ks : List Int} {ts : List α} {lo hi : Int}, Ch R lo hi ks ts → ts.length = ks.length + 1
  | [], ts, lo, hi, ⟨t, e, _⟩ => by subst e; rfl
  | k :: ks, ts, lo, hi, ⟨t, ts', e, _, _, _, h⟩ => by subst e; have := h.len; simp; omega
theorem Ch.seps : ∀ {ks : List Int} {ts : List α} {lo hi : Int}, Ch R lo hi ks ts → Up (lo + 1) hi ks
  | [], ts, lo, hi, _ => trivial
  | k :: ks, ts, lo, hi, ⟨t, ts', e, h1, h2, _, h⟩ => ⟨by omega, h2, h.seps⟩
theorem Ch.up {f : α → List Pr} (hR : ∀ lo hi t, R lo hi t → Up lo hi (keysP (f t))) : ∀ {ks : List Int} {ts : List α} {lo hi : Int}, Ch R lo hi ks ts → Up lo hi (keysP (ts.flatMap f))
  | [], ts, lo, hi, ⟨t, e, h⟩ => by subst e; simpa using hR _ _ _ h
  | k :: ks, ts, lo, hi, ⟨t, ts', e, h1, h2, h3, h⟩ => by
    subst e
    rw [List.flatMap_cons]
    unfold keysP
    rw [List.map_append]
    exact (hR _ _ _ h3).app (h.up hR) (by omega) (by omega)
theorem Ch.app : ∀ {k1 : List Int} {t1 : List α} {lo s hi : Int} {k2 : List Int} {t2 : List α}, Ch R lo s k1 t1 → Ch R s hi k2 t2 → lo < s → s < hi → Ch R lo hi (k1 ++ s :: k2) (t1 ++ t2)
  | [], t1, lo, s, hi, k2, t2, ⟨t, e, h⟩, h2, a, b => by subst e; exact ⟨t, t2, rfl, a, b, h, h2⟩
  | k :: k1, t1, lo, s, hi, k2, t2, ⟨t, ts', e, h1, h3, h4, h⟩, h2, a, b => by
    subst e
    exact ⟨t, ts' ++ t2, rfl, h1, by omega, h4, h.app h2 h3 b⟩
theorem Ch.cut : ∀ {ks : List Int} {ts : List α} {lo hi : Int} {h : Nat}, Ch R lo hi ks ts → h < ks.length →
    ∃ s, ks[h]? = some s ∧ lo < s ∧ s < hi ∧ Ch R lo s (ks.take h) (ts.take (h + 1)) ∧ Ch R s hi (ks.drop (h + 1)) (ts.drop (h + 1))
  | k :: ks, ts, lo, hi, 0, ⟨t, ts', e, h1, h2, h3, h⟩, _ => by
    subst e; exact ⟨k, rfl, h1, h2, ⟨t, rfl, h3⟩, h⟩
  | k :: ks, ts, lo, hi, n + 1, ⟨t, ts', e, h1, h2, h3, h⟩, hn => by
    subst e
    obtain ⟨s, a1, a2, a3, a4, a5⟩ := h.cut (h := n) (by simpa using hn)
    exact ⟨s, by simpa using a1, by omega, a3, ⟨t, ts'.take (n + 1), rfl, h1, a2, h3, a4⟩, a5⟩

/-- One kid in the midst of the others. -/
structure Foc (R : Int → Int → α → Prop) (lo hi : Int) (ks : List Int) (i : Nat) (A : List α) (t : α) (B : List α) (lo' hi' : Int) : Prop where
  at_ : A.length = i
  low : lo ≤ lo'
  high : hi' ≤ hi
  mid : lo' < hi' ∨ ks = []
  one : R lo' hi' t
  put1 : ∀ t', R lo' hi' t' → Ch R lo hi ks (A ++ t' :: B)
  put2 : ∀ b t' m, lo' < b → b < hi' → R lo' b t' → R b hi' m → Ch R lo hi (ks.take i ++ b :: ks.drop i) (A ++ t' :: m :: B)
  key : ∀ k, ub ks k = i → lo ≤ k → k < hi → lo' ≤ k ∧ k < hi'
  left : ∀ a ∈ A, ∃ lo1 hi1, lo ≤ lo1 ∧ hi1 ≤ lo' ∧ R lo1 hi1 a
  right : ∀ b ∈ B, ∃ lo1 hi1, hi' ≤ lo1 ∧ hi1 ≤ hi ∧ R lo1 hi1 b
theorem Ch.foc : ∀ {ks : List Int} {ts : List α} {lo hi : Int} {i : Nat}, Ch R lo hi ks ts → i ≤ ks.length → ∃ A t B lo' hi', ts = A ++ t :: B ∧ Foc R lo hi ks i A t B lo' hi'
  | [], ts, lo, hi, i, ⟨t, e, h⟩, hi' => by
    have hi' : i = 0 := by simpa using hi'
    subst hi' e
    exact ⟨[], t, [], lo, hi, rfl, rfl, Int.le_refl _, Int.le_refl _, .inr rfl, h, fun t' h' => ⟨t', rfl, h'⟩, fun b t' m h1 h2 h3 h4 => ⟨t', [m], rfl, h1, h2, h3, m, rfl, h4⟩, fun k _ h1 h2 => ⟨h1, h2⟩, by simp, by simp⟩
  | k :: ks, ts, lo, hi, 0, ⟨t, ts', e, h1, h2, h3, h⟩, _ => by
    subst e
    refine ⟨[], t, ts', lo, k, rfl, rfl, Int.le_refl _, by omega, .inl h1, h3, fun t' h' => ⟨t', ts', rfl, h1, h2, h', h⟩, fun b t' m a1 a2 a3 a4 => ⟨t', m :: ts', rfl, a1, by omega, a3, m, ts', rfl, a2, h2, a4, h⟩, fun x hx a1 a2 => ?_, by simp, ?_⟩
    · unfold ub at hx
      split at hx
      · omega
      · omega
    · -- all kids behind
      have key : ∀ {ks : List Int} {ts : List α} {lo hi : Int}, Ch R lo hi ks ts → ∀ b ∈ ts, ∃ lo1 hi1, lo ≤ lo1 ∧ hi1 ≤ hi ∧ R lo1 hi1 b := by
        intro ks
        induction ks with
        | nil =>
          rintro ts lo hi ⟨t, e, h⟩ b hb
          subst e
          obtain rfl := List.mem_singleton.1 hb
          exact ⟨lo, hi, Int.le_refl _, Int.le_refl _, h⟩
        | cons k ks ih =>
          rintro ts lo hi ⟨t, ts', e, h1, h2, h3, h⟩ b hb
          subst e
          rcases List.mem_cons.1 hb with rfl | hb
          · exact ⟨lo, k, Int.le_refl _, by omega, h3⟩
          · obtain ⟨a, c, a1, a2, a3⟩ := ih h b hb
            exact ⟨a, c, by omega, a2, a3⟩
      exact key h
  | k :: ks, ts, lo, hi, i + 1, ⟨t, ts', e, h1, h2, h3, h⟩, hi' => by
    subst e
    obtain ⟨A, x, B, lo', hi', e, f⟩ := h.foc (i := i) (by simpa using hi')
    subst e
    refine ⟨t :: A, x, B, lo', hi', rfl, by simp [f.at_], by have := f.low; omega, f.high, .inl ?_, f.one, fun t' h' => ⟨t, _, rfl, h1, h2, h3, f.put1 t' h'⟩, fun b t' m a1 a2 a3 a4 => ?_, fun x hx a1 a2 => ?_, ?_, f.right⟩
    · rcases f.mid with g | g
      · exact g
      · subst g
        obtain ⟨t0, e0, _⟩ := f.put1 x f.one
        have : A = [] := by cases A with | nil => rfl | cons a A => simp at e0
        have hb := f.put2
        have hl := f.low; have hh := f.high
        -- no separators: the whole between k and hi
        have hk := f.key k (by
          have := f.at_
          rw [‹A = []›] at this
          rw [← this]; rfl) (Int.le_refl _) h2
        omega
    · have := f.put2 b t' m a1 a2 a3 a4
      simp only [List.take_succ_cons, List.drop_succ_cons, List.cons_append]
      exact ⟨t, _, rfl, h1, h2, h3, this⟩
    · unfold ub at hx
      split at hx
      · exact f.key x (by omega) (by omega) a2
      · omega
    · intro a ha
      rcases List.mem_cons.1 ha with rfl | ha
      · exact ⟨lo, k, Int.le_refl _, f.low, h3⟩
      · obtain ⟨l1, l2, b1, b2, b3⟩ := f.left a ha
        exact ⟨l1, l2, by omega, b2, b3⟩
/-- Two kids side by side. -/
structure Foc2 (R : Int → Int → α → Prop) (lo hi : Int) (ks : List Int) (i : Nat) (A : List α) (a b : α) (B : List α) (lo' s hi' : Int) : Prop where
  at_ : A.length = i
  low : lo ≤ lo'
  high : hi' ≤ hi
  m1 : lo' < s
  m2 : s < hi'
  sep : ks[i]? = some s
  ra : R lo' s a
  rb : R s hi' b
  put1 : ∀ c, R lo' hi' c → Ch R lo hi (ks.take i ++ ks.drop (i + 1)) (A ++ c :: B)
  put2 : ∀ b' l r, lo' < b' → b' < hi' → R lo' b' l → R b' hi' r → Ch R lo hi (ks.set i b') (A ++ l :: r :: B)
theorem Ch.foc2 : ∀ {ks : List Int} {ts : List α} {lo hi : Int} {i : Nat}, Ch R lo hi ks ts → i < ks.length → ∃ A a b B lo' s hi', ts = A ++ a :: b :: B ∧ Foc2 R lo hi ks i A a b B lo' s hi'
  | k :: ks, ts, lo, hi, 0, ⟨t, ts', e, h1, h2, h3, h⟩, _ => by
    subst e
    cases ks with
    | nil =>
      obtain ⟨u, e, hu⟩ := h
      subst e
      exact ⟨[], t, u, [], lo, k, hi, rfl, rfl, Int.le_refl _, Int.le_refl _, h1, h2, rfl, h3, hu, fun c hc => ⟨c, rfl, hc⟩, fun b' l r a1 a2 a3 a4 => ⟨l, [r], rfl, a1, a2, a3, r, rfl, a4⟩⟩
    | cons k2 ks =>
      obtain ⟨u, us, e, g1, g2, g3, g⟩ := h
      subst e
      exact ⟨[], t, u, us, lo, k, k2, rfl, rfl, Int.le_refl _, by omega, h1, g1, rfl, h3, g3, fun c hc => ⟨c, us, rfl, by omega, g2, hc, g⟩,
        fun b' l r a1 a2 a3 a4 => ⟨l, r :: us, rfl, a1, by omega, a3, r, us, rfl, a2, g2, a4, g⟩⟩
  | k :: ks, ts, lo, hi, i + 1, ⟨t, ts', e, h1, h2, h3, h⟩, hi' => by
    subst e
    obtain ⟨A, a, b, B, lo', s, hi', e, f⟩ := h.foc2 (i := i) (by simpa using hi')
    subst e
    exact ⟨t :: A, a, b, B, lo', s, hi', rfl, by simp [f.at_], by have := f.low; omega, f.high, f.m1, f.m2, by simpa using f.sep, f.ra, f.rb,
      fun c hc => ⟨t, _, rfl, h1, h2, h3, f.put1 c hc⟩, fun b' l r a1 a2 a3 a4 => ⟨t, _, rfl, h1, h2, h3, f.put2 b' l r a1 a2 a3 a4⟩⟩
end

/-- In order, between lo and hi. -/
def In : Nat → Int → Int → Tr → Prop
  | 0, lo, hi, .leaf l => Up lo hi (keysP l)
  | d + 1, lo, hi, .node ks ts => Ch (In d) lo hi ks ts
  | _, _, _, _ => False
/-- All below have enough keys, and not too many. -/
def Kd : Nat → Tr → Prop
  | d + 1, .node _ ts => ∀ x ∈ ts, 3 ≤ nk x ∧ nk x ≤ 7 ∧ Kd d x
  | _, _ => True
def Full (d : Nat) (t : Tr) : Prop := 3 ≤ nk t ∧ nk t ≤ 7 ∧ Kd d t
theorem In.up : ∀ {d : Nat} {t : Tr} {lo hi : Int}, In d lo hi t → Up lo hi (keysP (flat d t))
  | 0, .leaf l, lo, hi, h => h
  | d + 1, .node ks ts, lo, hi, h => Ch.up (fun lo hi t h => In.up h) h

/-! ### Put -/
def cutT : Tr → Tr × Option (Int × Tr)
  | .leaf l => if l.length ≤ 7 then (.leaf l, none) else (.leaf (l.take (l.length / 2)), some ((keysP l).getD (l.length / 2) 0, .leaf (l.drop (l.length / 2))))
  | .node ks ts => if ks.length ≤ 7 then (.node ks ts, none) else
      (.node (ks.take (ks.length / 2)) (ts.take (ks.length / 2 + 1)), some (ks.getD (ks.length / 2) 0, .node (ks.drop (ks.length / 2 + 1)) (ts.drop (ks.length / 2 + 1))))
def putT : Nat → Tr → Int → Int × Int → Tr × Option (Int × Tr)
  | 0, .leaf l, k, v =>
    if (keysP l)[lb (keysP l) k]? = some k then (.leaf (l.set (lb (keysP l) k) (k, v)), none)
    else cutT (.leaf (l.take (lb (keysP l) k) ++ (k, v) :: l.drop (lb (keysP l) k)))
  | d + 1, .node ks ts, k, v =>
    match ts[ub ks k]? with
    | none => (.node ks ts, none)
    | some x =>
      match (putT d x k v).2 with
      | none => cutT (.node ks (ts.set (ub ks k) (putT d x k v).1))
      | some (b, m) => cutT (.node (ks.take (ub ks k) ++ b :: ks.drop (ub ks k)) ((ts.set (ub ks k) (putT d x k v).1).take (ub ks k + 1) ++ m :: (ts.set (ub ks k) (putT d x k v).1).drop (ub ks k + 1)))
  | _, t, _, _ => (t, none)
theorem cutT_0 (l : List Pr) : cutT (.leaf l) = if l.length ≤ 7 then (.leaf l, none) else (.leaf (l.take (l.length / 2)), some ((keysP l).getD (l.length / 2) 0, .leaf (l.drop (l.length / 2)))) := rfl
theorem cutT_s (ks : List Int) (ts : List Tr) : cutT (.node ks ts) = if ks.length ≤ 7 then (.node ks ts, none) else
      (.node (ks.take (ks.length / 2)) (ts.take (ks.length / 2 + 1)), some (ks.getD (ks.length / 2) 0, .node (ks.drop (ks.length / 2 + 1)) (ts.drop (ks.length / 2 + 1)))) := rfl
theorem putT_0 (l : List Pr) (k : Int) (v : Int × Int) : putT 0 (.leaf l) k v = if (keysP l)[lb (keysP l) k]? = some k then (.leaf (l.set (lb (keysP l) k) (k, v)), none)
    else cutT (.leaf (l.take (lb (keysP l) k) ++ (k, v) :: l.drop (lb (keysP l) k))) := rfl
theorem putT_s (d : Nat) (ks : List Int) (ts : List Tr) (k : Int) (v : Int × Int) : putT (d + 1) (.node ks ts) k v =
    match ts[ub ks k]? with
    | none => (.node ks ts, none)
    | some x =>
      match (putT d x k v).2 with
      | none => cutT (.node ks (ts.set (ub ks k) (putT d x k v).1))
      | some (b, m) => cutT (.node (ks.take (ub ks k) ++ b :: ks.drop (ub ks k)) ((ts.set (ub ks k) (putT d x k v).1).take (ub ks k + 1) ++ m :: (ts.set (ub ks k) (putT d x k v).1).drop (ub ks k + 1))) := rfl
/-- A tree, or two with a separator: between lo and hi, of these pairs, of so many keys at least. -/
def Out (d : Nat) (lo hi : Int) (n : Nat) (l : List Pr) : Tr × Option (Int × Tr) → Prop
  | (t, none) => In d lo hi t ∧ Kd d t ∧ n ≤ nk t ∧ nk t ≤ 7 ∧ flat d t = l
  | (t, some (b, m)) => lo < b ∧ b < hi ∧ In d lo b t ∧ In d b hi m ∧ Full d t ∧ Full d m ∧ flat d t ++ flat d m = l
theorem cut_ok {d : Nat} {t : Tr} {lo hi : Int} (h : In d lo hi t) (hk : Kd d t) (h10 : nk t ≤ 10) : Out d lo hi (nk t) (flat d t) (cutT t) := by
  cases d with
  | zero =>
    cases t with
    | node ks ts => exact absurd h (by simp [In])
    | leaf l =>
    have h : Up lo hi (keysP l) := h
    have hn : nk (.leaf l) = l.length := by simp [nk, keysT, keysP]
    rw [cutT_0]
    split
    · exact ⟨h, trivial, Nat.le_refl _, by omega, rfl⟩
    · rename_i h7
      have hlt : l.length / 2 < l.length := by omega
      have hd : l.drop (l.length / 2) = l[l.length / 2] :: l.drop (l.length / 2 + 1) := List.drop_eq_getElem_cons hlt
      have hg : (keysP l).getD (l.length / 2) 0 = l[l.length / 2].1 := by simp [keysP, List.getD_eq_getElem?_getD, hlt]
      have hs : keysP l = keysP (l.take (l.length / 2)) ++ l[l.length / 2].1 :: keysP (l.drop (l.length / 2 + 1)) := by
        conv => lhs; rw [← List.take_append_drop (l.length / 2) l, hd]
        simp only [keysP, List.map_append, List.map_cons]
      rw [hs] at h
      obtain ⟨a1, a2, a3, a4, a5⟩ := h.split
      rw [hg]
      have hne : keysP (l.take (l.length / 2)) ≠ [] := by
        intro e
        have h1 : (keysP (l.take (l.length / 2))).length = l.length / 2 := by simp [keysP]; omega
        rw [e] at h1
        simp only [List.length_nil] at h1
        omega
      refine ⟨a5 hne, a4, a1, ?_, ⟨?_, ?_, trivial⟩, ⟨?_, ?_, trivial⟩, List.take_append_drop _ _⟩
      · show Up _ _ (keysP (l.drop (l.length / 2)))
        rw [hd]; exact a2
      all_goals simp [nk, keysT, keysP]; omega
  | succ d =>
    cases t with
    | leaf l => exact absurd h (by simp [In])
    | node ks ts =>
    have h : Ch (In d) lo hi ks ts := h
    have hk : ∀ x ∈ ts, 3 ≤ nk x ∧ nk x ≤ 7 ∧ Kd d x := hk
    have h10 : ks.length ≤ 10 := h10
    have hl := h.len
    rw [cutT_s]
    split
    · rename_i h7
      exact ⟨h, hk, Nat.le_refl _, h7, rfl⟩
    · rename_i h7
      obtain ⟨s, a1, a2, a3, a4, a5⟩ := h.cut (h := ks.length / 2) (by omega)
      have hg : ks.getD (ks.length / 2) 0 = s := by simp [List.getD_eq_getElem?_getD, a1]
      rw [hg]
      refine ⟨a2, a3, a4, a5, ⟨?_, ?_, ?_⟩, ⟨?_, ?_, ?_⟩, ?_⟩
      · show 3 ≤ (ks.take (ks.length / 2)).length
        simp; omega
      · show (ks.take (ks.length / 2)).length ≤ 7
        simp; omega
      · exact fun x hx => hk x (List.mem_of_mem_take hx)
      · show 3 ≤ (ks.drop (ks.length / 2 + 1)).length
        simp; omega
      · show (ks.drop (ks.length / 2 + 1)).length ≤ 7
        simp; omega
      · exact fun x hx => hk x (List.mem_of_mem_drop hx)
      · show (ts.take (ks.length / 2 + 1)).flatMap (flat d) ++ (ts.drop (ks.length / 2 + 1)).flatMap (flat d) = ts.flatMap (flat d)
        rw [← List.flatMap_append, List.take_append_drop]
theorem Out.le {d : Nat} {lo hi : Int} {n n' : Nat} {l l' : List Pr} {p : Tr × Option (Int × Tr)} (h : Out d lo hi n l p) (hn : n' ≤ n) (e : l = l') : Out d lo hi n' l' p := by
  subst e
  obtain ⟨t, o⟩ := p
  cases o with
  | none => exact ⟨h.1, h.2.1, by have := h.2.2.1; omega, h.2.2.2⟩
  | some q => exact h
theorem flat_side {d : Nat} {A : List Tr} {k : Int} {p : Pr} (h : ∀ a ∈ A, ∃ lo1 hi1, hi1 ≤ k ∧ In d lo1 hi1 a) (hp : p ∈ A.flatMap (flat d)) : p.1 < k := by
  obtain ⟨a, ha, hp⟩ := List.mem_flatMap.1 hp
  obtain ⟨l1, h1, h2, h3⟩ := h a ha
  have := h3.up.mem (x := p.1) (List.mem_map.2 ⟨p, hp, rfl⟩)
  omega
theorem flat_side' {d : Nat} {A : List Tr} {k : Int} {p : Pr} (h : ∀ a ∈ A, ∃ lo1 hi1, k ≤ lo1 ∧ In d lo1 hi1 a) (hp : p ∈ A.flatMap (flat d)) : k ≤ p.1 := by
  obtain ⟨a, ha, hp⟩ := List.mem_flatMap.1 hp
  obtain ⟨l1, h1, h2, h3⟩ := h a ha
  have := h3.up.mem (x := p.1) (List.mem_map.2 ⟨p, hp, rfl⟩)
  omega
theorem put_ok : ∀ {d : Nat} {t : Tr} {lo hi k : Int} {v : Int × Int}, In d lo hi t → Kd d t → nk t ≤ 7 → lo ≤ k → k < hi → Out d lo hi (nk t) (insP (flat d t) k v) (putT d t k v)
  | 0, .leaf l, lo, hi, k, v, h, _, h7, h0, h1 => by
    have h : Up lo hi (keysP l) := h
    obtain ⟨c1, c2, c3⟩ := leaf_cut (k := k) h
    have hn : ∀ l : List Pr, nk (.leaf l) = l.length := fun l => by simp [nk, keysT, keysP]
    have h7 : l.length ≤ 7 := by rw [← hn]; exact h7
    have hup := h.ins (v := v) h0 h1
    rw [putT_0]
    by_cases hf : (keysP l)[lb (keysP l) k]? = some k
    · rw [if_pos hf]
      obtain ⟨u, e1, e2⟩ := c2 hf
      have hlt : lb (keysP l) k < l.length := by
        have := (List.getElem?_eq_some_iff.1 hf).1
        simpa [keysP] using this
      have e : l.set (lb (keysP l) k) (k, v) = insP l k v := by
        rw [List.set_eq_take_append_cons_drop, if_pos hlt]
        conv => rhs; rw [← List.take_append_drop (lb (keysP l) k) l, e1]
        rw [show l.take (lb (keysP l) k) ++ (k, u) :: l.drop (lb (keysP l) k + 1) = l.take (lb (keysP l) k) ++ [(k, u)] ++ l.drop (lb (keysP l) k + 1) by simp, insP_mid c1 e2]
        simp [insP]
      show Up lo hi (keysP (l.set (lb (keysP l) k) (k, v))) ∧ _ ∧ _ ∧ _ ∧ l.set (lb (keysP l) k) (k, v) = insP l k v
      rw [hn, hn, List.length_set]
      exact ⟨by rw [e]; exact hup, trivial, Nat.le_refl _, h7, e⟩
    · rw [if_neg hf]
      have e2 := c3 hf
      have e : l.take (lb (keysP l) k) ++ (k, v) :: l.drop (lb (keysP l) k) = insP l k v := by
        conv => rhs; rw [← List.take_append_drop (lb (keysP l) k) l]
        rw [show l.take (lb (keysP l) k) ++ l.drop (lb (keysP l) k) = l.take (lb (keysP l) k) ++ [] ++ l.drop (lb (keysP l) k) by simp, insP_mid c1 e2]
        simp [insP]
      have hlen : (l.take (lb (keysP l) k) ++ (k, v) :: l.drop (lb (keysP l) k)).length = l.length + 1 := by
        have := lb_le (keysP l) k
        simp [keysP] at this ⊢
        omega
      refine (cut_ok (d := 0) (t := .leaf (l.take (lb (keysP l) k) ++ (k, v) :: l.drop (lb (keysP l) k))) (lo := lo) (hi := hi) (by show Up lo hi (keysP _); rw [e]; exact hup) trivial (by rw [hn]; omega)).le (by rw [hn, hn]; omega) e
  | d + 1, t, lo, hi, k, v, h, hk, h7, h0, h1 => by
    cases t with
    | leaf l => exact absurd h (by simp [In])
    | node ks ts =>
    have h : Ch (In d) lo hi ks ts := h
    have hk : ∀ x ∈ ts, 3 ≤ nk x ∧ nk x ≤ 7 ∧ Kd d x := hk
    have h7 : ks.length ≤ 7 := h7
    obtain ⟨A, x, B, lo', hi', e, f⟩ := h.foc (ub_le ks k)
    subst e
    obtain ⟨hA, hB⟩ := f.key k rfl h0 h1
    have hx := hk x (by simp)
    have ih := put_ok (v := v) f.one hx.2.2 hx.2.1 hA hB
    have hat := f.at_
    have hget : (A ++ x :: B)[ub ks k]? = some x := by rw [List.getElem?_append_right (by omega), hat]; simp
    have hset : ∀ y, (A ++ x :: B).set (ub ks k) y = A ++ y :: B := fun y => by rw [List.set_append, if_neg (by omega), hat]; simp
    have sA : ∀ p ∈ A.flatMap (flat d), p.1 < k := fun p hp => by
      have := flat_side (k := lo') (fun a ha => let ⟨l1, l2, _, q, r⟩ := f.left a ha; ⟨l1, l2, q, r⟩) hp
      omega
    have sB : ∀ p ∈ B.flatMap (flat d), k < p.1 := fun p hp => by
      have := flat_side' (k := hi') (fun a ha => let ⟨l1, l2, q, _, r⟩ := f.right a ha; ⟨l1, l2, q, r⟩) hp
      omega
    have hins : insP (flat (d + 1) (.node ks (A ++ x :: B))) k v = A.flatMap (flat d) ++ insP (flat d x) k v ++ B.flatMap (flat d) := by
      show insP ((A ++ x :: B).flatMap (flat d)) k v = _
      rw [← insP_mid sA sB]
      simp
    rw [putT_s]
    simp only [hget, hset]
    rw [hins]
    generalize putT d x k v = r at ih
    obtain ⟨t', o⟩ := r
    cases o with
    | none =>
      obtain ⟨i1, i2, i3, i4, i5⟩ := ih
      simp only
      refine (cut_ok (d := d + 1) (t := .node ks (A ++ t' :: B)) (f.put1 t' i1) (fun y hy => ?_) (show ks.length ≤ 10 by omega)).le (Nat.le_refl _) ?_
      · rcases List.mem_append.1 hy with hy | hy
        · exact hk y (by simp [hy])
        · rcases List.mem_cons.1 hy with rfl | hy
          · exact ⟨by omega, i4, i2⟩
          · exact hk y (by simp [hy])
      · show (A ++ t' :: B).flatMap (flat d) = _
        rw [← i5]; simp
    | some q =>
      obtain ⟨b, m⟩ := q
      obtain ⟨i1, i2, i3, i4, i5, i6, i7⟩ := ih
      simp only
      have e1 : (A ++ t' :: B).take (ub ks k + 1) = A ++ [t'] := by
        rw [List.take_append, List.take_of_length_le (by omega), hat, show ub ks k + 1 - ub ks k = 1 by omega]; simp
      have e2 : (A ++ t' :: B).drop (ub ks k + 1) = B := by
        rw [List.drop_append, List.drop_of_length_le (by omega), hat, show ub ks k + 1 - ub ks k = 1 by omega]; simp
      rw [e1, e2, show A ++ [t'] ++ m :: B = A ++ t' :: m :: B by simp]
      refine (cut_ok (d := d + 1) (t := .node (ks.take (ub ks k) ++ b :: ks.drop (ub ks k)) (A ++ t' :: m :: B)) (f.put2 b t' m i1 i2 i3 i4) (fun y hy => ?_) ?_).le ?_ ?_
      · rcases List.mem_append.1 hy with hy | hy
        · exact hk y (by simp [hy])
        · rcases List.mem_cons.1 hy with rfl | hy
          · exact i5
          · rcases List.mem_cons.1 hy with rfl | hy
            · exact i6
            · exact hk y (by simp [hy])
      · show (ks.take (ub ks k) ++ b :: ks.drop (ub ks k)).length ≤ 10
        simp; omega
      · show ks.length ≤ (ks.take (ub ks k) ++ b :: ks.drop (ub ks k)).length
        simp; omega
      · show (A ++ t' :: m :: B).flatMap (flat d) = _
        rw [← i7]; simp

/-! ### Delete -/
def bothT : Tr → Int → Tr → Tr
  | .leaf a, _, .leaf b => .leaf (a ++ b)
  | .node k1 t1, s, .node k2 t2 => .node (k1 ++ s :: k2) (t1 ++ t2)
  | a, _, _ => a
def mendT (ks : List Int) (ts : List Tr) (i : Nat) : List Int × List Tr :=
  match ts[i]?, ts[i + 1]?, ks[i]? with
  | some a, some b, some s =>
    match cutT (bothT a s b) with
    | (c, none) => (ks.take i ++ ks.drop (i + 1), (ts.take (i + 1) ++ ts.drop (i + 2)).set i c)
    | (l, some (s', r)) => (ks.set i s', (ts.set i l).set (i + 1) r)
  | _, _, _ => (ks, ts)
def delT : Nat → Tr → Int → Tr
  | 0, .leaf l, k => if (keysP l)[lb (keysP l) k]? = some k then .leaf (l.take (lb (keysP l) k) ++ l.drop (lb (keysP l) k + 1)) else .leaf l
  | d + 1, .node ks ts, k =>
    match ts[ub ks k]? with
    | none => .node ks ts
    | some x => if nk (delT d x k) < 3 then .node (mendT ks (ts.set (ub ks k) (delT d x k)) (ub ks k - 1)).1 (mendT ks (ts.set (ub ks k) (delT d x k)) (ub ks k - 1)).2 else .node ks (ts.set (ub ks k) (delT d x k))
  | _, t, _ => t
theorem delT_0 (l : List Pr) (k : Int) : delT 0 (.leaf l) k = if (keysP l)[lb (keysP l) k]? = some k then .leaf (l.take (lb (keysP l) k) ++ l.drop (lb (keysP l) k + 1)) else .leaf l := rfl
theorem delT_s (d : Nat) (ks : List Int) (ts : List Tr) (k : Int) : delT (d + 1) (.node ks ts) k =
    match ts[ub ks k]? with
    | none => .node ks ts
    | some x => if nk (delT d x k) < 3 then .node (mendT ks (ts.set (ub ks k) (delT d x k)) (ub ks k - 1)).1 (mendT ks (ts.set (ub ks k) (delT d x k)) (ub ks k - 1)).2 else .node ks (ts.set (ub ks k) (delT d x k)) := rfl
theorem both_ok : ∀ {d : Nat} {a b : Tr} {lo s hi : Int}, In d lo s a → In d s hi b → lo < s → s < hi → In d lo hi (bothT a s b) ∧ flat d (bothT a s b) = flat d a ++ flat d b ∧ (Kd d a → Kd d b → Kd d (bothT a s b)) ∧
    nk a + nk b ≤ nk (bothT a s b) ∧ nk (bothT a s b) ≤ nk a + nk b + 1
  | 0, .leaf a, .leaf b, lo, s, hi, h1, h2, h3, h4 => by
    refine ⟨?_, rfl, fun _ _ => trivial, ?_, ?_⟩
    · show Up lo hi (keysP (a ++ b))
      unfold keysP
      rw [List.map_append]
      exact Up.app h1 h2 (by omega) (by omega)
    all_goals simp [nk, keysT, keysP, bothT]
  | d + 1, .node k1 t1, .node k2 t2, lo, s, hi, h1, h2, h3, h4 => by
    refine ⟨Ch.app h1 h2 h3 h4, List.flatMap_append, fun ka kb x hx => ?_, ?_, ?_⟩
    · rcases List.mem_append.1 hx with hx | hx
      · exact ka x hx
      · exact kb x hx
    all_goals (simp [nk, keysT, bothT]; try omega)
/-- What mending makes of two kids, of which one has lost a key. -/
theorem mend_ok {d : Nat} {ks : List Int} {ts : List Tr} {lo hi : Int} {i : Nat} (h : Ch (In d) lo hi ks ts) (hi' : i < ks.length) (hk : ∀ x ∈ ts, 2 ≤ nk x ∧ nk x ≤ 7 ∧ Kd d x)
    (hrest : ∀ j x, ts[j]? = some x → j ≠ i → j ≠ i + 1 → 3 ≤ nk x) (hone : ∀ a b, ts[i]? = some a → ts[i + 1]? = some b → nk a + nk b ≤ 9 ∧ (3 ≤ nk a ∨ 3 ≤ nk b)) :
    Ch (In d) lo hi (mendT ks ts i).1 (mendT ks ts i).2 ∧ (∀ x ∈ (mendT ks ts i).2, Full d x) ∧ ks.length ≤ (mendT ks ts i).1.length + 1 ∧ (mendT ks ts i).1.length ≤ ks.length ∧
    (mendT ks ts i).2.flatMap (flat d) = ts.flatMap (flat d) := by
  obtain ⟨A, a, b, B, lo', s, hi', e, f⟩ := h.foc2 hi'
  subst e
  have hat := f.at_
  have g0 : (A ++ a :: b :: B)[i]? = some a := by rw [List.getElem?_append_right (by omega), hat]; simp
  have g1 : (A ++ a :: b :: B)[i + 1]? = some b := by rw [List.getElem?_append_right (by omega), hat, show i + 1 - i = 1 by omega]; simp
  have ka := hk a (by simp)
  have kb := hk b (by simp)
  have hab := hone a b g0 g1
  obtain ⟨b1, b2, b3, b4, b5⟩ := both_ok f.ra f.rb f.m1 f.m2
  have hA : ∀ x ∈ A, Full d x := fun x hx => by
    obtain ⟨j, hj, rfl⟩ := List.getElem_of_mem hx
    have := hrest j A[j] (by rw [List.getElem?_append_left hj]; simp) (by omega) (by omega)
    have k := hk A[j] (by simp)
    exact ⟨this, k.2⟩
  have hB : ∀ x ∈ B, Full d x := fun x hx => by
    obtain ⟨j, hj, rfl⟩ := List.getElem_of_mem hx
    have := hrest (i + 2 + j) B[j] (by rw [List.getElem?_append_right (by omega), hat, show i + 2 + j - i = j + 2 by omega]; simp [hj]) (by omega) (by omega)
    have k := hk B[j] (by simp)
    exact ⟨this, k.2⟩
  have hc := cut_ok b1 (b3 ka.2.2 kb.2.2) (by omega)
  unfold mendT
  simp only [g0, g1, f.sep]
  have e1 : (A ++ a :: b :: B).take (i + 1) = A ++ [a] := by
    rw [List.take_append, List.take_of_length_le (by omega), hat, show i + 1 - i = 1 by omega]; simp
  have e2 : (A ++ a :: b :: B).drop (i + 2) = B := by
    rw [List.drop_append, List.drop_of_length_le (by omega), hat, show i + 2 - i = 2 by omega]; simp
  have e3 : ∀ c, (A ++ [a] ++ B).set i c = A ++ c :: B := fun c => by
    rw [show A ++ [a] ++ B = A ++ a :: B by simp, List.set_append, if_neg (by omega), hat]; simp
  have e4 : ∀ l r, ((A ++ a :: b :: B).set i l).set (i + 1) r = A ++ l :: r :: B := fun l r => by
    rw [List.set_append, if_neg (by omega), hat, List.set_append, if_neg (by omega), hat, show i + 1 - i = 1 by omega]; simp
  rw [e1, e2]
  generalize hq : cutT (bothT a s b) = q at hc
  obtain ⟨c, o⟩ := q
  cases o with
  | none =>
    obtain ⟨c1, c2, c3, c4, c5⟩ := hc
    simp only [e3]
    refine ⟨f.put1 c c1, fun x hx => ?_, ?_, ?_, ?_⟩
    · rcases List.mem_append.1 hx with hx | hx
      · exact hA x hx
      · rcases List.mem_cons.1 hx with rfl | hx
        · exact ⟨by omega, c4, c2⟩
        · exact hB x hx
    · simp; omega
    · simp; omega
    · rw [List.flatMap_append, List.flatMap_cons, c5, b2]; simp
  | some p =>
    obtain ⟨s', r⟩ := p
    obtain ⟨c1, c2, c3, c4, c5, c6, c7⟩ := hc
    simp only [e4]
    refine ⟨f.put2 s' c r c1 c2 c3 c4, fun x hx => ?_, ?_, ?_, ?_⟩
    · rcases List.mem_append.1 hx with hx | hx
      · exact hA x hx
      · rcases List.mem_cons.1 hx with rfl | hx
        · exact c5
        · rcases List.mem_cons.1 hx with rfl | hx
          · exact c6
          · exact hB x hx
    · simp
    · simp
    · rw [List.flatMap_append, List.flatMap_cons, List.flatMap_cons, ← List.append_assoc (flat d c), c7, b2]; simp
theorem del_ok : ∀ {d : Nat} {t : Tr} {lo hi k : Int}, In d lo hi t → Kd d t → nk t ≤ 7 → (d ≠ 0 → 1 ≤ nk t) → lo ≤ k → k < hi →
    In d lo hi (delT d t k) ∧ Kd d (delT d t k) ∧ nk (delT d t k) ≤ 7 ∧ nk t ≤ nk (delT d t k) + 1 ∧ flat d (delT d t k) = delP (flat d t) k
  | 0, .leaf l, lo, hi, k, h, _, h7, _, h0, h1 => by
    have h : Up lo hi (keysP l) := h
    obtain ⟨c1, c2, c3⟩ := leaf_cut (k := k) h
    have hn : ∀ l : List Pr, nk (.leaf l) = l.length := fun l => by simp [nk, keysT, keysP]
    have h7 : l.length ≤ 7 := by rw [← hn]; exact h7
    rw [delT_0]
    by_cases hf : (keysP l)[lb (keysP l) k]? = some k
    · rw [if_pos hf]
      obtain ⟨u, e1, e2⟩ := c2 hf
      have hlt : lb (keysP l) k < l.length := by
        have := (List.getElem?_eq_some_iff.1 hf).1
        simpa [keysP] using this
      have e : l.take (lb (keysP l) k) ++ l.drop (lb (keysP l) k + 1) = delP l k := by
        conv => rhs; rw [← List.take_append_drop (lb (keysP l) k) l, e1]
        rw [show l.take (lb (keysP l) k) ++ (k, u) :: l.drop (lb (keysP l) k + 1) = l.take (lb (keysP l) k) ++ [(k, u)] ++ l.drop (lb (keysP l) k + 1) by simp,
          delP_mid (fun p hp => by have := c1 p hp; omega) (fun p hp => by have := e2 p hp; omega)]
        simp [delP]
      show Up lo hi (keysP (l.take (lb (keysP l) k) ++ l.drop (lb (keysP l) k + 1))) ∧ _ ∧ nk (.leaf (l.take (lb (keysP l) k) ++ l.drop (lb (keysP l) k + 1))) ≤ 7 ∧ _ ≤ nk (.leaf (l.take (lb (keysP l) k) ++ l.drop (lb (keysP l) k + 1))) + 1 ∧ l.take (lb (keysP l) k) ++ l.drop (lb (keysP l) k + 1) = delP l k
      rw [hn, hn]
      refine ⟨by rw [e]; exact h.filter, trivial, ?_, ?_, e⟩
      · simp; omega
      · simp; omega
    · rw [if_neg hf]
      have e2 := c3 hf
      refine ⟨h, trivial, by rw [hn]; exact h7, by omega, ?_⟩
      show l = delP l k
      unfold delP
      symm
      refine filter_all fun p hp => ?_
      have hp' : p ∈ l.take (lb (keysP l) k) ++ l.drop (lb (keysP l) k) := by rw [List.take_append_drop]; exact hp
      rcases List.mem_append.1 hp' with hp | hp
      · have := c1 p hp; simp; omega
      · have := e2 p hp; simp; omega
  | d + 1, t, lo, hi, k, h, hk, h7, hpos, h0, h1 => by
    cases t with
    | leaf l => exact absurd h (by simp [In])
    | node ks ts =>
    have h : Ch (In d) lo hi ks ts := h
    have hk : ∀ x ∈ ts, 3 ≤ nk x ∧ nk x ≤ 7 ∧ Kd d x := hk
    have h7 : ks.length ≤ 7 := h7
    have hpos : 1 ≤ ks.length := hpos (by omega)
    obtain ⟨A, x, B, lo', hi', e, f⟩ := h.foc (ub_le ks k)
    subst e
    obtain ⟨hA, hB⟩ := f.key k rfl h0 h1
    have hx := hk x (by simp)
    obtain ⟨i1, i2, i3, i4, i5⟩ := del_ok f.one hx.2.2 hx.2.1 (fun _ => by omega) hA hB
    have hat := f.at_
    have hget : (A ++ x :: B)[ub ks k]? = some x := by rw [List.getElem?_append_right (by omega), hat]; simp
    have hset : ∀ y, (A ++ x :: B).set (ub ks k) y = A ++ y :: B := fun y => by rw [List.set_append, if_neg (by omega), hat]; simp
    have sA : ∀ p ∈ A.flatMap (flat d), p.1 ≠ k := fun p hp => by
      have := flat_side (k := lo') (fun a ha => let ⟨l1, l2, _, q, r⟩ := f.left a ha; ⟨l1, l2, q, r⟩) hp
      omega
    have sB : ∀ p ∈ B.flatMap (flat d), p.1 ≠ k := fun p hp => by
      have := flat_side' (k := hi') (fun a ha => let ⟨l1, l2, q, _, r⟩ := f.right a ha; ⟨l1, l2, q, r⟩) hp
      omega
    have hdel : delP (flat (d + 1) (.node ks (A ++ x :: B))) k = A.flatMap (flat d) ++ delP (flat d x) k ++ B.flatMap (flat d) := by
      show delP ((A ++ x :: B).flatMap (flat d)) k = _
      rw [← delP_mid sA sB]
      simp
    have hfl : (A ++ delT d x k :: B).flatMap (flat d) = delP (flat (d + 1) (.node ks (A ++ x :: B))) k := by
      rw [hdel, ← i5]; simp
    rw [delT_s]
    simp only [hget, hset]
    by_cases hlt : nk (delT d x k) < 3
    · rw [if_pos hlt]
      have hlen := (f.put1 _ i1).len
      have m := mend_ok (i := ub ks k - 1) (f.put1 _ i1) (by have := ub_le ks k; omega) (fun y hy => by
        rcases List.mem_append.1 hy with hy | hy
        · have := hk y (by simp [hy]); exact ⟨by omega, this.2⟩
        · rcases List.mem_cons.1 hy with rfl | hy
          · exact ⟨by omega, i3, i2⟩
          · have := hk y (by simp [hy]); exact ⟨by omega, this.2⟩)
        (fun j y hj h1 h2 => by
          by_cases hja : j < A.length
          · rw [List.getElem?_append_left hja] at hj
            exact (hk y (by simp [List.mem_of_getElem? hj])).1
          · rw [List.getElem?_append_right (by omega)] at hj
            cases hjj : j - A.length with
            | zero => omega
            | succ n =>
              rw [hjj, List.getElem?_cons_succ] at hj
              exact (hk y (by simp [List.mem_of_getElem? hj])).1)
        (fun a b ha hb => by
          by_cases hu : ub ks k = 0
          · have hA0 : A = [] := List.eq_nil_of_length_eq_zero (by omega)
            subst hA0
            rw [hu] at ha hb
            simp only [List.nil_append, Nat.zero_sub, Nat.zero_add, List.getElem?_cons_succ, List.getElem?_cons_zero, Option.some.injEq] at ha hb
            subst ha
            have := hk b (by simp [List.mem_of_getElem? hb])
            exact ⟨by omega, .inr this.1⟩
          · rw [List.getElem?_append_left (by omega)] at ha
            rw [show ub ks k - 1 + 1 = A.length by omega, List.getElem?_append_right (Nat.le_refl _)] at hb
            simp only [Nat.sub_self, List.getElem?_cons_zero, Option.some.injEq] at hb
            subst hb
            have := hk a (by simp [List.mem_of_getElem? ha])
            exact ⟨by omega, .inl this.1⟩)
      obtain ⟨m1, m2, m3, m4, m5⟩ := m
      exact ⟨m1, m2, show (mendT ks _ _).1.length ≤ 7 by omega, m3, by rw [← hfl, ← m5]; rfl⟩
    · rw [if_neg hlt]
      refine ⟨f.put1 _ i1, fun y hy => ?_, h7, Nat.le_succ _, hfl⟩
      rcases List.mem_append.1 hy with hy | hy
      · exact hk y (by simp [hy])
      · rcases List.mem_cons.1 hy with rfl | hy
        · exact ⟨by omega, i3, i2⟩
        · exact hk y (by simp [hy])
end Go.Proofs.Ytdglignjoojimaa
