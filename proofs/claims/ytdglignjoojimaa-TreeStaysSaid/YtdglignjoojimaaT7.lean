/- The plain law of trees, part 7: a tree's nodes in a list. No program in sight. No conditions. -/
import Derived.Test.YtdglignjoojimaaT6
set_option linter.unusedVariables false
set_option linter.unusedSimpArgs false
namespace Go.Proofs.Ytdglignjoojimaa

/-- A node of a list: its keys, its extents, where its kids stand. -/
structure Nd where
  keys : List Int
  vals : List (Int × Int)
  kids : List Int
/-- Where the kids begin, and all below them, from a place on. -/
def kidsT (f : Tr → Nat → List Nd) : List Tr → Nat → List Int × List Nd
  | [], _ => ([], [])
  | t :: ts, a => ((a : Int) :: (kidsT f ts (a + (f t a).length)).1, f t a ++ (kidsT f ts (a + (f t a).length)).2)
def listT : Nat → Tr → Nat → List Nd
  | 0, .leaf l, _ => [⟨keysP l, l.map (fun p => p.2), []⟩]
  | d + 1, .node ks ts, a => ⟨ks, [], (kidsT (listT d) ts (a + 1)).1⟩ :: (kidsT (listT d) ts (a + 1)).2
  | _, _, _ => []
theorem listT_0 (l : List Pr) (a : Nat) : listT 0 (.leaf l) a = [⟨keysP l, l.map (fun p => p.2), []⟩] := rfl
theorem listT_s (d : Nat) (ks : List Int) (ts : List Tr) (a : Nat) : listT (d + 1) (.node ks ts) a = ⟨ks, [], (kidsT (listT d) ts (a + 1)).1⟩ :: (kidsT (listT d) ts (a + 1)).2 := rfl
theorem kidsT_snoc (f : Tr → Nat → List Nd) (t : Tr) : ∀ (ts : List Tr) (a : Nat), kidsT f (ts ++ [t]) a =
    ((kidsT f ts a).1 ++ [((a + (kidsT f ts a).2.length : Nat) : Int)], (kidsT f ts a).2 ++ f t (a + (kidsT f ts a).2.length))
  | [], a => by simp [kidsT]
  | x :: ts, a => by
    simp only [List.cons_append, kidsT, kidsT_snoc f t ts, List.length_append, List.append_assoc, Nat.add_assoc]
theorem kidsT_len (f : Tr → Nat → List Nd) : ∀ (ts : List Tr) (a : Nat), (kidsT f ts a).1.length = ts.length
  | [], a => rfl
  | x :: ts, a => by simp [kidsT, kidsT_len f ts]
/-- How many nodes there are does not hang on where they begin. -/
theorem listT_len : ∀ {d : Nat} {t : Tr} (a b : Nat), (listT d t a).length = (listT d t b).length
  | 0, .leaf l, a, b => rfl
  | 0, .node _ _, a, b => rfl
  | d + 1, .leaf _, a, b => rfl
  | d + 1, .node ks ts, a, b => by
    have key : ∀ (ts : List Tr) (a b : Nat), (kidsT (listT d) ts a).2.length = (kidsT (listT d) ts b).2.length := by
      intro ts
      induction ts with
      | nil => intro a b; rfl
      | cons x ts ih =>
        intro a b
        simp only [kidsT, List.length_append]
        rw [listT_len (d := d) (t := x) a b, ih (a + (listT d x b).length) (b + (listT d x b).length)]
    rw [listT_s, listT_s]
    simp only [List.length_cons]
    rw [key ts (a + 1) (b + 1)]
theorem kids_count {d : Nat} : ∀ {ts : List Tr} (a : Nat), (∀ x ∈ ts, ∀ a, (listT d x a).length + 2 ≤ (flat d x).length) → (kidsT (listT d) ts a).2.length + 2 * ts.length ≤ (ts.flatMap (flat d)).length
  | [], a, _ => by simp [kidsT]
  | x :: ts, a, h => by
    have h1 := h x (by simp) a
    have ih := kids_count (ts := ts) (a + (listT d x a).length) (fun y hy => h y (List.mem_cons_of_mem _ hy))
    simp only [kidsT, List.length_append, List.length_cons, List.flatMap_cons]
    omega
theorem kidsT_app (f : Tr → Nat → List Nd) : ∀ (t1 t2 : List Tr) (a : Nat), (kidsT f (t1 ++ t2) a).2 = (kidsT f t1 a).2 ++ (kidsT f t2 (a + (kidsT f t1 a).2.length)).2
  | [], t2, a => by simp [kidsT]
  | x :: t1, t2, a => by
    simp only [List.cons_append, kidsT, kidsT_app f t1 t2, List.length_append, List.append_assoc, Nat.add_assoc]
theorem kidsT_take_le (f : Tr → Nat → List Nd) (ts : List Tr) (a i : Nat) : (kidsT f (ts.take i) a).2.length ≤ (kidsT f ts a).2.length := by
  conv => rhs; rw [← List.take_append_drop i ts]
  rw [kidsT_app, List.length_append]; omega
theorem kidsT_len2 {d : Nat} : ∀ (ts : List Tr) (a b : Nat), (kidsT (listT d) ts a).2.length = (kidsT (listT d) ts b).2.length
  | [], a, b => rfl
  | x :: ts, a, b => by
    simp only [kidsT, List.length_append]
    rw [listT_len (d := d) (t := x) a b, kidsT_len2 ts (a + (listT d x b).length) (b + (listT d x b).length)]
/-- All shapes below. -/
def ShA : Nat → Tr → Prop
  | 0, .leaf _ => True
  | d + 1, .node ks ts => ts.length = ks.length + 1 ∧ ∀ x ∈ ts, ShA d x
  | _, _ => False
theorem In.shA : ∀ {d : Nat} {t : Tr} {lo hi : Int}, In d lo hi t → ShA d t
  | 0, .leaf _, _, _, _ => trivial
  | d + 1, .node ks ts, lo, hi, h => by
    have h : Ch (In d) lo hi ks ts := h
    refine ⟨h.len, fun x hx => ?_⟩
    obtain ⟨i, hi', rfl⟩ := List.getElem_of_mem hx
    obtain ⟨A, t, B, lo', hi'', e, f⟩ := h.foc (i := i) (by have := h.len; omega)
    subst e
    have hat := f.at_
    have : (A ++ t :: B)[i] = t := by rw [List.getElem_append_right (by omega)]; simp [hat]
    rw [this]; exact In.shA f.one
theorem node_count : ∀ {d : Nat} {t : Tr} (a : Nat), ShA d t → Full d t → (listT d t a).length + 2 ≤ (flat d t).length
  | 0, .leaf l, a, _, hf => by
    have h3 : 3 ≤ (keysP l).length := hf.1
    simp [listT, flat, keysP] at h3 ⊢; omega
  | d + 1, .node ks ts, a, hs, hf => by
    obtain ⟨hl, hs⟩ := hs
    have h3 : 3 ≤ ks.length := hf.1
    have hk : ∀ x ∈ ts, 3 ≤ nk x ∧ nk x ≤ 7 ∧ Kd d x := hf.2.2
    have := kids_count (d := d) (ts := ts) (a + 1) (fun x hx a => node_count a (hs x hx) (hk x hx))
    rw [listT_s, flat_s]
    simp only [List.length_cons]
    omega
theorem TOk.count {d : Nat} {t : Tr} {l : List Pr} (h : TOk d t l) (a : Nat) : (listT d t a).length ≤ l.length + 1 := by
  rw [← h.flat_]
  have hs := h.in_.shA
  cases d with
  | zero =>
    cases t with
    | node ks ts => exact hs.elim
    | leaf l => simp [listT]
  | succ d =>
    cases t with
    | leaf l => exact hs.elim
    | node ks ts =>
      obtain ⟨hl, hs⟩ := hs
      have hk : ∀ x ∈ ts, 3 ≤ nk x ∧ nk x ≤ 7 ∧ Kd d x := h.kids
      have h1 : 1 ≤ ks.length := h.some_ (by omega)
      have := kids_count (d := d) (ts := ts) (a + 1) (fun x hx a => node_count a (hs x hx) (hk x hx))
      rw [listT_s, flat_s]
      simp only [List.length_cons]
      omega
end Go.Proofs.Ytdglignjoojimaa
