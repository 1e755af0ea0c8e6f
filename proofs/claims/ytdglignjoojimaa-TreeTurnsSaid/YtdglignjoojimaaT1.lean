/- The plain law of trees: search trees of one depth, what is put and deleted, sizes and order. No program in sight. No conditions. -/
import Init
set_option linter.unusedVariables false
set_option linter.unusedSimpArgs false
namespace Go.Proofs.Ytdglignjoojimaa

/-- A key with its extent. -/
abbrev Pr := Int × Int × Int
/-- A tree. -/
inductive Tr : Type
  | leaf (l : List Pr)
  | node (ks : List Int) (ts : List Tr)
def keysP (l : List Pr) : List Int := l.map (fun p => p.1)
def keysT : Tr → List Int
  | .leaf l => keysP l
  | .node ks _ => ks
/-- The pairs of a tree whose leaves all lie d below it. -/
def flat : Nat → Tr → List Pr
  | 0, .leaf l => l
  | d + 1, .node _ ts => ts.flatMap (flat d)
  | _, _ => []
theorem flat_0 (l : List Pr) : flat 0 (.leaf l) = l := rfl
theorem flat_s (d : Nat) (ks : List Int) (ts : List Tr) : flat (d + 1) (.node ks ts) = ts.flatMap (flat d) := rfl
abbrev nk (t : Tr) : Nat := (keysT t).length

/-! ### Search -/
def lb : List Int → Int → Nat
  | [], _ => 0
  | x :: r, k => if x < k then lb r k + 1 else 0
def ub : List Int → Int → Nat
  | [], _ => 0
  | x :: r, k => if x ≤ k then ub r k + 1 else 0
/-- Rising, between lo and hi. -/
def Up : Int → Int → List Int → Prop
  | _, _, [] => True
  | lo, hi, x :: r => lo ≤ x ∧ x < hi ∧ Up (x + 1) hi r
theorem Up.mono : ∀ {l : List Int} {lo hi lo' hi' : Int}, Up lo hi l → lo' ≤ lo → hi ≤ hi' → Up lo' hi' l
  | [], _, _, _, _, _, _, _ => trivial
  | x :: r, lo, hi, lo', hi', ⟨h1, h2, h3⟩, a, b => ⟨by omega, by omega, h3.mono (Int.le_refl _) b⟩
theorem Up.app : ∀ {a b : List Int} {lo k hi : Int}, Up lo k a → Up k hi b → lo ≤ k → k ≤ hi → Up lo hi (a ++ b)
  | [], b, lo, k, hi, _, h, h1, h2 => h.mono h1 (Int.le_refl _)
  | x :: r, b, lo, k, hi, ⟨a1, a2, a3⟩, h, h1, h2 => ⟨a1, by omega, a3.app h (by omega) h2⟩
theorem Up.mem : ∀ {l : List Int} {lo hi x : Int}, Up lo hi l → x ∈ l → lo ≤ x ∧ x < hi
  | y :: r, lo, hi, x, ⟨h1, h2, h3⟩, hx => by
    rcases List.mem_cons.1 hx with rfl | hx
    · exact ⟨h1, h2⟩
    · have := h3.mem hx; omega
theorem Up.left : ∀ {a b : List Int} {lo hi : Int}, Up lo hi (a ++ b) → Up lo hi a
  | [], b, lo, hi, h => trivial
  | x :: r, b, lo, hi, ⟨h1, h2, h3⟩ => ⟨h1, h2, h3.left⟩
theorem Up.right : ∀ {a b : List Int} {lo hi : Int}, Up lo hi (a ++ b) → Up lo hi b
  | [], b, lo, hi, h => h
  | x :: r, b, lo, hi, ⟨h1, h2, h3⟩ => h3.right.mono (by omega) (Int.le_refl _)
/-- Split ahead of a key that is in it. -/
theorem Up.split : ∀ {a : List Int} {x : Int} {b : List Int} {lo hi : Int}, Up lo hi (a ++ x :: b) → Up lo x a ∧ Up x hi (x :: b) ∧ lo ≤ x ∧ x < hi ∧ (a ≠ [] → lo < x)
  | [], x, b, lo, hi, ⟨h1, h2, h3⟩ => ⟨trivial, ⟨Int.le_refl _, h2, h3⟩, h1, h2, fun h => absurd rfl h⟩
  | y :: a, x, b, lo, hi, ⟨h1, h2, h3⟩ => by
    obtain ⟨k1, k2, k3, k4, k5⟩ := h3.split
    exact ⟨⟨h1, by omega, k1⟩, k2, by omega, k4, fun _ => by omega⟩

theorem Up.get_lt : ∀ {l : List Int} {lo hi : Int} {i j : Nat} (h : Up lo hi l) (hij : i < j) (hj : j < l.length), l[i]'(by omega) < l[j]
  | x :: r, lo, hi, 0, j + 1, ⟨h1, h2, h3⟩, _, hj => by
    have := h3.mem (x := r[j]'(by simpa using hj)) (List.getElem_mem _)
    simp only [List.getElem_cons_zero, List.getElem_cons_succ]; omega
  | x :: r, lo, hi, i + 1, j + 1, ⟨h1, h2, h3⟩, hij, hj => by
    simp only [List.getElem_cons_succ]
    exact h3.get_lt (by omega) (by simpa using hj)
theorem Up.get_le {l : List Int} {lo hi : Int} {i j : Nat} (h : Up lo hi l) (hij : i < j) (hj : j < l.length) : l[i]'(by omega) ≤ l[j] := Int.le_of_lt (h.get_lt hij hj)
theorem lb_le : ∀ (l : List Int) (k : Int), lb l k ≤ l.length
  | [], k => Nat.le_refl _
  | x :: r, k => by have := lb_le r k; unfold lb; split <;> simp <;> omega
theorem ub_le : ∀ (l : List Int) (k : Int), ub l k ≤ l.length
  | [], k => Nat.le_refl _
  | x :: r, k => by have := ub_le r k; unfold ub; split <;> simp <;> omega
/-- What a search finds: all ahead of the place are less, all from it on are not. -/
theorem lb_of : ∀ {l : List Int} {k : Int} {i : Nat}, i ≤ l.length → (∀ j (hj : j < l.length), j < i → l[j] < k) → (∀ j (hj : j < l.length), i ≤ j → k ≤ l[j]) → lb l k = i
  | [], k, i, hi, _, _ => by simp at hi; subst hi; rfl
  | x :: r, k, 0, _, _, h2 => by
    have := h2 0 (by simp) (Nat.le_refl _)
    simp only [List.getElem_cons_zero] at this
    unfold lb; rw [if_neg (by omega)]
  | x :: r, k, i + 1, hi, h1, h2 => by
    have := h1 0 (by simp) (by omega)
    simp only [List.getElem_cons_zero] at this
    unfold lb; rw [if_pos this]
    congr 1
    refine lb_of (by simpa using hi) (fun j hj hj' => ?_) (fun j hj hj' => ?_)
    · have := h1 (j + 1) (by simpa using hj) (by omega)
      simpa using this
    · have := h2 (j + 1) (by simpa using hj) (by omega)
      simpa using this
theorem lb_lt : ∀ {l : List Int} {k : Int} {j : Nat} (hj : j < l.length), j < lb l k → l[j] < k
  | x :: r, k, 0, _, h => by unfold lb at h; split at h <;> simp_all
  | x :: r, k, j + 1, hj, h => by
    unfold lb at h; split at h
    · have := lb_lt (l := r) (k := k) (j := j) (by simpa using hj) (by omega); simpa using this
    · omega
theorem lb_ge : ∀ {l : List Int} {k lo hi : Int} {j : Nat} (hu : Up lo hi l) (hj : j < l.length), lb l k ≤ j → k ≤ l[j]
  | x :: r, k, lo, hi, 0, hu, _, h => by unfold lb at h; split at h <;> first | omega | (simp; omega)
  | x :: r, k, lo, hi, j + 1, hu, hj, h => by
    unfold lb at h; split at h
    · have := lb_ge (l := r) (k := k) (j := j) hu.2.2 (by simpa using hj) (by omega); simpa using this
    · have := hu.2.2.mem (x := r[j]'(by simpa using hj)) (List.getElem_mem _)
      simp only [List.getElem_cons_succ]; omega
theorem ub_eq : ∀ {l : List Int} {k lo hi : Int}, Up lo hi l → ub l k = (if l[lb l k]? = some k then lb l k + 1 else lb l k)
  | [], k, lo, hi, _ => by simp [ub, lb]
  | x :: r, k, lo, hi, ⟨h1, h2, h3⟩ => by
    have ih := ub_eq (k := k) h3
    unfold ub lb
    by_cases h : x < k
    · rw [if_pos (by omega), if_pos h, ih]
      simp only [List.getElem?_cons_succ]
      split <;> rfl
    · rw [if_neg h]
      simp only [List.getElem?_cons_zero, Option.some.injEq]
      by_cases e : x = k
      · subst e
        rw [if_pos (Int.le_refl _), if_pos rfl]
        have : ub r x = 0 := by
          cases r with
          | nil => rfl
          | cons y r => unfold ub; rw [if_neg (by have := h3.1; omega)]
        rw [this]
      · rw [if_neg (by omega), if_neg e]

/-! ### Pairs -/
def insP (l : List Pr) (k : Int) (v : Int × Int) : List Pr := l.filter (fun p => decide (p.1 < k)) ++ (k, v) :: l.filter (fun p => decide (k < p.1))
def delP (l : List Pr) (k : Int) : List Pr := l.filter (fun p => decide (p.1 ≠ k))
theorem filter_all {α : Type} {l : List α} {p : α → Bool} (h : ∀ x ∈ l, p x = true) : l.filter p = l := List.filter_eq_self.2 h
theorem filter_no {α : Type} {l : List α} {p : α → Bool} (h : ∀ x ∈ l, p x = false) : l.filter p = [] := List.filter_eq_nil_iff.2 fun x hx => by simp [h x hx]
theorem insP_mid {A B C : List Pr} {k : Int} {v : Int × Int} (hA : ∀ p ∈ A, p.1 < k) (hC : ∀ p ∈ C, k < p.1) : insP (A ++ B ++ C) k v = A ++ insP B k v ++ C := by
  unfold insP
  simp only [List.filter_append]
  rw [filter_all (l := A) (fun x hx => by simp [hA x hx]), filter_no (l := C) (fun x hx => by have := hC x hx; simp; omega),
    filter_no (l := A) (fun x hx => by have := hA x hx; simp; omega), filter_all (l := C) (fun x hx => by simp [hC x hx])]
  simp
theorem delP_mid {A B C : List Pr} {k : Int} (hA : ∀ p ∈ A, p.1 ≠ k) (hC : ∀ p ∈ C, p.1 ≠ k) : delP (A ++ B ++ C) k = A ++ delP B k ++ C := by
  unfold delP
  simp only [List.filter_append]
  rw [filter_all (l := A) (fun x hx => by simp [hA x hx]), filter_all (l := C) (fun x hx => by simp [hC x hx])]
/-- A leaf's list, split at a key's place. -/
theorem leaf_cut : ∀ {l : List Pr} {k lo hi : Int}, Up lo hi (keysP l) → (∀ p ∈ l.take (lb (keysP l) k), p.1 < k) ∧
    ((keysP l)[lb (keysP l) k]? = some k → ∃ v, l.drop (lb (keysP l) k) = (k, v) :: l.drop (lb (keysP l) k + 1) ∧ ∀ p ∈ l.drop (lb (keysP l) k + 1), k < p.1) ∧
    ((keysP l)[lb (keysP l) k]? ≠ some k → ∀ p ∈ l.drop (lb (keysP l) k), k < p.1)
  | [], k, lo, hi, _ => by simp [lb, keysP]
  | p :: l, k, lo, hi, h => by
    obtain ⟨h1, h2, h3⟩ : lo ≤ p.1 ∧ p.1 < hi ∧ Up (p.1 + 1) hi (keysP l) := h
    have ih := leaf_cut (k := k) h3
    have e : keysP (p :: l) = p.1 :: keysP l := rfl
    rw [e]
    unfold lb
    by_cases hk : p.1 < k
    · rw [if_pos hk]
      simp only [List.take_succ_cons, List.drop_succ_cons, List.getElem?_cons_succ, List.mem_cons, forall_eq_or_imp]
      exact ⟨⟨hk, ih.1⟩, ih.2.1, ih.2.2⟩
    · rw [if_neg hk]
      have hlt : ∀ q ∈ l, p.1 < q.1 := fun q hq => by
        have := h3.mem (x := q.1) (List.mem_map.2 ⟨q, hq, rfl⟩); omega
      simp only [List.take_zero, List.drop_zero, List.getElem?_cons_zero, Option.some.injEq, List.drop_succ_cons, List.not_mem_nil, false_imp_iff, implies_true, true_and]
      refine ⟨fun e => ?_, fun e q hq => ?_⟩
      · subst e; exact ⟨p.2, rfl, hlt⟩
      · have e' : p.1 ≠ k := by simpa using e
        rcases List.mem_cons.1 hq with rfl | hq
        · omega
        · have := hlt q hq; omega
theorem Up.ins {l : List Pr} {k lo hi : Int} {v : Int × Int} (h : Up lo hi (keysP l)) (h0 : lo ≤ k) (h1 : k < hi) : Up lo hi (keysP (insP l k v)) := by
  induction l generalizing lo with
  | nil => show lo ≤ k ∧ k < hi ∧ True; exact ⟨h0, h1, trivial⟩
  | cons p l ih =>
    obtain ⟨a1, a2, a3⟩ : lo ≤ p.1 ∧ p.1 < hi ∧ Up (p.1 + 1) hi (keysP l) := h
    have hlt : ∀ q ∈ l, p.1 < q.1 := fun q hq => by
      have := a3.mem (x := q.1) (List.mem_map.2 ⟨q, hq, rfl⟩); omega
    rcases Int.lt_trichotomy p.1 k with hk | hk | hk
    · have e : insP (p :: l) k v = p :: insP l k v := by
        unfold insP
        rw [List.filter_cons_of_pos (by simpa using hk), List.filter_cons_of_neg (by simp; omega)]; rfl
      rw [e]
      show lo ≤ p.1 ∧ p.1 < hi ∧ Up (p.1 + 1) hi (keysP (insP l k v))
      exact ⟨a1, a2, ih a3 (by omega)⟩
    · have e : insP (p :: l) k v = (k, v) :: l := by
        unfold insP
        rw [List.filter_cons_of_neg (by simp; omega), List.filter_cons_of_neg (by simp; omega), filter_no (fun x hx => by have := hlt x hx; simp; omega), filter_all (fun x hx => by have := hlt x hx; simp; omega)]; rfl
      rw [e]
      show lo ≤ k ∧ k < hi ∧ Up (k + 1) hi (keysP l)
      exact ⟨h0, h1, by rw [← hk]; exact a3⟩
    · have e : insP (p :: l) k v = (k, v) :: p :: l := by
        unfold insP
        rw [List.filter_cons_of_neg (by simp; omega), List.filter_cons_of_pos (by simpa using hk), filter_no (fun x hx => by have := hlt x hx; simp; omega), filter_all (fun x hx => by have := hlt x hx; simp; omega)]; rfl
      rw [e]
      show lo ≤ k ∧ k < hi ∧ k + 1 ≤ p.1 ∧ p.1 < hi ∧ Up (p.1 + 1) hi (keysP l)
      exact ⟨h0, h1, by omega, a2, a3⟩
theorem Up.filter {l : List Pr} {lo hi : Int} {f : Pr → Bool} (h : Up lo hi (keysP l)) : Up lo hi (keysP (l.filter f)) := by
  induction l generalizing lo with
  | nil => trivial
  | cons p l ih =>
    obtain ⟨a1, a2, a3⟩ : lo ≤ p.1 ∧ p.1 < hi ∧ Up (p.1 + 1) hi (keysP l) := h
    cases hf : f p with
    | true => rw [List.filter_cons_of_pos hf]; exact ⟨a1, a2, ih a3⟩
    | false => rw [List.filter_cons_of_neg (by simp [hf])]; exact ih (a3.mono (by omega) (Int.le_refl _))
end Go.Proofs.Ytdglignjoojimaa
