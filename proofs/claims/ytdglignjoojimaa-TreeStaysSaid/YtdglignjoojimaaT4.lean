/- The plain law of trees, part 4: what is found; whole trees. No program in sight. No conditions. -/
import Derived.Test.YtdglignjoojimaaT3
set_option linter.unusedVariables false
set_option linter.unusedSimpArgs false
namespace Go.Proofs.Ytdglignjoojimaa

def lookP (l : List Pr) (k : Int) : Option (Int × Int) := (l.find? (fun p => decide (p.1 = k))).map (fun p => p.2)
def getT : Nat → Tr → Int → Option (Int × Int)
  | 0, .leaf l, k => if (keysP l)[lb (keysP l) k]? = some k then (l[lb (keysP l) k]?).map (fun p => p.2) else none
  | d + 1, .node ks ts, k => match ts[ub ks k]? with
    | none => none
    | some x => getT d x k
  | _, _, _ => none
theorem getT_0 (l : List Pr) (k : Int) : getT 0 (.leaf l) k = if (keysP l)[lb (keysP l) k]? = some k then (l[lb (keysP l) k]?).map (fun p => p.2) else none := rfl
theorem getT_s (d : Nat) (ks : List Int) (ts : List Tr) (k : Int) : getT (d + 1) (.node ks ts) k = match ts[ub ks k]? with
    | none => none
    | some x => getT d x k := rfl
theorem find_none_left {A B : List Pr} {k : Int} (h : ∀ p ∈ A, p.1 ≠ k) : (A ++ B).find? (fun p => decide (p.1 = k)) = B.find? (fun p => decide (p.1 = k)) := by
  rw [List.find?_append, List.find?_eq_none.2 (fun x hx => by simpa using h x hx)]; rfl
theorem lookP_mid {A B C : List Pr} {k : Int} (hA : ∀ p ∈ A, p.1 ≠ k) (hC : ∀ p ∈ C, p.1 ≠ k) : lookP (A ++ B ++ C) k = lookP B k := by
  unfold lookP
  rw [List.append_assoc, find_none_left hA, List.find?_append, List.find?_eq_none (l := C) |>.2 (fun x hx => by simpa using hC x hx)]
  cases B.find? (fun p => decide (p.1 = k)) <;> rfl
theorem get_ok : ∀ {d : Nat} {t : Tr} {lo hi k : Int}, In d lo hi t → lo ≤ k → k < hi → getT d t k = lookP (flat d t) k
  | 0, .leaf l, lo, hi, k, h, h0, h1 => by
    obtain ⟨c1, c2, c3⟩ := leaf_cut (k := k) h
    rw [getT_0, flat_0]
    by_cases hf : (keysP l)[lb (keysP l) k]? = some k
    · rw [if_pos hf]
      obtain ⟨v, e1, e2⟩ := c2 hf
      have hg : l[lb (keysP l) k]? = some (k, v) := by
        have := congrArg (fun x => x[0]?) e1
        simpa using this
      rw [hg]
      conv => rhs; rw [← List.take_append_drop (lb (keysP l) k) l, e1]
      rw [show l.take (lb (keysP l) k) ++ (k, v) :: l.drop (lb (keysP l) k + 1) = l.take (lb (keysP l) k) ++ [(k, v)] ++ l.drop (lb (keysP l) k + 1) by simp,
        lookP_mid (fun p hp => by have := c1 p hp; omega) (fun p hp => by have := e2 p hp; omega)]
      simp [lookP]
    · rw [if_neg hf]
      have e2 := c3 hf
      symm
      unfold lookP
      rw [List.find?_eq_none.2]
      · rfl
      · intro p hp
        have hp' : p ∈ l.take (lb (keysP l) k) ++ l.drop (lb (keysP l) k) := by rw [List.take_append_drop]; exact hp
        rcases List.mem_append.1 hp' with hp | hp
        · have := c1 p hp; simp; omega
        · have := e2 p hp; simp; omega
  | d + 1, .node ks ts, lo, hi, k, h, h0, h1 => by
    have h : Ch (In d) lo hi ks ts := h
    obtain ⟨A, x, B, lo', hi', e, f⟩ := h.foc (ub_le ks k)
    subst e
    obtain ⟨hA, hB⟩ := f.key k rfl h0 h1
    have hat := f.at_
    have hget : (A ++ x :: B)[ub ks k]? = some x := by rw [List.getElem?_append_right (by omega), hat]; simp
    rw [getT_s, flat_s]
    simp only [hget]
    rw [get_ok f.one hA hB, List.flatMap_append, List.flatMap_cons, ← List.append_assoc]
    symm
    refine lookP_mid (fun p hp => ?_) (fun p hp => ?_)
    · have := flat_side (k := lo') (fun a ha => let ⟨l1, l2, _, q, r⟩ := f.left a ha; ⟨l1, l2, q, r⟩) hp
      omega
    · have := flat_side' (k := hi') (fun a ha => let ⟨l1, l2, q, _, r⟩ := f.right a ha; ⟨l1, l2, q, r⟩) hp
      omega

abbrev top : Int := 18446744073709551616
/-- A whole tree of some pairs. -/
structure TOk (d : Nat) (t : Tr) (l : List Pr) : Prop where
  in_ : In d 0 top t
  kids : Kd d t
  few : nk t ≤ 7
  some_ : d ≠ 0 → 1 ≤ nk t
  flat_ : flat d t = l
theorem TOk.up {d : Nat} {t : Tr} {l : List Pr} (h : TOk d t l) : Up 0 top (keysP l) := by have := h.in_.up; rwa [h.flat_] at this
theorem TOk.new : TOk 0 (.leaf []) [] := ⟨trivial, trivial, by decide, fun h => absurd rfl h, rfl⟩
/-- One tree, or a root over two. -/
def rootT (d : Nat) : Tr × Option (Int × Tr) → Nat × Tr
  | (t, none) => (d, t)
  | (t, some (b, m)) => (d + 1, .node [b] [t, m])
theorem TOk.put {d : Nat} {t : Tr} {l : List Pr} {k : Int} {v : Int × Int} (h : TOk d t l) (h0 : 0 ≤ k) (h1 : k < top) : TOk (rootT d (putT d t k v)).1 (rootT d (putT d t k v)).2 (insP l k v) := by
  have p := put_ok (v := v) h.in_ h.kids h.few h0 h1
  rw [h.flat_] at p
  generalize putT d t k v = q at p
  obtain ⟨t', o⟩ := q
  cases o with
  | none =>
    obtain ⟨p1, p2, p3, p4, p5⟩ := p
    exact ⟨p1, p2, p4, fun hd => Nat.le_trans (h.some_ hd) p3, p5⟩
  | some x =>
    obtain ⟨b, m⟩ := x
    obtain ⟨p1, p2, p3, p4, p5, p6, p7⟩ := p
    refine ⟨⟨t', [m], rfl, p1, p2, p3, m, rfl, p4⟩, fun x hx => ?_, by show [b].length ≤ 7; simp, fun _ => by show 1 ≤ [b].length; simp, ?_⟩
    · rcases List.mem_cons.1 hx with rfl | hx
      · exact p5
      · obtain rfl := List.mem_singleton.1 hx; exact p6
    · show [t', m].flatMap (flat d) = _
      simpa using p7
theorem TOk.del {d : Nat} {t : Tr} {l : List Pr} {k : Int} (h : TOk d t l) (h0 : 0 ≤ k) (h1 : k < top) :
    ((d = 0 ∨ 1 ≤ nk (delT d t k)) ∧ TOk d (delT d t k) (delP l k)) ∨ ∃ d' x, d = d' + 1 ∧ delT d t k = .node [] [x] ∧ TOk d' x (delP l k) := by
  obtain ⟨p1, p2, p3, p4, p5⟩ := del_ok h.in_ h.kids h.few h.some_ h0 h1
  rw [h.flat_] at p5
  by_cases hd : d = 0 ∨ 1 ≤ nk (delT d t k)
  · left
    exact ⟨hd, p1, p2, p3, fun hd' => hd.resolve_left hd', p5⟩
  · right
    simp only [not_or] at hd
    obtain ⟨hd0, hn⟩ := hd
    cases d with
    | zero => exact absurd rfl hd0
    | succ d =>
      generalize delT (d + 1) t k = q at *
      cases q with
      | leaf l => exact absurd p1 (by simp [In])
      | node ks ts =>
        have hks : ks = [] := List.eq_nil_of_length_eq_zero (by have : ¬ 1 ≤ ks.length := hn; omega)
        subst hks
        obtain ⟨x, e, hx⟩ := p1
        subst e
        have hk := p2 x (by simp)
        refine ⟨d, x, rfl, rfl, hx, hk.2.2, hk.2.1, fun _ => by omega, ?_⟩
        have p5 : [x].flatMap (flat d) = delP l k := p5
        simpa using p5

/-! ### How many -/
theorem insP_len {l : List Pr} {k lo hi : Int} {v : Int × Int} (h : Up lo hi (keysP l)) : (insP l k v).length = if (lookP l k).isSome then l.length else l.length + 1 := by
  obtain ⟨c1, c2, c3⟩ := leaf_cut (k := k) h
  by_cases hf : (keysP l)[lb (keysP l) k]? = some k
  · obtain ⟨u, e1, e2⟩ := c2 hf
    have hlt : lb (keysP l) k < l.length := by
      have := (List.getElem?_eq_some_iff.1 hf).1
      simpa [keysP] using this
    have hl : l = l.take (lb (keysP l) k) ++ [(k, u)] ++ l.drop (lb (keysP l) k + 1) := by
      conv => lhs; rw [← List.take_append_drop (lb (keysP l) k) l, e1]
      simp
    have hs : (lookP l k).isSome = true := by
      rw [hl, lookP_mid (fun p hp => by have := c1 p hp; omega) (fun p hp => by have := e2 p hp; omega)]
      simp [lookP]
    rw [if_pos hs]
    conv => lhs; rw [hl]
    rw [insP_mid c1 e2]
    simp [insP]; omega
  · have e2 := c3 hf
    have hl : l = l.take (lb (keysP l) k) ++ [] ++ l.drop (lb (keysP l) k) := by simp
    have hs : (lookP l k).isSome = false := by
      rw [hl, lookP_mid (fun p hp => by have := c1 p hp; omega) (fun p hp => by have := e2 p hp; omega)]
      simp [lookP]
    rw [if_neg (by rw [hs]; simp)]
    conv => lhs; rw [hl]
    rw [insP_mid c1 e2]
    have := lb_le (keysP l) k
    simp [insP, keysP] at this ⊢; omega
theorem delP_no {l : List Pr} {k : Int} (h : (lookP l k).isSome = false) : delP l k = l := by
  unfold delP
  refine filter_all fun p hp => ?_
  unfold lookP at h
  rw [Option.isSome_map] at h
  have h3 : ¬ p.1 = k := fun e => by
    have := List.find?_isSome (p := fun p => decide (p.1 = k)) (xs := l) |>.2 ⟨p, hp, by simpa using e⟩
    rw [h] at this; cases this
  simpa using h3
theorem delP_len {l : List Pr} {k lo hi : Int} (h : Up lo hi (keysP l)) (hs : (lookP l k).isSome = true) : (delP l k).length + 1 = l.length := by
  induction l generalizing lo with
  | nil => simp [lookP] at hs
  | cons p l ih =>
    obtain ⟨a1, a2, a3⟩ : lo ≤ p.1 ∧ p.1 < hi ∧ Up (p.1 + 1) hi (keysP l) := h
    have hlt : ∀ q ∈ l, p.1 < q.1 := fun q hq => by
      have := a3.mem (x := q.1) (List.mem_map.2 ⟨q, hq, rfl⟩); omega
    by_cases hk : p.1 = k
    · have : delP (p :: l) k = l := by
        unfold delP
        rw [List.filter_cons_of_neg (by simpa using hk), filter_all (fun x hx => by have := hlt x hx; simp; omega)]
      rw [this]; simp
    · have e : delP (p :: l) k = p :: delP l k := by unfold delP; rw [List.filter_cons_of_pos (by simpa using hk)]
      have hs' : (lookP l k).isSome = true := by
        unfold lookP at hs ⊢
        rw [List.find?_cons_of_neg (by simpa using hk)] at hs; exact hs
      rw [e]
      simp [ih a3 hs']
end Go.Proofs.Ytdglignjoojimaa
