/- The plain law of trees, part 6: the reference's loops. No program in sight. No conditions. -/
import Derived.Test.YtdglignjoojimaaT5
set_option linter.unusedVariables false
set_option linter.unusedSimpArgs false
namespace Go.Proofs.Ytdglignjoojimaa

theorem insP_gt {A : List Pr} {p : Pr} {k : Int} {v : Int × Int} (h : k < p.1) : insP (A ++ [p]) k v = insP A k v ++ [p] := by
  unfold insP
  rw [List.filter_append, List.filter_append, List.filter_cons_of_neg (by simp; omega), List.filter_cons_of_pos (by simpa using h)]
  simp
theorem insP_lt {A : List Pr} {k : Int} {v : Int × Int} (h : ∀ p ∈ A, p.1 < k) : insP A k v = A ++ [(k, v)] := by
  unfold insP
  rw [filter_all (fun x hx => by simpa using h x hx), filter_no (fun x hx => by have := h x hx; simp; omega)]
theorem insP_at {A : List Pr} {p : Pr} {k : Int} {v : Int × Int} (h : ∀ p ∈ A, p.1 < k) (hp : k ≤ p.1) : insP (A ++ [p]) k v = A ++ [(k, v)] ++ (if p.1 = k then [] else [p]) := by
  unfold insP
  rw [List.filter_append, List.filter_append, filter_all (l := A) (fun x hx => by simpa using h x hx), filter_no (l := A) (fun x hx => by have := h x hx; simp; omega),
    List.filter_cons_of_neg (by simp; omega)]
  split
  · rw [List.filter_cons_of_neg (by simp; omega)]; simp
  · rw [List.filter_cons_of_pos (by simp; omega)]; simp
theorem take_snoc {α : Type} (l : List α) (i : Nat) (hi : i < l.length) : l.take (i + 1) = l.take i ++ [l[i]] := List.take_succ_eq_append_getElem hi
theorem Up.behind {l : List Pr} {lo hi : Int} (h : Up lo hi (keysP l)) {i : Nat} (hi' : i < l.length) : ∀ q ∈ l.drop (i + 1), l[i].1 < q.1 := by
  intro q hq
  obtain ⟨j, hj, rfl⟩ := List.getElem_of_mem hq
  rw [List.getElem_drop]
  have hj' : i + 1 + j < l.length := by simp at hj; omega
  have := h.get_lt (i := i) (j := i + 1 + j) (by omega) (by simpa [keysP] using hj')
  simpa [keysP] using this
/-- The state of the reference's put behind some pairs. -/
def PutSt (l : List Pr) (k : Int) (v : Int × Int) (i : Nat) (b : Bool) (out : List Pr) : Prop :=
  (b = false → (∀ p ∈ l.take i, p.1 < k) ∧ out = l.take i) ∧ (b = true → (∀ p ∈ l.drop i, k < p.1) ∧ out = insP (l.take i) k v)
theorem PutSt.zero (l : List Pr) (k : Int) (v : Int × Int) : PutSt l k v 0 false [] := ⟨fun _ => ⟨by simp, by simp⟩, fun h => by cases h⟩
theorem PutSt.new {l : List Pr} {k lo hi : Int} {v : Int × Int} {i : Nat} {out : List Pr} (h : PutSt l k v i false out) (hu : Up lo hi (keysP l)) (hi' : i < l.length) (hp : k ≤ l[i].1) :
    PutSt l k v (i + 1) true (out ++ [(k, v)] ++ (if l[i].1 = k then [] else [l[i]])) := by
  obtain ⟨h1, rfl⟩ := h.1 rfl
  refine ⟨fun h => (by cases h), fun _ => ⟨fun q hq => (by have := hu.behind hi' q hq; omega), ?_⟩⟩
  rw [take_snoc l i hi', insP_at h1 hp]
theorem PutSt.less {l : List Pr} {k : Int} {v : Int × Int} {i : Nat} {out : List Pr} (h : PutSt l k v i false out) (hi' : i < l.length) (hp : l[i].1 < k) : PutSt l k v (i + 1) false (out ++ [l[i]]) := by
  obtain ⟨h1, rfl⟩ := h.1 rfl
  refine ⟨fun _ => ⟨fun q hq => ?_, (take_snoc l i hi').symm⟩, fun h => by cases h⟩
  rw [take_snoc l i hi'] at hq
  rcases List.mem_append.1 hq with hq | hq
  · exact h1 q hq
  · obtain rfl := List.mem_singleton.1 hq; exact hp
theorem PutSt.more {l : List Pr} {k : Int} {v : Int × Int} {i : Nat} {out : List Pr} (h : PutSt l k v i true out) (hi' : i < l.length) : k < l[i].1 ∧ PutSt l k v (i + 1) true (out ++ [l[i]]) := by
  obtain ⟨h1, rfl⟩ := h.2 rfl
  have hp := h1 l[i] (by rw [List.drop_eq_getElem_cons hi']; exact List.mem_cons_self)
  refine ⟨hp, fun h => (by cases h), fun _ => ⟨fun q hq => h1 q ?_, ?_⟩⟩
  · rw [List.drop_eq_getElem_cons hi']; exact List.mem_cons_of_mem _ hq
  · rw [take_snoc l i hi', insP_gt hp]
theorem PutSt.done {l : List Pr} {k : Int} {v : Int × Int} {out : List Pr} (h : PutSt l k v l.length true out) : out = insP l k v := by
  have := (h.2 rfl).2; rwa [List.take_length] at this
theorem PutSt.end_ {l : List Pr} {k : Int} {v : Int × Int} {out : List Pr} (h : PutSt l k v l.length false out) : out ++ [(k, v)] = insP l k v := by
  obtain ⟨h1, h2⟩ := h.1 rfl
  rw [List.take_length] at h1 h2
  rw [h2, insP_lt h1]
theorem Up.take_ {l : List Pr} {lo hi : Int} (h : Up lo hi (keysP l)) (i : Nat) : Up lo hi (keysP (l.take i)) := by
  have e : keysP l = keysP (l.take i) ++ keysP (l.drop i) := by rw [← List.take_append_drop i l]; simp [keysP]
  rw [e] at h
  exact h.left
theorem PutSt.len {l : List Pr} {k lo hi : Int} {v : Int × Int} {i : Nat} {b : Bool} {out : List Pr} (h : PutSt l k v i b out) (hu : Up lo hi (keysP l)) : out.length ≤ l.length + 1 := by
  cases b with
  | false => rw [(h.1 rfl).2, List.length_take]; omega
  | true =>
    rw [(h.2 rfl).2, insP_len (hu.take_ i), List.length_take]
    split <;> omega
theorem delP_snoc (l : List Pr) (k : Int) (i : Nat) (hi : i < l.length) : delP (l.take (i + 1)) k = delP (l.take i) k ++ (if l[i].1 = k then [] else [l[i]]) := by
  rw [take_snoc l i hi]
  unfold delP
  rw [List.filter_append, List.filter_cons]
  by_cases h : l[i].1 = k <;> simp [h]
theorem delP_le (l : List Pr) (k : Int) : (delP l k).length ≤ l.length := List.length_filter_le _ _
theorem rangeP_snoc (l : List Pr) (k to : Int) (i : Nat) (hi : i < l.length) : rangeP k to (l.take (i + 1)) = rangeP k to (l.take i) ++ (if k ≤ l[i].1 ∧ l[i].1 ≤ to then [l[i]] else []) := by
  rw [take_snoc l i hi]
  unfold rangeP
  rw [List.filter_append, List.filter_cons]
  by_cases h1 : k ≤ l[i].1 <;> by_cases h2 : l[i].1 ≤ to <;> simp [h1, h2]
theorem rangeP_le (l : List Pr) (k to : Int) : (rangeP k to l).length ≤ l.length := List.length_filter_le _ _
/-- What is done to a tree: what, a key, an extent. -/
structure Ac where
  k : Int
  key : Int
  s : Int
  l : Int
def stepP (l : List Pr) (a : Ac) : List Pr := if a.k = 0 then insP l a.key (a.s, a.l) else delP l a.key
def growP (acts : List Ac) : List Pr := acts.foldl stepP []
theorem growP_snoc (acts : List Ac) (i : Nat) (hi : i < acts.length) : growP (acts.take (i + 1)) = stepP (growP (acts.take i)) acts[i] := by
  rw [take_snoc acts i hi]; unfold growP; rw [List.foldl_append]; rfl
theorem Up.step {l : List Pr} {a : Ac} (h : Up 0 top (keysP l)) (h0 : 0 ≤ a.key) (h1 : a.key < top) : Up 0 top (keysP (stepP l a)) := by
  unfold stepP
  split
  · exact h.ins h0 h1
  · exact h.filter
theorem stepP_len {l : List Pr} {a : Ac} (h : Up 0 top (keysP l)) : (stepP l a).length ≤ l.length + 1 := by
  unfold stepP
  split
  · rw [insP_len h]; split <;> omega
  · have := delP_le l a.key; omega
theorem growP_ok : ∀ {acts : List Ac} (i : Nat), (∀ a ∈ acts, 0 ≤ a.key ∧ a.key < top) → i ≤ acts.length → Up 0 top (keysP (growP (acts.take i))) ∧ (growP (acts.take i)).length ≤ i
  | acts, 0, h, _ => ⟨trivial, by simp [growP]⟩
  | acts, i + 1, h, hi => by
    obtain ⟨a, b⟩ := growP_ok i h (by omega)
    rw [growP_snoc acts i (by omega)]
    have hk := h acts[i] (List.getElem_mem _)
    refine ⟨a.step hk.1 hk.2, ?_⟩
    have := stepP_len (a := acts[i]) a
    omega
theorem rangeP_all {l : List Pr} (h : Up 0 top (keysP l)) : rangeP 0 18446744073709551615 l = l := by
  unfold rangeP
  refine filter_all fun p hp => ?_
  have := h.mem (x := p.1) (List.mem_map.2 ⟨p, hp, rfl⟩)
  unfold top at this
  simp; omega
end Go.Proofs.Ytdglignjoojimaa
