/- The plain law of cover, part 2: each step of a map keeps each sector in one place. No program in sight. No conditions. -/
import Derived.Test.YtgnjocnbohbfaaaRQ3
import Derived.Test.YtgnjocnbohbfaaaRA8
set_option linter.unusedVariables false
set_option linter.unusedSimpArgs false
namespace Go.Proofs.YtgnjocnbohbfaaaR

def OkT (t : Int) (x : Ex) : Prop := 0 ≤ x.1 ∧ 1 ≤ x.2 ∧ x.1 + x.2 ≤ t
/-- Each sector of t lies in one extent: held (o), free (f) or waiting (l). -/
structure Cov (t : Int) (o f l : List Ex) : Prop where
  gf : Good f
  gl : Good l
  oo : ∀ x ∈ o, OkT t x
  of : ∀ x ∈ f, OkT t x
  ol : ∀ x ∈ l, OkT t x
  one : ∀ s, 0 ≤ s → s < t → cnt o s + cnt f s + cnt l s = 1
theorem OkT.ok {t : Int} {x : Ex} (h : OkT t x) (ht : t ≤ 1024) : OkE x := by unfold OkT at h; unfold OkE; omega
theorem far_of {t : Int} {e y : Ex} (he : OkT t e) (hy : OkT t y) (h : ∀ s, 0 ≤ s → s < t → inX s e = true → inX s y = true → False) : Far e y := by
  unfold Far
  unfold OkT at he hy
  rcases Int.lt_or_le e.1 (y.1 + y.2) with h1 | h1
  · rcases Int.lt_or_le y.1 (e.1 + e.2) with h2 | h2
    · exfalso
      rcases Int.le_total e.1 y.1 with h3 | h3
      · exact h y.1 (by omega) (by omega) (inX_iff.2 ⟨by omega, by omega⟩) (inX_iff.2 ⟨by omega, by omega⟩)
      · exact h e.1 (by omega) (by omega) (inX_iff.2 ⟨by omega, by omega⟩) (inX_iff.2 ⟨by omega, by omega⟩)
    · exact .inr h2
  · exact .inl h1
theorem putL_okT {t : Int} (ht : t ≤ 1024) {e : Ex} {l : List Ex} (he : OkT t e) (hG : Good l) (hF : ∀ x ∈ l, Far e x) (hl : ∀ x ∈ l, OkT t x) : ∀ x ∈ putL e l, OkT t x := by
  have hm : ∀ (L : List Ex) (i : Nat), (∀ x ∈ L, OkT t x) → ∀ x ∈ mR L i, OkT t x := fun L i hL => by
    rcases mR_cases L i with e | ⟨A, x, y, B, rfl, _, hxy, e⟩
    · rw [e]; exact hL
    · rw [e]
      intro z hz
      have hx := hL x (by simp)
      have hy := hL y (by simp)
      simp only [List.mem_append, List.mem_cons] at hz
      rcases hz with hz | rfl | hz
      · exact hL z (by simp [hz])
      · unfold OkT at hx hy ⊢; simp only; omega
      · exact hL z (by simp [hz])
  unfold putL
  rw [ins_eq]
  have h0 : ∀ x ∈ ins e l, OkT t x := fun x hx => by
    rcases ins_mem.1 hx with rfl | hx
    · exact he
    · exact hl x hx
  have h1 := hm _ (insI e l) h0
  rcases Nat.eq_zero_or_pos (insI e l) with h | h
  · have : mL (mR (ins e l) (insI e l)) (insI e l) = mR (ins e l) (insI e l) := by
      rw [h]; unfold mL; rw [dif_neg (by omega)]
    rw [this]; exact h1
  · rw [mL_eq _ _ h]; exact hm _ _ h1
theorem cutL_okT {t : Int} {e : Ex} {f : List Ex} (ht : t ≤ 1024) (he : OkE e) (hf : ∀ x ∈ f, OkT t x) : ∀ x ∈ cutL e f, OkT t x := by
  intro y hy
  obtain ⟨x, hx, hy⟩ := List.mem_flatMap.1 hy
  have h1 := hf x hx
  have h2 := cut1_in he (h1.ok ht) hy
  unfold OkT OkE at *
  omega
theorem Cov.new {t : Int} (h0 : 0 ≤ t) (h1 : t ≤ 1024) : Cov t [] (newL t) [] := by
  have hc : clampT t = t := by unfold clampT; split <;> split at * <;> omega
  unfold newL
  rw [hc]
  split
  · exact ⟨⟨fun x hx => by simp at hx; subst hx; unfold OkE; simp only; omega, by simp⟩, ⟨by simp, by simp⟩, by simp, fun x hx => by simp at hx; subst hx; unfold OkT; simp only; omega, by simp,
      fun s k0 k1 => by simp [cnt_cons, cnt_nil, inX_iff, k0, k1]⟩
  · exact ⟨⟨by simp, by simp⟩, ⟨by simp, by simp⟩, by simp, by simp, by simp, fun s k0 k1 => by omega⟩
theorem Cov.alloc {t n er : Int} {o f l f' : List Ex} {e : Ex} (h : Cov t o f l) (ht : t ≤ 1024) (hP : AllocP n f e er f') : (er = 0 → Cov t (o ++ [e]) f' l) ∧ (er ≠ 0 → Cov t o f' l) := by
  rcases hP with ⟨_, _, rfl, rfl⟩ | ⟨_, _, _, rfl, rfl⟩ | ⟨h1, rfl, x, hx, _, rfl, rfl⟩
  · exact ⟨fun h => by omega, fun _ => h⟩
  · exact ⟨fun h => by omega, fun _ => h⟩
  · refine ⟨fun _ => ?_, fun h => absurd rfl h⟩
    have hxt := h.of x hx
    have hO : OkT t (x.1, if n < x.2 then n else x.2) := by unfold OkT at *; simp only; split <;> omega
    have hle : (if n < x.2 then n else x.2) ≤ x.2 := by split <;> omega
    generalize (if n < x.2 then n else x.2) = m at *
    have hOE := hO.ok ht
    refine ⟨h.gf.cut hOE, h.gl, fun y hy => ?_, cutL_okT ht hOE h.of, h.ol, fun s k0 k1 => ?_⟩
    · rcases List.mem_append.1 hy with hy | hy
      · exact h.oo y hy
      · obtain rfl := List.mem_singleton.1 hy
        exact hO
    · have c1 := cnt_cut hOE (x := x) (by simp) (by simp only; omega) s h.gf hx
      have := h.one s k0 k1
      rw [cnt_app, cnt_cons, cnt_nil]
      omega
theorem Cov.all {t n er : Int} {o f l out f' : List Ex} (h : Cov t o f l) (ht : t ≤ 1024) (hP : AllP n f er out f') : Cov t (o ++ out) f' l := by
  rcases hP with ⟨_, _, rfl, rfl⟩ | ⟨_, _, n', hn', hA⟩
  · simpa using h
  · clear hn'
    induction hA with
    | nil => simpa using h
    | snoc _ _ ha ih => rw [← List.append_assoc]; exact (ih.alloc ht ha).1 rfl
theorem takenB_of {t : Int} {e : Ex} {f l : List Ex} (ht : t ≤ 1024) (he : OkT t e) (hf : ∀ x ∈ f, OkT t x) (hl : ∀ x ∈ l, OkT t x) (hF : ∀ x ∈ f, Far e x) (hL : ∀ x ∈ l, Far e x) : takenB t e.1 e.2 f l = true := by
  have hm : ∀ L : List Ex, (∀ x ∈ L, OkT t x) → (∀ x ∈ L, Far e x) → meetsB e.1 e.2 L = false := fun L h1 h2 => by
    unfold meetsB
    rw [List.any_eq_false]
    intro x hx
    have k1 := h1 x hx
    have k2 := h2 x hx
    unfold OkT at k1 he
    unfold Far at k2
    simp only
    rw [wrap_id (by omega) (by omega), wrap_id (by omega) (by omega)]
    simp only [Bool.and_eq_true, decide_eq_true_eq, not_and]
    omega
  unfold takenB
  rw [hm f hf hF, hm l hl hL]
  unfold OkT at he
  unfold thereB
  rw [wrap_id (by omega) (by omega)]
  simp
  omega
theorem Cov.far {t : Int} {o f l : List Ex} {e : Ex} (h : Cov t (e :: o) f l) : OkT t e ∧ (∀ x ∈ f, Far e x) ∧ (∀ x ∈ l, Far e x) := by
  have he := h.oo e (by simp)
  refine ⟨he, fun x hx => far_of he (h.of x hx) fun s k0 k1 k2 k3 => ?_, fun x hx => far_of he (h.ol x hx) fun s k0 k1 k2 k3 => ?_⟩
  · have := h.one s k0 k1
    have := cnt_pos hx k3
    rw [cnt_cons, if_pos k2] at *
    omega
  · have := h.one s k0 k1
    have := cnt_pos hx k3
    rw [cnt_cons, if_pos k2] at *
    omega
theorem Cov.free {t : Int} {o f l : List Ex} {e : Ex} (h : Cov t (e :: o) f l) (ht : t ≤ 1024) : takenB t e.1 e.2 f l = true ∧ Cov t o (putL e f) l := by
  obtain ⟨he, hF, hL⟩ := h.far
  refine ⟨takenB_of ht he h.of h.ol hF hL, h.gf.put (he.ok ht) hF, h.gl, fun x hx => h.oo x (List.mem_cons_of_mem _ hx), putL_okT ht he h.gf hF h.of, h.ol, fun s k0 k1 => ?_⟩
  have := h.one s k0 k1
  rw [cnt_put (he.ok ht) h.gf hF]
  rw [cnt_cons] at this
  omega
theorem Cov.later {t : Int} {o f l : List Ex} {e : Ex} (h : Cov t (e :: o) f l) (ht : t ≤ 1024) : takenB t e.1 e.2 f l = true ∧ Cov t o f (putL e l) := by
  obtain ⟨he, hF, hL⟩ := h.far
  refine ⟨takenB_of ht he h.of h.ol hF hL, h.gf, h.gl.put (he.ok ht) hL, fun x hx => h.oo x (List.mem_cons_of_mem _ hx), h.of, putL_okT ht he h.gl hL h.ol, fun s k0 k1 => ?_⟩
  have := h.one s k0 k1
  rw [cnt_put (he.ok ht) h.gl hL]
  rw [cnt_cons] at this
  omega
theorem Cov.step {t : Int} {o f l : List Ex} {e : Ex} (h : Cov t o f (e :: l)) (ht : t ≤ 1024) : Cov t o (putL e f) l := by
  have he := h.ol e (by simp)
  have hF : ∀ x ∈ f, Far e x := fun x hx => far_of he (h.of x hx) fun s k0 k1 k2 k3 => by
    have := h.one s k0 k1
    have := cnt_pos hx k3
    rw [cnt_cons e l, if_pos k2] at *
    omega
  refine ⟨h.gf.put (he.ok ht) hF, h.gl.tail, h.oo, putL_okT ht he h.gf hF h.of, fun x hx => h.ol x (List.mem_cons_of_mem _ hx), fun s k0 k1 => ?_⟩
  have := h.one s k0 k1
  rw [cnt_put (he.ok ht) h.gf hF]
  rw [cnt_cons] at this
  omega
theorem Cov.commit {t : Int} {o f : List Ex} (ht : t ≤ 1024) : ∀ {l : List Ex} {f : List Ex}, Cov t o f l → ∀ i, Cov t o (putAll f (l.take i)) (l.drop i)
  | l, f, h, 0 => by simpa [putAll] using h
  | [], f, h, i + 1 => by simpa [putAll] using h
  | e :: l, f, h, i + 1 => by
    have := Cov.commit (o := o) (f := f) ht (h.step ht) i
    simpa [putAll] using this
end Go.Proofs.YtgnjocnbohbfaaaR
