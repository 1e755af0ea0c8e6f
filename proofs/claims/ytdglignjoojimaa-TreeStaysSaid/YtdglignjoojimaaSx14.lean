/- From a contract to a row: what an argument reads, and what the call has left. No conditions. -/
import Derived.Test.YtdglignjoojimaaSx13
import Derived.ProofKit
set_option linter.unusedVariables false
namespace Go.Proofs.Ytdglignjoojimaa

def hpW (W : World) : Hp := fun b => W.heap[b]?
/-- The old blocks are as they were. -/
structure Same (W w : World) : Prop where
  size : W.heap.size ≤ w.heap.size
  old : ∀ b, b < W.heap.size → w.heap[b]? = W.heap[b]?
  os : w.os = W.os
  out : w.output = W.output
theorem Con.at_world {P : Program} {f : FuncId} {args : List Value} {W : World} {post : Value → Hp → Bl → Prop} (c : Con P f args (hpW W) [] post) :
    Calls P f args.toArray W (fun e w => ∃ v h' nb, e = .returned v ∧ Same W w ∧ post v h' nb) :=
  (c W ⟨Nat.le_refl _, fun _ _ _ => rfl, rfl, rfl, rfl, fun _ _ k => k, fun _ _ k => .inl k, fun _ _ k => k, fun p hp => by simp at hp, by simp⟩).mono
    fun e w ⟨v, h', nb, he, hr, hq⟩ => ⟨v, h', nb, he, ⟨hr.size, fun b hb => hr.frame b hb (by simp), hr.os, hr.output⟩, hq⟩
theorem Same.kept {W w : World} (s : Same W w) (may : MemPlace → Prop) : W.keptBut w may := by
  refine ⟨s.os, s.out, fun i hi => ?_⟩
  rw [s.old i hi]
  cases h : W.heap[i]? with
  | none => rfl
  | some o => cases o <;> first | exact ⟨rfl, rfl, rfl, fun _ _ => rfl⟩ | exact .inr ⟨rfl, rfl⟩ | rfl
theorem Same.at_ {W w : World} (s : Same W w) {p : MemPlace} (hp : p.block < W.heap.size) : W.sameAt w p := by
  cases p with
  | cell b off => show w.cell? _ = W.cell? _; unfold World.cell?; simp only; rw [s.old b hp]
  | map b => exact s.old b hp

section
variable {H : Type} {enc : TypeId × Value → H} {P : Program}
theorem trodAll_carry {w w' : World} {base : Nat} {spare : Nat → Bool} {held : Bool} : ∀ {ts : List TypeId} {vs : List Value} {ds : List (DataW H)} {ps : List MemPlace},
    DataW.TrodAll enc P w base spare held ts vs ds ps → (∀ p ∈ ps, w.sameAt w' p) → DataW.TrodAll enc P w' base spare held ts vs ds ps
  | [], [], [], _, h, _ => h
  | _ :: _, _ :: _, _ :: _, _, ⟨p, q, ⟨n, h1⟩, h2, e⟩, hs =>
    ⟨p, q, ⟨n, DataW.trod_carry n _ _ _ h1 (fun x hx => hs x (by rw [e]; exact List.mem_append_left _ hx))⟩, trodAll_carry h2 (fun x hx => hs x (by rw [e]; exact List.mem_append_right _ hx)), e⟩

/-- The row's end where the call has only read what came in. -/
theorem post_read {f : Func} {s : ChangeSpec} {W W' : World} {args : Array Value} {v : Value} {ds : List (DataW H)} {p : List MemPlace} {T : TypeId → Prop}
    (hW : DataW.Whole enc P f.params.toList s.vars false W args.toList ds [] p) (hA : DataW.TrodAll enc P W 0 (fun _ => true) true f.params.toList args.toList ds p)
    (K : Go.Kids P T) (hz : ∀ t e, T t → P.underlying t = some (.slice e) → 0 < P.cellsOf e) (hT : ∀ t ∈ f.params.toList, T t) (hS : Same W W')
    (hres : DataW.TrodAll enc P W' W.heap.size (fun _ => false) false f.resultTypes.toList (v.resultList f.resultTypes.size) (s.fn H (ds ++ [])).results [])
    (hargs : (s.fn H (ds ++ [])).args = ds) (hvars : ∀ sp, DataW.TrodVars enc P W' sp s.vars (s.fn H (ds ++ [])).vars []) :
    s.post enc P f false true false false W args v W' := by
  have hlt : ∀ x ∈ p, x.block < W.heap.size := fun x hx => hW.lt x hx
  refine ⟨ds, [], p, [], p, [], hW, hres, ?_, hvars _, hS.kept _, fun h => by cases h⟩
  rw [hargs]
  exact DataW.TrodAll.respare K hz hT (trodAll_carry hA (fun x hx => hS.at_ (hlt x hx))) (fun x hx => by simpa using hlt x hx)

/-- A slice of things laid in cells, read. -/
theorem cellsW {W : World} : ∀ {cs : List Value} {b off : Nat}, (∀ i v, cs[i]? = some v → W.cell? ⟨b, off + i, none⟩ = some v) → Cells (hpW W) [] b off cs
  | [], _, _, _ => trivial
  | v :: cs, b, off, h => by
    refine ⟨?_, cellsW fun i v hv => by have := h (i + 1) v (by simpa using hv); rwa [show off + (i + 1) = off + 1 + i by omega] at this⟩
    have h0 := h 0 v rfl
    unfold World.cell? at h0
    split at h0
    · rename_i c T fz hb
      exact ⟨c, T, fz, .inl hb, by simpa using h0⟩
    · simp at h0
open Go.ChangeShapes Go.WideShapes in
theorem open_enc {α : Type} {en : α → List Value} {sz : Nat} (E : Enc en sz) (hz : 0 < sz) {W : World} {sp : Nat → Bool} {held : Bool} {t e : TypeId} {r : Reach} {b0 : Nat} {v : Value} {d : DataW H} {ps : List MemPlace}
    (ht : P.underlying t = some (.slice e)) (hsz : P.cellsOf e = sz) (hval : Value.okWide P W r b0 t v)
    (hd : ∀ n cs x, DataW.trod enc P W 0 sp held n e cs = some x → ∃ a, cs = en a) (h : DataW.Trod enc P W 0 sp held t v d ps) : ∃ l : List α, SlR (hpW W) [] v l.length (l.flatMap en) sz := by
  obtain ⟨fuel, hf⟩ := h
  obtain ⟨A, n, cap, rfl⟩ : ∃ A n cap, v = .slice A n cap := okWide_slice ht hval
  rcases DataW.trod_slice ht hf with ⟨h0, _⟩ | ⟨a, len, cap', elems, rest, n', _, h0, _, hb, hl, hm, hlen, hel, _, _⟩
  · simp [Value.cells] at h0
    obtain ⟨rfl, rfl, rfl⟩ := h0
    exact ⟨[], none, 0, rfl, Nat.le_refl _, by omega, by simp, fun h => absurd h (by simp)⟩
  · simp [Value.cells] at h0
    obtain ⟨rfl, rfl, rfl⟩ := h0
    have each : ∀ i, i < n → ∃ x : α, W.cells? 0 (a.add (i * sz)) sz = some (en x) := fun i hi => by
      have h1 := hel i hi
      rw [hsz, List.getElem?_eq_getElem (by omega), Option.bind_eq_some_iff] at h1
      obtain ⟨cs, h1, h2⟩ := h1
      obtain ⟨x, rfl⟩ := hd _ _ _ h2
      exact ⟨x, h1⟩
    have build : ∀ m, m ≤ n → ∃ l : List α, l.length = m ∧ ∀ i (hi : i < l.length), W.cells? 0 (a.add (i * sz)) sz = some (en l[i]) := by
      intro m
      induction m with
      | zero => exact fun _ => ⟨[], rfl, fun i hi => by simp at hi⟩
      | succ m ih =>
        intro hm
        obtain ⟨l, hl, hc⟩ := ih (by omega)
        obtain ⟨x, hx⟩ := each m (by omega)
        refine ⟨l ++ [x], by simp [hl], fun i hi => ?_⟩
        rcases Nat.lt_or_ge i l.length with h' | h'
        · rw [List.getElem_append_left h']; exact hc i h'
        · obtain rfl : i = l.length := by simp at hi; omega
          rw [List.getElem_append_right (Nat.le_refl _)]
          simp only [Nat.sub_self, List.getElem_cons_zero]
          rw [hl]; exact hx
    obtain ⟨l, hln, hc⟩ := build n (Nat.le_refl _)
    refine ⟨l, some a, cap, by rw [hln], by omega, hm, E.flat_len l, fun hpos => ?_⟩
    have addn : ∀ (b o m : Nat), (⟨b, o, none⟩ : Addr).add m = ⟨b, o + m, none⟩ := fun b o m => by
      unfold Addr.add
      split
      · rename_i h; subst h; rfl
      · rfl
    have hsp : a.spot = none := by
      have h1 := (World.cells?_some (hc 0 hpos)).2.2 0 hz
      rw [List.getElem?_eq_getElem (by rw [E.len]; exact hz), Nat.zero_mul] at h1
      have e0 : (a.add 0).add 0 = a := rfl
      rw [e0] at h1
      unfold World.cell? at h1
      split at h1
      · cases hs : a.spot with
        | none => rfl
        | some q => rw [hs] at h1; simp at h1
      · simp at h1
    obtain ⟨ab, ao, as'⟩ := a
    simp only at hsp
    subst hsp
    refine ⟨ab, ao, rfl, cellsW fun k u hk => ?_⟩
    have hkl : k < l.length * sz := by
      have := (List.getElem?_eq_some_iff.1 hk).1
      rwa [E.flat_len] at this
    have hi : k / sz < l.length := Nat.div_lt_of_lt_mul (by rwa [Nat.mul_comm] at hkl)
    have hr : k % sz < sz := Nat.mod_lt _ hz
    have h1 := (World.cells?_some (hc (k / sz) hi)).2.2 (k % sz) hr
    have h2 := E.flat_at l (k / sz) hi
    have h3 : (en l[k / sz])[k % sz]? = some u := by
      rw [← h2, List.getElem?_take_of_lt hr, List.getElem?_drop, Nat.div_add_mod' k sz]
      exact hk
    rw [h3, addn, addn, Nat.add_assoc, Nat.div_add_mod' k sz] at h1
    exact h1
end
end Go.Proofs.Ytdglignjoojimaa
