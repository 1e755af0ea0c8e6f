/- Contracts of package extent, part 4: put. No conditions. -/
import Derived.Test.YtgnjocnbohbfaaaRA4
set_option linter.unusedVariables false
namespace Go.Proofs.YtgnjocnbohbfaaaR

def insI (e : Ex) (l : List Ex) : Nat := (l.takeWhile (fun x => decide (x.1 < e.1))).length
theorem insI_le (e : Ex) (l : List Ex) : insI e l ≤ l.length := (List.takeWhile_sublist _).length_le
theorem insI_of {e : Ex} : ∀ {l : List Ex} {i : Nat}, i ≤ l.length → (∀ j (hj : j < l.length), j < i → l[j].1 < e.1) → (∀ hi : i < l.length, ¬ l[i].1 < e.1) → insI e l = i
  | [], i, h1, _, _ => by simp at h1; simp [insI, h1]
  | x :: l, 0, _, _, h3 => by
    have := h3 (by simp)
    simp at this
    simp [insI, List.takeWhile_cons, Int.not_lt.2 this]
  | x :: l, i + 1, h1, h2, h3 => by
    have h0 := h2 0 (by simp) (by omega)
    have ih := insI_of (e := e) (l := l) (i := i) (by simpa using h1) (fun j hj hji => by have := h2 (j + 1) (by simpa using hj) (by omega); rwa [List.getElem_cons_succ] at this) (fun hi => by have := h3 (by simpa using hi); rwa [List.getElem_cons_succ] at this)
    simp at h0
    simp only [insI] at ih ⊢
    simp [List.takeWhile_cons, h0, ih]
def mR (L : List Ex) (i : Nat) : List Ex :=
  if h : i + 1 < L.length then
    if (L[i]'(by omega)).1 + (L[i]'(by omega)).2 = L[i + 1].1 then (L.set i ((L[i]'(by omega)).1, (L[i]'(by omega)).2 + L[i + 1].2)).eraseIdx (i + 1) else L
  else L
def mL (L : List Ex) (i : Nat) : List Ex :=
  if h : 0 < i ∧ i < L.length then
    if (L[i - 1]'(by omega)).1 + (L[i - 1]'(by omega)).2 = (L[i]'(by omega)).1 then (L.set (i - 1) ((L[i - 1]'(by omega)).1, (L[i - 1]'(by omega)).2 + (L[i]'(by omega)).2)).eraseIdx i else L
  else L
def putL (e : Ex) (l : List Ex) : List Ex := mL (mR (l.take (insI e l) ++ [e] ++ l.drop (insI e l)) (insI e l)) (insI e l)
theorem end_ok2 (s n : Int) (h : Hp) (h0 : 0 ≤ s) (h1 : 0 ≤ n) (h2 : s + n ≤ 4096) : Con Try.prog 22 [xt s n] h [] (fun v h' nb => v = .int .i64 (s + n) ∧ h = h' ∧ nb = []) :=
  (end_con s n h).mono fun v h' nb ⟨e1, e2, e3⟩ => ⟨by rw [e1, wrap_id (by omega) (by omega)], e2, e3⟩
theorem xcs_set (y : Int) : ∀ (L : List Ex) (i : Nat) (sp : List Value) (hi : i < L.length), (xcs L ++ sp).set (0 + i * 2 + 1) (.int .i64 y) = xcs (L.set i (L[i].1, y)) ++ sp
  | x :: L, 0, sp, _ => by simp [xcs, xc]
  | x :: L, i + 1, sp, hi => by
    have ih := xcs_set y L i sp (by simpa using hi)
    rw [show 0 + (i + 1) * 2 + 1 = (0 + i * 2 + 1) + 1 + 1 by omega]
    simp only [xcs, List.flatMap_cons, xc, List.cons_append, List.nil_append, List.set_cons_succ, List.getElem_cons_succ] at ih ⊢
    rw [ih]
def Ok2 (x : Ex) : Prop := 0 ≤ x.1 ∧ 0 ≤ x.2 ∧ x.1 + x.2 ≤ 2048
theorem mR_ok {L : List Ex} {i : Nat} (hL : ∀ x ∈ L, OkE x) : ∀ x ∈ mR L i, Ok2 x := by
  intro x hx
  unfold mR at hx
  split at hx
  · rename_i hi
    have h1 := hL L[i] (List.getElem_mem _)
    have h2 := hL L[i + 1] (List.getElem_mem _)
    split at hx
    · rcases List.mem_or_eq_of_mem_set (List.mem_of_mem_eraseIdx hx) with h | h
      · have := hL x h; unfold OkE at this; unfold Ok2; omega
      · subst h; unfold OkE at h1 h2; unfold Ok2; simp only; omega
    · have := hL x hx; unfold OkE at this; unfold Ok2; omega
  · have := hL x hx; unfold OkE at this; unfold Ok2; omega
theorem mR_len {L : List Ex} {i : Nat} (hi : i < L.length) : i < (mR L i).length ∧ (mR L i).length ≤ L.length := by
  unfold mR
  split
  · split
    · rw [List.length_eraseIdx]; simp; split <;> omega
    · omega
  · omega

set_option maxRecDepth 100000 in
theorem put_con (v : Value) (l : List Ex) (s n : Int) (G : Gr) (h : Hp) (hB : Buf 27 2 v l.length (xcs l) G) (hn : l.length ≤ 10000) (hl : ∀ x ∈ l, OkE x) (he : OkE (s, n)) : Con Try.prog 18 [v, xt s n] h [G] (fun r h' nb => h = h' ∧ ∃ G', Buf 27 2 r (putL (s, n) l).length (xcs (putL (s, n) l)) G' ∧ nb = [G']) := by
  have hrd := hB.reads (h := h) (bl := [G]) (fun q hq => by simpa using hq)
  obtain ⟨A, cap, rfl, hle, hmx⟩ := hrd.form
  obtain ⟨e, hee⟩ : ∃ e : Ex, e = (s, n) := ⟨_, rfl⟩
  obtain ⟨rfl, rfl⟩ : e.1 = s ∧ e.2 = n := by subst hee; exact ⟨rfl, rfl⟩
  rw [show (e.1, e.2) = e from rfl] at *
  clear hee
  have hee := he
  obtain ⟨e0, e1, e2⟩ := he
  refine Con_of Try.func18 rfl Try.ntmps18 (Nat.le_of_ble_eq_true rfl) (fun w0 => ?_)
  refine V_seq ?_
  refine V_region ?_
  refine VL_eff rfl (E_box rfl rfl rfl) ?_
  rintro _ _ _ ⟨b3, hb3, rfl, rfl, rfl⟩
  refine VL_still rfl rfl rfl (S_assign rfl) ?_
  refine VL_nil ?_
  refine VQ_then ?_
  refine V_seq ?_
  refine V_region ?_
  refine VL_still rfl rfl rfl (S_assign rfl) ?_
  refine VL_nil ?_
  refine VQ_then ?_
  refine V_seq_mid (ι := Unit) (fun _ => True) (fun _ => [(0, .slice A l.length cap), (3, .pointer (some ⟨b3, 0, none⟩)), (5, .int .i64 (insI e l : Nat))]) (fun _ => h) (fun _ => [G, [(b3, .cells (List.toArray [.int .i64 e.1, .int .i64 e.2]) 27 (0, 0))]]) ?_ (fun _ _ => ?_)
  · skip
    refine V_block ?_
    refine V_loop (ι := Nat) (fun i => l.length - i) (fun i => i ≤ l.length ∧ ∀ j (hj : j < l.length), j < i → l[j].1 < e.1) (fun i => [(0, .slice A l.length cap), (3, .pointer (some ⟨b3, 0, none⟩)), (5, .int .i64 i)]) (fun _ => h) (fun _ => [G, [(b3, .cells (List.toArray [.int .i64 e.1, .int .i64 e.2]) 27 (0, 0))]]) 0 ⟨Nat.zero_le _, fun j hj hj' => absurd hj' (by omega)⟩ (by repeat (first | exact trivial | refine ⟨rfl, ?_⟩)) rfl (by repeat (first | exact SubB.nil | exact Pick.here | apply Pick.there | apply SubB.emp | apply SubB.cons)) (fun i hi => ?_)
    obtain ⟨hi1, hi2⟩ := hi
    refine V_seq ?_
    refine V_seq ?_
    refine V_draw _ _ 0 Try.mixed (by kernel_rfl) (Sub.refl _) (SubB.refl _) ?_
    refine VD_still rfl rfl rfl rfl (S_move rfl) ?_
    refine VD_still rfl rfl rfl rfl (S_move rfl) ?_
    refine VD_still rfl rfl rfl rfl (S_len Try.underlying35 rfl) ?_
    refine VD_still rfl rfl rfl rfl (S_lss rfl rfl) ?_
    refine VD_still rfl rfl rfl rfl (S_move rfl) ?_
    refine VD_bool 10 rfl (fun hc10 => ?_) (fun hc10 => ?_)
    · skip
      have hlt : i < l.length := by
        have := of_decide_eq_true hc10
        omega
      obtain ⟨bb, off, cap', e1, hc⟩ := hrd.at_ xcE rfl hlt
      cases e1
      replace hc := hc.mono (h' := h) (bl' := [G, [(b3, .cells (List.toArray [.int .i64 e.1, .int .i64 e.2]) 27 (0, 0))]]) (Sub.refl _) (fun q hq => by simp at hq ⊢; simp [hq])
      refine VD_still rfl rfl rfl rfl (S_move rfl) ?_
      refine VD_still rfl rfl rfl rfl (S_move rfl) ?_
      refine VD_still rfl rfl rfl rfl (X_at i Try.underlying35 tx27 rfl rfl hlt) ?_
      refine VD_still rfl rfl rfl rfl (S_field (k := 0) Try.underlying27 rfl rfl ti3 rfl rfl) ?_
      refine VD_still rfl rfl rfl rfl (S_load Try.underlying3 rfl rfl hc.1) ?_
      refine VD_still rfl rfl rfl rfl (S_field (k := 0) Try.underlying27 rfl rfl ti3 rfl rfl) ?_
      refine VD_still rfl rfl rfl rfl (S_load Try.underlying3 rfl rfl (Cell.trk (by repeat (first | exact Has.here | apply Has.there)) rfl)) ?_
      refine VD_still rfl rfl rfl rfl (S_lss rfl rfl) ?_
      first | refine VD_still rfl rfl rfl rfl (S_pick_t rfl rfl) ?_ | refine VD_still rfl rfl rfl rfl (S_pick_f rfl rfl) ?_
      refine VD_nil ?_
      refine VQ_then ?_
      refine V_cond rfl (fun hc19 => ?_) (fun hc19 => ?_)
      · skip
        refine V_skip ?_
        refine VQ_then ?_
        refine V_block ?_
        refine V_region ?_
        refine VL_still rfl rfl rfl (S_move rfl) ?_
        first | refine VL_still rfl rfl rfl (S_addi rfl rfl (by omega) (by omega)) ?_ | refine VL_still rfl rfl rfl (S_add rfl rfl) ?_
        refine VL_still rfl rfl rfl (S_assign rfl) ?_
        refine VL_nil ?_
        refine VQ_block_normal ?_
        refine VQ_mid (i + 1) ⟨⟨by omega, fun j hj hj' => ?_⟩, by omega⟩ (by repeat (first | exact trivial | refine ⟨rfl, ?_⟩)) rfl (by repeat (first | exact SubB.nil | exact Pick.here | apply Pick.there | apply SubB.emp | apply SubB.cons))
        rcases Nat.lt_or_ge j i with hlt' | hge
        · exact hi2 j hj hlt'
        · obtain rfl : j = i := by omega
          exact of_decide_eq_true hc19
      · skip
        refine V_exit ?_
        refine VQ_then_exit ?_
        refine VQ_then_exit ?_
        refine VQ_block_exit ?_
        have hii : insI e l = i := insI_of hi1 hi2 (fun _ => of_decide_eq_false hc19)
        exact VQ_mid () trivial (by rw [hii]; exact (by repeat (first | exact trivial | refine ⟨rfl, ?_⟩))) rfl (by repeat (first | exact SubB.nil | exact Pick.here | apply Pick.there | apply SubB.emp | apply SubB.cons))
    · skip
      refine VD_skip rfl rfl rfl ?_
      refine VD_skip rfl rfl rfl ?_
      refine VD_skip rfl rfl rfl ?_
      refine VD_skip rfl rfl rfl ?_
      refine VD_skip rfl rfl rfl ?_
      refine VD_skip rfl rfl rfl ?_
      refine VD_skip rfl rfl rfl ?_
      refine VD_skip rfl rfl rfl ?_
      first | refine VD_still rfl rfl rfl rfl (S_pick_t rfl rfl) ?_ | refine VD_still rfl rfl rfl rfl (S_pick_f rfl rfl) ?_
      refine VD_nil ?_
      refine VQ_then ?_
      refine V_cond_false rfl ?_
      refine V_exit ?_
      refine VQ_then_exit ?_
      refine VQ_then_exit ?_
      refine VQ_block_exit ?_
      have hii : insI e l = i := insI_of hi1 hi2 (fun hlt => absurd hlt (by
        have := of_decide_eq_false hc10
        omega))
      exact VQ_mid () trivial (by rw [hii]; exact (by repeat (first | exact trivial | refine ⟨rfl, ?_⟩))) rfl (by repeat (first | exact SubB.nil | exact Pick.here | apply Pick.there | apply SubB.emp | apply SubB.cons))
  · skip
    have hil := insI_le e l
    generalize hgi : insI e l = i at *
    refine V_seq ?_
    refine V_region ?_
    refine VL_still rfl rfl rfl (S_move rfl) ?_
    refine VL_still rfl rfl rfl (S_move rfl) ?_
    first | refine VL_still rfl rfl rfl (S_loads Try.underlying27 rfl ti27 rfl rfl (Cells.all (by repeat (first | exact Has.here | apply Has.there)))) ?_ | refine VL_still rfl rfl rfl (S_loads Try.underlying27 rfl ti27 rfl rfl (Cells.trk (by repeat (first | exact Has.here | apply Has.there)) (by repeat (first | exact TakeR.here (by repeat (first | exact HeadR.nil | apply HeadR.cons)) | apply TakeR.there)))) ?_
    refine VL_eff rfl (E_bs1 rfl Try.underlying35 ti27 rfl rfl rfl rfl rfl rfl) ?_
    rintro _ _ _ ⟨b25, hb25, rfl, rfl, rfl⟩
    refine VL_eff rfl (E_call rfl rfl rfl Try.call24 (xt_insert _ l.length i b25 (xcs l) [.int .i64 e.1, .int .i64 e.2] h G hB (xcE.flat_one l) rfl rfl hil (by omega)) (by repeat (first | exact Split.nil | exact Pick.here | apply Pick.there | apply Split.cons))) ?_
    rintro _ _ _ ⟨v26, nb26, ⟨rfl, G26, hB26, rfl⟩, hs26, rfl, rfl⟩
    have eL : (l.take i).flatMap xc ++ [.int .i64 e.1, .int .i64 e.2] ++ (l.drop i).flatMap xc = xcs (l.take i ++ [e] ++ l.drop i) := by simp [xcs, xc]
    rw [xcE.flat_take, xcE.flat_drop, eL] at hB26
    obtain ⟨L, hL⟩ : ∃ L, L = l.take i ++ [e] ++ l.drop i := ⟨_, rfl⟩
    rw [← hL] at hB26
    have hLn : L.length = l.length + 1 := by rw [hL]; simp; omega
    have hiL : i < L.length := by omega
    have hLo : ∀ x ∈ L, OkE x := by
      intro x hx
      rw [hL] at hx
      simp only [List.mem_append, List.mem_singleton] at hx
      rcases hx with (hx | rfl) | hx
      · exact hl x (List.mem_of_mem_take hx)
      · exact hee
      · exact hl x (List.mem_of_mem_drop hx)
    have hput : putL e l = mL (mR L i) i := by unfold putL; rw [hgi, ← hL]
    rw [← hLn] at hB26
    have hBm := hB26
    have hrd1 := hB26.reads (h := h) (bl := [G26]) (fun q hq => by simpa using hq)
    rcases hB26 with ⟨_, hz, _⟩ | ⟨b, cap1, sp, e9, rfl, l1, l2, hl1, hl2⟩
    · omega
    subst e9
    obtain ⟨_, _, _, e8, hc0⟩ := hrd1.at_ xcE rfl hiL
    cases e8
    replace hc0 := hc0.mono (h' := h) (bl' := [[(b, .cells (List.toArray (xcs L ++ sp)) 27 (0, 0))], [(b3, .cells (List.toArray [.int .i64 e.1, .int .i64 e.2]) 27 (0, 0))]]) (Sub.refl _) (fun q hq => by simp at hq ⊢; simp [hq])
    have o0 := hLo L[i] (List.getElem_mem hiL)
    unfold OkE at o0
    have hmr := mR_len hiL
    have hmo := mR_ok (i := i) hLo
    refine VL_still rfl rfl rfl (S_assign rfl) ?_
    refine VL_nil ?_
    refine VQ_then ?_
    refine V_seq_mid (ι := Value × Gr) (fun x => Buf 27 2 x.1 (mR L i).length (xcs (mR L i)) x.2) (fun x => [(0, x.1), (3, .pointer (some ⟨b3, 0, none⟩)), (5, .int .i64 i)]) (fun _ => h) (fun x => [x.2, [(b3, .cells (List.toArray [.int .i64 e.1, .int .i64 e.2]) 27 (0, 0))]]) ?_ (fun ⟨v8, G8⟩ hB8 => ?_)
    · skip
      refine V_seq ?_
      refine V_draw _ _ 1024 Try.mixed (by kernel_rfl) (Sub.refl _) (SubB.refl _) ?_
      refine VD_still rfl rfl rfl rfl (S_move rfl) ?_
      first | refine VD_still rfl rfl rfl rfl (S_addi rfl rfl (by omega) (by omega)) ?_ | refine VD_still rfl rfl rfl rfl (S_add rfl rfl) ?_
      refine VD_still rfl rfl rfl rfl (S_move rfl) ?_
      refine VD_still rfl rfl rfl rfl (S_len Try.underlying35 rfl) ?_
      refine VD_still rfl rfl rfl rfl (S_lss rfl rfl) ?_
      refine VD_still rfl rfl rfl rfl (S_move rfl) ?_
      refine VD_bool 32 rfl (fun hc32 => ?_) (fun hc32 => ?_)
      · skip
        have hlt : i + 1 < L.length := by
          have := of_decide_eq_true hc32
          omega
        obtain ⟨_, _, _, e8, hc1⟩ := hrd1.at_ xcE rfl hlt
        cases e8
        replace hc1 := hc1.mono (h' := h) (bl' := [[(b, .cells (List.toArray (xcs L ++ sp)) 27 (0, 0))], [(b3, .cells (List.toArray [.int .i64 e.1, .int .i64 e.2]) 27 (0, 0))]]) (Sub.refl _) (fun q hq => by simp at hq ⊢; simp [hq])
        have o1 := hLo L[i + 1] (List.getElem_mem hlt)
        unfold OkE at o1
        refine VD_still rfl rfl rfl rfl (S_move rfl) ?_
        refine VD_still rfl rfl rfl rfl (S_move rfl) ?_
        refine VD_still rfl rfl rfl rfl (X_at i Try.underlying35 tx27 rfl rfl hiL) ?_
        refine VD_still rfl rfl rfl rfl (S_loads (vs := xc L[i]) Try.underlying27 rfl ti27 rfl rfl (hc0.mono (Sub.refl _) (fun q hq => by simpa using hq))) ?_
        refine VD_eff rfl rfl (E_call rfl rfl rfl Try.call22 (end_ok2 L[i].1 L[i].2 h (by omega) (by omega) (by omega)) (by repeat (first | exact Split.nil | exact Pick.here | apply Pick.there | apply Split.cons))) ?_
        rintro _ _ _ ⟨v37, nb37, ⟨rfl, rfl, rfl⟩, hs37, rfl, rfl⟩
        refine ⟨⟨(by first | exact Sub.refl _ | assumption | exact Sub.trans (by assumption) (by assumption)), (by repeat (first | exact SubB.nil | exact Pick.here | apply Pick.there | apply SubB.emp | apply SubB.cons))⟩, ?_⟩
        refine VD_still rfl rfl rfl rfl (S_move rfl) ?_
        refine VD_still rfl rfl rfl rfl (S_move rfl) ?_
        first | refine VD_still rfl rfl rfl rfl (S_addi rfl rfl (by omega) (by omega)) ?_ | refine VD_still rfl rfl rfl rfl (S_add rfl rfl) ?_
        refine VD_still rfl rfl rfl rfl (X_at (i + 1) Try.underlying35 tx27 rfl rfl hlt) ?_
        refine VD_still rfl rfl rfl rfl (S_field (k := 0) Try.underlying27 rfl rfl ti3 rfl rfl) ?_
        refine VD_still rfl rfl rfl rfl (S_load Try.underlying3 rfl rfl hc1.1) ?_
        refine VD_still rfl rfl rfl rfl (S_eql rfl rfl) ?_
        first | refine VD_still rfl rfl rfl rfl (S_pick_t rfl rfl) ?_ | refine VD_still rfl rfl rfl rfl (S_pick_f rfl rfl) ?_
        refine VD_nil ?_
        refine VQ_then ?_
        refine V_cond rfl (fun hc45 => ?_) (fun hc45 => ?_)
        · skip
          have k5 : L[i].1 + L[i].2 = L[i + 1].1 := of_decide_eq_true hc45
          refine V_seq ?_
          refine V_drawL _ _ 16384 Try.mixed (by kernel_rfl) (by kernel_rfl) (Sub.refl _) (SubB.refl _) ?_
          refine VD_still rfl rfl rfl rfl (S_move rfl) ?_
          refine VD_still rfl rfl rfl rfl (S_move rfl) ?_
          refine VD_still rfl rfl rfl rfl (X_at i Try.underlying35 tx27 rfl rfl hiL) ?_
          refine VD_still rfl rfl rfl rfl (S_field (k := 1) Try.underlying27 rfl rfl ti3 rfl rfl) ?_
          refine VD_still rfl rfl rfl rfl (S_load Try.underlying3 rfl rfl (hc0.mono (Sub.refl _) (fun q hq => by simpa using hq)).2.1) ?_
          refine VD_still rfl rfl rfl rfl (S_move rfl) ?_
          refine VD_still rfl rfl rfl rfl (S_move rfl) ?_
          first | refine VD_still rfl rfl rfl rfl (S_addi rfl rfl (by omega) (by omega)) ?_ | refine VD_still rfl rfl rfl rfl (S_add rfl rfl) ?_
          refine VD_still rfl rfl rfl rfl (X_at (i + 1) Try.underlying35 tx27 rfl rfl hlt) ?_
          refine VD_still rfl rfl rfl rfl (S_field (k := 1) Try.underlying27 rfl rfl ti3 rfl rfl) ?_
          refine VD_still rfl rfl rfl rfl (S_load Try.underlying3 rfl rfl (hc1.mono (Sub.refl _) (fun q hq => by simpa using hq)).2.1) ?_
          first | refine VD_still rfl rfl rfl rfl (S_addi rfl rfl (by omega) (by omega)) ?_ | refine VD_still rfl rfl rfl rfl (S_add rfl rfl) ?_
          refine VD_still rfl rfl rfl rfl (X_at i Try.underlying35 tx27 rfl rfl hiL) ?_
          refine VD_still rfl rfl rfl rfl (S_field (k := 1) Try.underlying27 rfl rfl ti3 rfl rfl) ?_
          refine VD_last rfl rfl (E_store ti3 rfl rfl rfl rfl rfl (by repeat (first | exact Has.here | apply Has.there)) (PutR.cons (SetL.of (by rw [List.length_append, hl1]; omega)) PutR.nil) (by repeat (first | exact UpdG.here | apply UpdG.there))) ?_
          rintro _ _ _ ⟨rfl, rfl, rfl⟩
          rw [xcs_set _ L i sp hiL]
          refine VQ_then ?_
          refine V_region ?_
          refine VL_still rfl rfl rfl (S_move rfl) ?_
          refine VL_still rfl rfl rfl (S_move rfl) ?_
          first | refine VL_still rfl rfl rfl (S_addi rfl rfl (by omega) (by omega)) ?_ | refine VL_still rfl rfl rfl (S_add rfl rfl) ?_
          refine VL_still rfl rfl rfl (S_move rfl) ?_
          first | refine VL_still rfl rfl rfl (S_addi rfl rfl (by omega) (by omega)) ?_ | refine VL_still rfl rfl rfl (S_add rfl rfl) ?_
          refine VL_eff rfl (E_call rfl rfl rfl Try.call25 (xt_delete _ L.length (i + 1) (i + 2) (xcs (L.set i (L[i].1, L[i].2 + L[i + 1].2))) h _ (.inr ⟨b, cap1, sp, rfl, rfl, l1, l2, by rw [xcE.flat_len, List.length_set], by rw [List.length_append, xcE.flat_len, List.length_set, ← hl2, List.length_append, hl1]⟩) (xcE.flat_one _) (by omega) (by omega) (by omega)) (by repeat (first | exact Split.nil | exact Pick.here | apply Pick.there | apply Split.cons))) ?_
          rintro _ _ _ ⟨v65, nb65, ⟨rfl, G65, hB65, rfl⟩, hs65, rfl, rfl⟩
          have hm : mR L i = (L.set i (L[i].1, L[i].2 + L[i + 1].2)).eraseIdx (i + 1) := by
            unfold mR
            rw [dif_pos hlt, if_pos k5]
          rw [xcE.flat_take, xcE.flat_drop, ← xcs_app, ← List.eraseIdx_eq_take_drop_succ, ← hm, show i + 1 + (L.length - (i + 2)) = (mR L i).length by rw [hm, List.length_eraseIdx, if_pos (by simp; omega), List.length_set]; omega] at hB65
          refine VL_still rfl rfl rfl (S_assign rfl) ?_
          refine VL_nil ?_
          refine VQ_mid (_, G65) (show Buf 27 2 _ _ _ _ from ?_) (by repeat (first | exact trivial | refine ⟨rfl, ?_⟩)) rfl (by repeat (first | exact SubB.nil | exact Pick.here | apply Pick.there | apply SubB.emp | apply SubB.cons))
          exact hB65
        · skip
          refine V_skip ?_
          refine VQ_mid (_, [(b, .cells (List.toArray (xcs L ++ sp)) 27 (0, 0))]) (show Buf 27 2 _ _ _ _ from ?_) (by repeat (first | exact trivial | refine ⟨rfl, ?_⟩)) rfl (by repeat (first | exact SubB.nil | exact Pick.here | apply Pick.there | apply SubB.emp | apply SubB.cons))
          have hm : mR L i = L := by
            have := of_decide_eq_false hc45
            unfold mR
            rw [dif_pos hlt, if_neg this]
          rw [hm]
          exact hBm
      · skip
        refine VD_skip rfl rfl rfl ?_
        refine VD_skip rfl rfl rfl ?_
        refine VD_skip rfl rfl rfl ?_
        refine VD_skip rfl rfl rfl ?_
        refine VD_skip rfl rfl rfl ?_
        refine VD_skip rfl rfl rfl ?_
        refine VD_skip rfl rfl rfl ?_
        refine VD_skip rfl rfl rfl ?_
        refine VD_skip rfl rfl rfl ?_
        refine VD_skip rfl rfl rfl ?_
        refine VD_skip rfl rfl rfl ?_
        refine VD_skip rfl rfl rfl ?_
        first | refine VD_still rfl rfl rfl rfl (S_pick_t rfl rfl) ?_ | refine VD_still rfl rfl rfl rfl (S_pick_f rfl rfl) ?_
        refine VD_nil ?_
        refine VQ_then ?_
        refine V_cond_false rfl ?_
        refine V_skip ?_
        refine VQ_mid (_, [(b, .cells (List.toArray (xcs L ++ sp)) 27 (0, 0))]) (show Buf 27 2 _ _ _ _ from ?_) (by repeat (first | exact trivial | refine ⟨rfl, ?_⟩)) rfl (by repeat (first | exact SubB.nil | exact Pick.here | apply Pick.there | apply SubB.emp | apply SubB.cons))
        have hm : mR L i = L := by
          have := of_decide_eq_false hc32
          unfold mR
          rw [dif_neg (by omega)]
        rw [hm]
        exact hBm
    · skip
      simp only at hB8 ⊢
      clear hc0 hrd1 hBm
      generalize hgm : mR L i = M at *
      obtain ⟨hiM, hMn⟩ := hmr
      have hBm := hB8
      have hrd2 := hB8.reads (h := h) (bl := [G8]) (fun q hq => by simpa using hq)
      rcases hB8 with ⟨_, hz, _⟩ | ⟨b8, cap8, sp8, e9, rfl, m1, m2, hm1, hm2⟩
      · omega
      subst e9
      obtain ⟨_, _, _, e8, hd0⟩ := hrd2.at_ xcE rfl hiM
      cases e8
      replace hd0 := hd0.mono (h' := h) (bl' := [[(b8, .cells (List.toArray (xcs M ++ sp8)) 27 (0, 0))], [(b3, .cells (List.toArray [.int .i64 e.1, .int .i64 e.2]) 27 (0, 0))]]) (Sub.refl _) (fun q hq => by simp at hq ⊢; simp [hq])
      have p0 := hmo M[i] (List.getElem_mem hiM)
      unfold Ok2 at p0
      refine V_seq_mid (ι := Value × Gr) (fun x => Buf 27 2 x.1 (putL e l).length (xcs (putL e l)) x.2) (fun x => [(0, x.1)]) (fun _ => h) (fun x => [x.2, [(b3, .cells (List.toArray [.int .i64 e.1, .int .i64 e.2]) 27 (0, 0))]]) ?_ (fun ⟨v11, G11⟩ hB11 => ?_)
      · skip
        refine V_seq ?_
        refine V_draw _ _ 256 Try.mixed (by kernel_rfl) (Sub.refl _) (SubB.refl _) ?_
        refine VD_still rfl rfl rfl rfl (S_move rfl) ?_
        refine VD_still rfl rfl rfl rfl (S_gtr rfl rfl) ?_
        refine VD_still rfl rfl rfl rfl (S_move rfl) ?_
        refine VD_bool 68 rfl (fun hc68 => ?_) (fun hc68 => ?_)
        · skip
          have hlt : 0 < i := by
            have := of_decide_eq_true hc68
            omega
          have hiM' : i - 1 < M.length := by omega
          obtain ⟨_, _, _, e8, hd1⟩ := hrd2.at_ xcE rfl hiM'
          cases e8
          replace hd1 := hd1.mono (h' := h) (bl' := [[(b8, .cells (List.toArray (xcs M ++ sp8)) 27 (0, 0))], [(b3, .cells (List.toArray [.int .i64 e.1, .int .i64 e.2]) 27 (0, 0))]]) (Sub.refl _) (fun q hq => by simp at hq ⊢; simp [hq])
          have p1 := hmo M[i - 1] (List.getElem_mem hiM')
          unfold Ok2 at p1
          refine VD_still rfl rfl rfl rfl (S_move rfl) ?_
          refine VD_still rfl rfl rfl rfl (S_move rfl) ?_
          refine VD_still rfl rfl rfl rfl (S_subn i 1 rfl rfl (by omega) (by omega)) ?_
          refine VD_still rfl rfl rfl rfl (X_at (i - 1) Try.underlying35 tx27 rfl rfl hiM') ?_
          refine VD_still rfl rfl rfl rfl (S_loads (vs := xc M[i - 1]) Try.underlying27 rfl ti27 rfl rfl (hd1.mono (Sub.refl _) (fun q hq => by simpa using hq))) ?_
          refine VD_eff rfl rfl (E_call rfl rfl rfl Try.call22 (end_ok2 M[i - 1].1 M[i - 1].2 h (by omega) (by omega) (by omega)) (by repeat (first | exact Split.nil | exact Pick.here | apply Pick.there | apply Split.cons))) ?_
          rintro _ _ _ ⟨v74, nb74, ⟨rfl, rfl, rfl⟩, hs74, rfl, rfl⟩
          refine ⟨⟨(by first | exact Sub.refl _ | assumption | exact Sub.trans (by assumption) (by assumption)), (by repeat (first | exact SubB.nil | exact Pick.here | apply Pick.there | apply SubB.emp | apply SubB.cons))⟩, ?_⟩
          refine VD_still rfl rfl rfl rfl (S_move rfl) ?_
          refine VD_still rfl rfl rfl rfl (S_move rfl) ?_
          refine VD_still rfl rfl rfl rfl (X_at i Try.underlying35 tx27 rfl rfl hiM) ?_
          refine VD_still rfl rfl rfl rfl (S_field (k := 0) Try.underlying27 rfl rfl ti3 rfl rfl) ?_
          refine VD_still rfl rfl rfl rfl (S_load Try.underlying3 rfl rfl hd0.1) ?_
          refine VD_still rfl rfl rfl rfl (S_eql rfl rfl) ?_
          first | refine VD_still rfl rfl rfl rfl (S_pick_t rfl rfl) ?_ | refine VD_still rfl rfl rfl rfl (S_pick_f rfl rfl) ?_
          refine VD_nil ?_
          refine VQ_then ?_
          refine V_cond rfl (fun hc81 => ?_) (fun hc81 => ?_)
          · skip
            have k8 : M[i - 1].1 + M[i - 1].2 = M[i].1 := of_decide_eq_true hc81
            refine V_seq ?_
            refine V_drawL _ _ 16384 Try.mixed (by kernel_rfl) (by kernel_rfl) (Sub.refl _) (SubB.refl _) ?_
            refine VD_still rfl rfl rfl rfl (S_move rfl) ?_
            refine VD_still rfl rfl rfl rfl (S_move rfl) ?_
            refine VD_still rfl rfl rfl rfl (S_subn i 1 rfl rfl (by omega) (by omega)) ?_
            refine VD_still rfl rfl rfl rfl (X_at (i - 1) Try.underlying35 tx27 rfl rfl hiM') ?_
            refine VD_still rfl rfl rfl rfl (S_field (k := 1) Try.underlying27 rfl rfl ti3 rfl rfl) ?_
            refine VD_still rfl rfl rfl rfl (S_load Try.underlying3 rfl rfl (hd1.mono (Sub.refl _) (fun q hq => by simpa using hq)).2.1) ?_
            refine VD_still rfl rfl rfl rfl (S_move rfl) ?_
            refine VD_still rfl rfl rfl rfl (S_move rfl) ?_
            refine VD_still rfl rfl rfl rfl (X_at i Try.underlying35 tx27 rfl rfl hiM) ?_
            refine VD_still rfl rfl rfl rfl (S_field (k := 1) Try.underlying27 rfl rfl ti3 rfl rfl) ?_
            refine VD_still rfl rfl rfl rfl (S_load Try.underlying3 rfl rfl (hd0.mono (Sub.refl _) (fun q hq => by simpa using hq)).2.1) ?_
            first | refine VD_still rfl rfl rfl rfl (S_addi rfl rfl (by omega) (by omega)) ?_ | refine VD_still rfl rfl rfl rfl (S_add rfl rfl) ?_
            refine VD_still rfl rfl rfl rfl (X_at (i - 1) Try.underlying35 tx27 rfl rfl hiM') ?_
            refine VD_still rfl rfl rfl rfl (S_field (k := 1) Try.underlying27 rfl rfl ti3 rfl rfl) ?_
            refine VD_last rfl rfl (E_store ti3 rfl rfl rfl rfl rfl (by repeat (first | exact Has.here | apply Has.there)) (PutR.cons (SetL.of (by rw [List.length_append, hm1]; omega)) PutR.nil) (by repeat (first | exact UpdG.here | apply UpdG.there))) ?_
            rintro _ _ _ ⟨rfl, rfl, rfl⟩
            rw [xcs_set _ M (i - 1) sp8 hiM']
            refine VQ_then ?_
            refine V_region ?_
            refine VL_still rfl rfl rfl (S_move rfl) ?_
            refine VL_still rfl rfl rfl (S_move rfl) ?_
            refine VL_still rfl rfl rfl (S_move rfl) ?_
            first | refine VL_still rfl rfl rfl (S_addi rfl rfl (by omega) (by omega)) ?_ | refine VL_still rfl rfl rfl (S_add rfl rfl) ?_
            refine VL_eff rfl (E_call rfl rfl rfl Try.call25 (xt_delete _ M.length i (i + 1) (xcs (M.set (i - 1) (M[i - 1].1, M[i - 1].2 + M[i].2))) h _ (.inr ⟨b8, cap8, sp8, rfl, rfl, m1, m2, by rw [xcE.flat_len, List.length_set], by rw [List.length_append, xcE.flat_len, List.length_set, ← hm2, List.length_append, hm1]⟩) (xcE.flat_one _) (by omega) (by omega) (by omega)) (by repeat (first | exact Split.nil | exact Pick.here | apply Pick.there | apply Split.cons))) ?_
            rintro _ _ _ ⟨v100, nb100, ⟨rfl, G100, hB100, rfl⟩, hs100, rfl, rfl⟩
            have hm : mL M i = (M.set (i - 1) (M[i - 1].1, M[i - 1].2 + M[i].2)).eraseIdx i := by
              unfold mL
              rw [dif_pos ⟨hlt, hiM⟩, if_pos k8]
            rw [xcE.flat_take, xcE.flat_drop, ← xcs_app, ← List.eraseIdx_eq_take_drop_succ, ← hm, show i + (M.length - (i + 1)) = (mL M i).length by rw [hm, List.length_eraseIdx, if_pos (by simp; omega), List.length_set]; omega] at hB100
            refine VL_still rfl rfl rfl (S_assign rfl) ?_
            refine VL_nil ?_
            refine VQ_mid (_, G100) (show Buf 27 2 _ _ _ _ from ?_) (by repeat (first | exact trivial | refine ⟨rfl, ?_⟩)) rfl (by repeat (first | exact SubB.nil | exact Pick.here | apply Pick.there | apply SubB.emp | apply SubB.cons))
            rw [hput]
            exact hB100
          · skip
            refine V_skip ?_
            refine VQ_mid (_, [(b8, .cells (List.toArray (xcs M ++ sp8)) 27 (0, 0))]) (show Buf 27 2 _ _ _ _ from ?_) (by repeat (first | exact trivial | refine ⟨rfl, ?_⟩)) rfl (by repeat (first | exact SubB.nil | exact Pick.here | apply Pick.there | apply SubB.emp | apply SubB.cons))
            have hm : mL M i = M := by
              have := of_decide_eq_false hc81
              unfold mL
              rw [dif_pos ⟨hlt, hiM⟩, if_neg this]
            rw [hput, hm]
            exact hBm
        · skip
          refine VD_skip rfl rfl rfl ?_
          refine VD_skip rfl rfl rfl ?_
          refine VD_skip rfl rfl rfl ?_
          refine VD_skip rfl rfl rfl ?_
          refine VD_skip rfl rfl rfl ?_
          refine VD_skip rfl rfl rfl ?_
          refine VD_skip rfl rfl rfl ?_
          refine VD_skip rfl rfl rfl ?_
          refine VD_skip rfl rfl rfl ?_
          refine VD_skip rfl rfl rfl ?_
          refine VD_skip rfl rfl rfl ?_
          refine VD_skip rfl rfl rfl ?_
          first | refine VD_still rfl rfl rfl rfl (S_pick_t rfl rfl) ?_ | refine VD_still rfl rfl rfl rfl (S_pick_f rfl rfl) ?_
          refine VD_nil ?_
          refine VQ_then ?_
          refine V_cond_false rfl ?_
          refine V_skip ?_
          refine VQ_mid (_, [(b8, .cells (List.toArray (xcs M ++ sp8)) 27 (0, 0))]) (show Buf 27 2 _ _ _ _ from ?_) (by repeat (first | exact trivial | refine ⟨rfl, ?_⟩)) rfl (by repeat (first | exact SubB.nil | exact Pick.here | apply Pick.there | apply SubB.emp | apply SubB.cons))
          have hm : mL M i = M := by
            have := of_decide_eq_false hc68
            unfold mL
            rw [dif_neg (by omega)]
          rw [hput, hm]
          exact hBm
      · skip
        simp only at hB11 ⊢
        refine V_seq ?_
        refine V_region ?_
        refine VL_still rfl rfl rfl (S_move rfl) ?_
        refine VL_still rfl rfl rfl (S_assign rfl) ?_
        refine VL_nil ?_
        refine VQ_then ?_
        refine V_ret ?_
        refine VQ_fin1 (nb := [G11]) (by first | exact .inl rfl | exact .inr rfl) rfl (RV_tmp rfl) ?sb ?po
        case po =>
          exact ⟨rfl, G11, hB11, rfl⟩
        case sb => exact (by repeat (first | exact SubB.nil | exact Pick.here | apply Pick.there | apply SubB.emp | apply SubB.cons))

end Go.Proofs.YtgnjocnbohbfaaaR
