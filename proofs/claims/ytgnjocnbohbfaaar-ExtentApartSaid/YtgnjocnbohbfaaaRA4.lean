/- Contracts of package extent, part 3: cut and put. No conditions. -/
import Derived.Test.YtgnjocnbohbfaaaRA3
set_option linter.unusedVariables false
namespace Go.Proofs.YtgnjocnbohbfaaaR

/-- An extent that lies within a map's sectors. -/
def OkE (e : Ex) : Prop := 0 ≤ e.1 ∧ 1 ≤ e.2 ∧ e.1 + e.2 ≤ 1024
def cut1 (e x : Ex) : List Ex :=
  if e.1 < x.1 ∨ x.1 + x.2 < e.1 + e.2 then [x]
  else (if x.1 < e.1 then [(x.1, e.1 - x.1)] else []) ++ (if e.1 + e.2 < x.1 + x.2 then [(e.1 + e.2, x.1 + x.2 - (e.1 + e.2))] else [])
def cutL (e : Ex) (l : List Ex) : List Ex := l.flatMap (cut1 e)
theorem cut1_len (e x : Ex) : (cut1 e x).length ≤ 2 := by unfold cut1; split <;> (repeat' split) <;> simp
theorem cutL_len (e : Ex) (l : List Ex) : (cutL e l).length ≤ 2 * l.length := by
  induction l with
  | nil => simp [cutL]
  | cons x l ih => have := cut1_len e x; simp only [cutL, List.flatMap_cons, List.length_append, List.length_cons] at ih ⊢; omega
theorem cutL_snoc (e : Ex) (l : List Ex) (i : Nat) (hi : i < l.length) : cutL e (l.take (i + 1)) = cutL e (l.take i) ++ cut1 e l[i] := by
  rw [List.take_succ_eq_append_getElem hi]
  unfold cutL
  rw [List.flatMap_append]
  simp only [List.flatMap_cons, List.flatMap_nil, List.append_nil]
theorem xcs_app (a b : List Ex) : xcs (a ++ b) = xcs a ++ xcs b := List.flatMap_append
theorem end_ok (s n : Int) (h : Hp) (h0 : 0 ≤ s) (h1 : 0 ≤ n) (h2 : s + n ≤ 1024) : Con Try.prog 22 [xt s n] h [] (fun v h' nb => v = .int .i64 (s + n) ∧ h = h' ∧ nb = []) :=
  (end_con s n h).mono fun v h' nb ⟨e1, e2, e3⟩ => ⟨by rw [e1, wrap_id (by omega) (by omega)], e2, e3⟩

set_option maxRecDepth 100000 in
theorem cut_con (v : Value) (l : List Ex) (s n : Int) (G : Gr) (h : Hp) (hs : SlR h [G] v l.length (xcs l) 2) (hn : l.length ≤ 10000) (hl : ∀ x ∈ l, OkE x) (he : OkE (s, n)) : Con Try.prog 16 [v, xt s n] h [G] (fun r h' nb => h = h' ∧ ∃ G', Buf 27 2 r (cutL (s, n) l).length (xcs (cutL (s, n) l)) G' ∧ nb = [G, G']) := by
  obtain ⟨A, cap, rfl, hle, hmx⟩ := hs.form
  obtain ⟨e, hee⟩ : ∃ e : Ex, e = (s, n) := ⟨_, rfl⟩
  obtain ⟨rfl, rfl⟩ : e.1 = s ∧ e.2 = n := by subst hee; exact ⟨rfl, rfl⟩
  rw [show (e.1, e.2) = e from rfl]
  clear hee
  obtain ⟨e0, e1, e2⟩ := he
  simp only at e0 e1 e2
  refine Con_of Try.func16 rfl Try.ntmps16 (Nat.le_of_ble_eq_true rfl) (fun w0 => ?_)
  refine V_seq ?_
  refine V_region ?_
  refine VL_eff rfl (E_box rfl rfl rfl) ?_
  rintro _ _ _ ⟨b3, hb3, rfl, rfl, rfl⟩
  refine VL_still rfl rfl rfl (S_assign rfl) ?_
  refine VL_nil ?_
  refine VQ_then ?_
  refine V_seq ?_
  refine V_region ?_
  refine VL_still rfl rfl rfl (S_assign rfl) ?_
  refine VL_nil ?_
  refine VQ_then ?_
  refine V_seq ?_
  refine V_seq ?_
  refine V_region ?_
  refine VL_still rfl rfl rfl (S_move rfl) ?_
  refine VL_still rfl rfl rfl (S_len Try.underlying35 rfl) ?_
  refine VL_still rfl rfl rfl (S_move rfl) ?_
  refine VL_nil ?_
  refine VQ_then ?_
  refine V_block ?_
  refine V_loop (ι := Nat × Value × Gr) (fun i => l.length - i.1) (fun i => i.1 ≤ l.length ∧ Buf 27 2 i.2.1 (cutL e (l.take i.1)).length (xcs (cutL e (l.take i.1))) i.2.2) (fun i => [(3, .pointer (some ⟨b3, 0, none⟩)), (5, i.2.1), (8, .slice A l.length cap), (9, .int .i64 l.length), (10, .int .i64 i.1)]) (fun _ => h) (fun i => [i.2.2, [(b3, .cells (List.toArray [.int .i64 e.1, .int .i64 e.2]) 27 (0, 0))], G]) (0, .slice none 0 0, []) ⟨Nat.zero_le _, Buf.nil _ _⟩ (by repeat (first | exact trivial | refine ⟨rfl, ?_⟩)) rfl (by repeat (first | exact SubB.nil | exact Pick.here | apply Pick.there | apply SubB.emp | apply SubB.cons)) (fun ⟨i, v5, G5⟩ hi => ?_)
  obtain ⟨hi1, hB5⟩ := hi
  simp only at hi1 hB5 ⊢
  have hcl := cutL_len e (l.take i)
  have htl : (l.take i).length ≤ l.length := by simp; omega
  refine V_seq ?_
  refine V_region ?_
  refine VL_still rfl rfl rfl (S_lss rfl rfl) ?_
  refine VL_nil ?_
  refine VQ_then ?_
  refine V_seq ?_
  refine V_cond rfl (fun hc11 => ?_) (fun hc11 => ?_)
  · skip
    have hlt : i < l.length := by
      have := of_decide_eq_true hc11
      omega
    obtain ⟨bb, off, cap', e1, hc⟩ := hs.at_ xcE rfl hlt
    cases e1
    have hxo := hl l[i] (List.getElem_mem hlt)
    obtain ⟨x0, x1, x2⟩ := hxo
    have hf1 : ¬ (e.1 < l[i].1 ∨ l[i].1 + l[i].2 < e.1 + e.2) ∨ (e.1 < l[i].1 ∨ l[i].1 + l[i].2 < e.1 + e.2) := (Classical.em _).symm
    refine V_skip ?_
    refine VQ_then ?_
    refine V_seq ?_
    refine V_block ?_
    refine V_seq ?_
    refine V_region ?_
    refine VL_still rfl rfl rfl (X_at i Try.underlying35 tx27 rfl rfl hlt) ?_
    refine VL_still rfl rfl rfl (S_loads (vs := xc l[i]) Try.underlying27 rfl ti27 rfl rfl (hc.mono (Sub.refl _) (fun q hq => by simp at hq ⊢; simp [hq]))) ?_
    refine VL_eff rfl (E_alloc rfl tz27) ?_
    rintro _ _ _ ⟨b7, hb7, rfl, rfl, rfl⟩
    refine VL_eff rfl (E_store ti27 rfl rfl rfl rfl rfl (by repeat (first | exact Has.here | apply Has.there)) (by repeat (first | exact PutR.nil | exact SetL.here | apply SetL.there | apply PutR.cons)) (by repeat (first | exact UpdG.here | apply UpdG.there))) ?_
    rintro _ _ _ ⟨rfl, rfl, rfl⟩
    refine VL_nil ?_
    refine VQ_then ?_
    refine V_seq ?_
    refine V_seq ?_
    refine V_draw _ _ 640 Try.mixed (by kernel_rfl) (Sub.refl _) (SubB.refl _) ?_
    refine VD_still rfl rfl rfl rfl (S_field (k := 0) Try.underlying27 rfl rfl ti3 rfl rfl) ?_
    refine VD_still rfl rfl rfl rfl (S_load Try.underlying3 rfl rfl (Cell.trk (by repeat (first | exact Has.here | apply Has.there)) rfl)) ?_
    refine VD_still rfl rfl rfl rfl (S_field (k := 0) Try.underlying27 rfl rfl ti3 rfl rfl) ?_
    refine VD_still rfl rfl rfl rfl (S_load Try.underlying3 rfl rfl (Cell.trk (by repeat (first | exact Has.here | apply Has.there)) rfl)) ?_
    refine VD_still rfl rfl rfl rfl (S_gtr rfl rfl) ?_
    refine VD_still rfl rfl rfl rfl (S_move rfl) ?_
    refine VD_bool 19 rfl (fun hc19 => ?_) (fun hc19 => ?_)
    · skip
      have k1 := of_decide_eq_true hc19
      refine VD_skip rfl rfl rfl ?_
      refine VD_skip rfl rfl rfl ?_
      refine VD_skip rfl rfl rfl ?_
      refine VD_skip rfl rfl rfl ?_
      refine VD_skip rfl rfl rfl ?_
      first | refine VD_still rfl rfl rfl rfl (S_pick_t rfl rfl) ?_ | refine VD_still rfl rfl rfl rfl (S_pick_f rfl rfl) ?_
      refine VD_nil ?_
      refine VQ_then ?_
      refine V_cond_true rfl ?_
      refine V_seq ?_
      refine V_region ?_
      refine VL_still rfl rfl rfl (S_move rfl) ?_
      first | refine VL_still rfl rfl rfl (S_loads Try.underlying27 rfl ti27 rfl rfl (Cells.all (by repeat (first | exact Has.here | apply Has.there)))) ?_ | refine VL_still rfl rfl rfl (S_loads Try.underlying27 rfl ti27 rfl rfl (Cells.trk (by repeat (first | exact Has.here | apply Has.there)) (by repeat (first | exact TakeR.here (by repeat (first | exact HeadR.nil | apply HeadR.cons)) | apply TakeR.there)))) ?_
      refine VL_eff rfl (E_bs1 rfl Try.underlying35 ti27 rfl rfl rfl rfl rfl rfl) ?_
      rintro _ _ _ ⟨b28, hb28, rfl, rfl, rfl⟩
      refine VL_eff rfl (X_append rfl Try.underlying35 Try.underlying35 rfl tx27 rfl rfl rfl rfl hB5 (by repeat (first | exact Pick.here | apply Pick.there)) (Buf.reads (G := [(b28, .cells (List.toArray [.int .i64 l[i].1, .int .i64 l[i].2]) 27 (0, 0))]) (Buf.lit (n := 1) (by rfl) (by omega)) (fun q hq => by simp at hq ⊢; simp [hq])) rfl (by omega)) ?_
      rintro _ _ _ ⟨v29, G29, hB29, rfl, rfl, rfl⟩
      refine VL_still rfl rfl rfl (S_assign rfl) ?_
      refine VL_nil ?_
      refine VQ_then ?_
      refine V_exit ?_
      refine VQ_then_exit ?_
      refine VQ_block_exit ?_
      refine VQ_then ?_
      refine V_region ?_
      first | refine VL_still rfl rfl rfl (S_addi rfl rfl (by omega) (by omega)) ?_ | refine VL_still rfl rfl rfl (S_add rfl rfl) ?_
      refine VL_still rfl rfl rfl (S_move rfl) ?_
      refine VL_nil ?_
      refine VQ_mid (i + 1, v29, G29) ⟨⟨by omega, ?_⟩, by simp; omega⟩ (by repeat (first | exact trivial | refine ⟨rfl, ?_⟩)) rfl (by repeat (first | exact SubB.nil | exact Pick.here | apply Pick.there | apply SubB.emp | apply SubB.cons))
      show Buf 27 2 _ _ _ _
      rw [cutL_snoc e l i hlt, xcs_app, List.length_append]
      unfold cut1
      rw [if_pos (by omega)]
      exact hB29
    · skip
      have k1 := of_decide_eq_false hc19
      first | refine VD_still rfl rfl rfl rfl (S_loads Try.underlying27 rfl ti27 rfl rfl (Cells.all (by repeat (first | exact Has.here | apply Has.there)))) ?_ | refine VD_still rfl rfl rfl rfl (S_loads Try.underlying27 rfl ti27 rfl rfl (Cells.trk (by repeat (first | exact Has.here | apply Has.there)) (by repeat (first | exact TakeR.here (by repeat (first | exact HeadR.nil | apply HeadR.cons)) | apply TakeR.there)))) ?_
      refine VD_eff rfl rfl (E_call rfl rfl rfl Try.call22 (end_ok e.1 e.2 h (by omega) (by omega) (by omega)) (by repeat (first | exact Split.nil | exact Pick.here | apply Pick.there | apply Split.cons))) ?_
      rintro _ _ _ ⟨v21, nb21, ⟨rfl, rfl, rfl⟩, hs21, rfl, rfl⟩
      refine ⟨⟨(by first | exact Sub.refl _ | assumption | exact Sub.trans (by assumption) (by assumption)), (by repeat (first | exact SubB.nil | exact Pick.here | apply Pick.there | apply SubB.emp | apply SubB.cons))⟩, ?_⟩
      first | refine VD_still rfl rfl rfl rfl (S_loads Try.underlying27 rfl ti27 rfl rfl (Cells.all (by repeat (first | exact Has.here | apply Has.there)))) ?_ | refine VD_still rfl rfl rfl rfl (S_loads Try.underlying27 rfl ti27 rfl rfl (Cells.trk (by repeat (first | exact Has.here | apply Has.there)) (by repeat (first | exact TakeR.here (by repeat (first | exact HeadR.nil | apply HeadR.cons)) | apply TakeR.there)))) ?_
      refine VD_eff rfl rfl (E_call rfl rfl rfl Try.call22 (end_ok l[i].1 l[i].2 h (by omega) (by omega) (by omega)) (by repeat (first | exact Split.nil | exact Pick.here | apply Pick.there | apply Split.cons))) ?_
      rintro _ _ _ ⟨v23, nb23, ⟨rfl, rfl, rfl⟩, hs23, rfl, rfl⟩
      refine ⟨⟨(by first | exact Sub.refl _ | assumption | exact Sub.trans (by assumption) (by assumption)), (by repeat (first | exact SubB.nil | exact Pick.here | apply Pick.there | apply SubB.emp | apply SubB.cons))⟩, ?_⟩
      refine VD_still rfl rfl rfl rfl (S_gtr rfl rfl) ?_
      first | refine VD_still rfl rfl rfl rfl (S_pick_t rfl rfl) ?_ | refine VD_still rfl rfl rfl rfl (S_pick_f rfl rfl) ?_
      refine VD_nil ?_
      refine VQ_then ?_
      refine V_cond rfl (fun hc25 => ?_) (fun hc25 => ?_)
      · skip
        have k2 := of_decide_eq_true hc25
        refine V_seq ?_
        refine V_region ?_
        refine VL_still rfl rfl rfl (S_move rfl) ?_
        first | refine VL_still rfl rfl rfl (S_loads Try.underlying27 rfl ti27 rfl rfl (Cells.all (by repeat (first | exact Has.here | apply Has.there)))) ?_ | refine VL_still rfl rfl rfl (S_loads Try.underlying27 rfl ti27 rfl rfl (Cells.trk (by repeat (first | exact Has.here | apply Has.there)) (by repeat (first | exact TakeR.here (by repeat (first | exact HeadR.nil | apply HeadR.cons)) | apply TakeR.there)))) ?_
        refine VL_eff rfl (E_bs1 rfl Try.underlying35 ti27 rfl rfl rfl rfl rfl rfl) ?_
        rintro _ _ _ ⟨b28, hb28, rfl, rfl, rfl⟩
        refine VL_eff rfl (X_append rfl Try.underlying35 Try.underlying35 rfl tx27 rfl rfl rfl rfl hB5 (by repeat (first | exact Pick.here | apply Pick.there)) (Buf.reads (G := [(b28, .cells (List.toArray [.int .i64 l[i].1, .int .i64 l[i].2]) 27 (0, 0))]) (Buf.lit (n := 1) (by rfl) (by omega)) (fun q hq => by simp at hq ⊢; simp [hq])) rfl (by omega)) ?_
        rintro _ _ _ ⟨v29, G29, hB29, rfl, rfl, rfl⟩
        refine VL_still rfl rfl rfl (S_assign rfl) ?_
        refine VL_nil ?_
        refine VQ_then ?_
        refine V_exit ?_
        refine VQ_then_exit ?_
        refine VQ_block_exit ?_
        refine VQ_then ?_
        refine V_region ?_
        first | refine VL_still rfl rfl rfl (S_addi rfl rfl (by omega) (by omega)) ?_ | refine VL_still rfl rfl rfl (S_add rfl rfl) ?_
        refine VL_still rfl rfl rfl (S_move rfl) ?_
        refine VL_nil ?_
        refine VQ_mid (i + 1, v29, G29) ⟨⟨by omega, ?_⟩, by simp; omega⟩ (by repeat (first | exact trivial | refine ⟨rfl, ?_⟩)) rfl (by repeat (first | exact SubB.nil | exact Pick.here | apply Pick.there | apply SubB.emp | apply SubB.cons))
        show Buf 27 2 _ _ _ _
        rw [cutL_snoc e l i hlt, xcs_app, List.length_append]
        unfold cut1
        rw [if_pos (by omega)]
        exact hB29
      · skip
        have k2 := of_decide_eq_false hc25
        refine V_skip ?_
        refine VQ_then ?_
        refine V_seq ?_
        refine V_seq ?_
        refine V_region ?_
        refine VL_still rfl rfl rfl (S_field (k := 0) Try.underlying27 rfl rfl ti3 rfl rfl) ?_
        refine VL_still rfl rfl rfl (S_load Try.underlying3 rfl rfl (Cell.trk (by repeat (first | exact Has.here | apply Has.there)) rfl)) ?_
        refine VL_still rfl rfl rfl (S_field (k := 0) Try.underlying27 rfl rfl ti3 rfl rfl) ?_
        refine VL_still rfl rfl rfl (S_load Try.underlying3 rfl rfl (Cell.trk (by repeat (first | exact Has.here | apply Has.there)) rfl)) ?_
        refine VL_still rfl rfl rfl (S_lss rfl rfl) ?_
        refine VL_nil ?_
        refine VQ_then ?_
        refine V_cond rfl (fun hc34 => ?_) (fun hc34 => ?_)
        · skip
          have k3 := of_decide_eq_true hc34
          refine V_region ?_
          refine VL_still rfl rfl rfl (S_move rfl) ?_
          refine VL_still rfl rfl rfl (S_field (k := 0) Try.underlying27 rfl rfl ti3 rfl rfl) ?_
          refine VL_still rfl rfl rfl (S_load Try.underlying3 rfl rfl (Cell.trk (by repeat (first | exact Has.here | apply Has.there)) rfl)) ?_
          refine VL_still rfl rfl rfl (S_field (k := 0) Try.underlying27 rfl rfl ti3 rfl rfl) ?_
          refine VL_still rfl rfl rfl (S_load Try.underlying3 rfl rfl (Cell.trk (by repeat (first | exact Has.here | apply Has.there)) rfl)) ?_
          refine VL_still rfl rfl rfl (S_field (k := 0) Try.underlying27 rfl rfl ti3 rfl rfl) ?_
          refine VL_still rfl rfl rfl (S_load Try.underlying3 rfl rfl (Cell.trk (by repeat (first | exact Has.here | apply Has.there)) rfl)) ?_
          first | refine VL_still rfl rfl rfl (S_subi rfl rfl (by omega) (by omega)) ?_ | refine VL_still rfl rfl rfl (S_sub rfl rfl) ?_
          refine VL_still rfl rfl rfl (S_struct Try.underlying27 to27 tz27 rfl (by repeat (first | exact BuildR.nil | exact PutR.nil | exact SetL.here | apply SetL.there | apply PutR.cons | apply BuildR.cons rfl (by first | exact ti3) rfl rfl rfl))) ?_
          refine VL_eff rfl (E_bs1 rfl Try.underlying35 ti27 rfl rfl rfl rfl rfl rfl) ?_
          rintro _ _ _ ⟨b44, hb44, rfl, rfl, rfl⟩
          refine VL_eff rfl (X_append rfl Try.underlying35 Try.underlying35 rfl tx27 rfl rfl rfl rfl hB5 (by repeat (first | exact Pick.here | apply Pick.there)) (Buf.reads (G := [(b44, .cells (List.toArray [.int .i64 l[i].1, .int .i64 (e.1 - l[i].1)]) 27 (0, 0))]) (Buf.lit (n := 1) (by rfl) (by omega)) (fun q hq => by simp at hq ⊢; simp [hq])) rfl (by omega)) ?_
          rintro _ _ _ ⟨v45, G45, hB45, rfl, rfl, rfl⟩
          refine VL_still rfl rfl rfl (S_assign rfl) ?_
          refine VL_nil ?_
          refine VQ_then ?_
          refine V_seq ?_
          refine V_draw _ _ 10 Try.mixed (by kernel_rfl) (Sub.refl _) (SubB.refl _) ?_
          first | refine VD_still rfl rfl rfl rfl (S_loads Try.underlying27 rfl ti27 rfl rfl (Cells.all (by repeat (first | exact Has.here | apply Has.there)))) ?_ | refine VD_still rfl rfl rfl rfl (S_loads Try.underlying27 rfl ti27 rfl rfl (Cells.trk (by repeat (first | exact Has.here | apply Has.there)) (by repeat (first | exact TakeR.here (by repeat (first | exact HeadR.nil | apply HeadR.cons)) | apply TakeR.there)))) ?_
          refine VD_eff rfl rfl (E_call rfl rfl rfl Try.call22 (end_ok e.1 e.2 h (by omega) (by omega) (by omega)) (by repeat (first | exact Split.nil | exact Pick.here | apply Pick.there | apply Split.cons))) ?_
          rintro _ _ _ ⟨v47, nb47, ⟨rfl, rfl, rfl⟩, hs47, rfl, rfl⟩
          refine ⟨⟨(by first | exact Sub.refl _ | assumption | exact Sub.trans (by assumption) (by assumption)), (by repeat (first | exact SubB.nil | exact Pick.here | apply Pick.there | apply SubB.emp | apply SubB.cons))⟩, ?_⟩
          first | refine VD_still rfl rfl rfl rfl (S_loads Try.underlying27 rfl ti27 rfl rfl (Cells.all (by repeat (first | exact Has.here | apply Has.there)))) ?_ | refine VD_still rfl rfl rfl rfl (S_loads Try.underlying27 rfl ti27 rfl rfl (Cells.trk (by repeat (first | exact Has.here | apply Has.there)) (by repeat (first | exact TakeR.here (by repeat (first | exact HeadR.nil | apply HeadR.cons)) | apply TakeR.there)))) ?_
          refine VD_eff rfl rfl (E_call rfl rfl rfl Try.call22 (end_ok l[i].1 l[i].2 h (by omega) (by omega) (by omega)) (by repeat (first | exact Split.nil | exact Pick.here | apply Pick.there | apply Split.cons))) ?_
          rintro _ _ _ ⟨v49, nb49, ⟨rfl, rfl, rfl⟩, hs49, rfl, rfl⟩
          refine ⟨⟨(by first | exact Sub.refl _ | assumption | exact Sub.trans (by assumption) (by assumption)), (by repeat (first | exact SubB.nil | exact Pick.here | apply Pick.there | apply SubB.emp | apply SubB.cons))⟩, ?_⟩
          refine VD_still rfl rfl rfl rfl (S_lss rfl rfl) ?_
          refine VD_nil ?_
          refine VQ_then ?_
          refine V_cond rfl (fun hc50 => ?_) (fun hc50 => ?_)
          · skip
            have k4 := of_decide_eq_true hc50
            refine V_draw _ [[(b7, .cells (List.toArray [.int .i64 l[i].1, .int .i64 l[i].2]) 27 (0, 0))], [(b3, .cells (List.toArray [.int .i64 e.1, .int .i64 e.2]) 27 (0, 0))], G] 1620 Try.mixed (by kernel_rfl) (Sub.refl _) (by repeat (first | exact SubB.nil | exact Pick.here | apply Pick.there | apply SubB.emp | apply SubB.cons)) ?_
            refine VD_still rfl rfl rfl rfl (S_move rfl) ?_
            first | refine VD_still rfl rfl rfl rfl (S_loads Try.underlying27 rfl ti27 rfl rfl (Cells.all (by repeat (first | exact Has.here | apply Has.there)))) ?_ | refine VD_still rfl rfl rfl rfl (S_loads Try.underlying27 rfl ti27 rfl rfl (Cells.trk (by repeat (first | exact Has.here | apply Has.there)) (by repeat (first | exact TakeR.here (by repeat (first | exact HeadR.nil | apply HeadR.cons)) | apply TakeR.there)))) ?_
            refine VD_eff rfl rfl (E_call rfl rfl rfl Try.call22 (end_ok e.1 e.2 h (by omega) (by omega) (by omega)) (by repeat (first | exact Split.nil | exact Pick.here | apply Pick.there | apply Split.cons))) ?_
            rintro _ _ _ ⟨v53, nb53, ⟨rfl, rfl, rfl⟩, hs53, rfl, rfl⟩
            refine ⟨⟨(by first | exact Sub.refl _ | assumption | exact Sub.trans (by assumption) (by assumption)), (by repeat (first | exact SubB.nil | exact Pick.here | apply Pick.there | apply SubB.emp | apply SubB.cons))⟩, ?_⟩
            first | refine VD_still rfl rfl rfl rfl (S_loads Try.underlying27 rfl ti27 rfl rfl (Cells.all (by repeat (first | exact Has.here | apply Has.there)))) ?_ | refine VD_still rfl rfl rfl rfl (S_loads Try.underlying27 rfl ti27 rfl rfl (Cells.trk (by repeat (first | exact Has.here | apply Has.there)) (by repeat (first | exact TakeR.here (by repeat (first | exact HeadR.nil | apply HeadR.cons)) | apply TakeR.there)))) ?_
            refine VD_eff rfl rfl (E_call rfl rfl rfl Try.call22 (end_ok l[i].1 l[i].2 h (by omega) (by omega) (by omega)) (by repeat (first | exact Split.nil | exact Pick.here | apply Pick.there | apply Split.cons))) ?_
            rintro _ _ _ ⟨v55, nb55, ⟨rfl, rfl, rfl⟩, hs55, rfl, rfl⟩
            refine ⟨⟨(by first | exact Sub.refl _ | assumption | exact Sub.trans (by assumption) (by assumption)), (by repeat (first | exact SubB.nil | exact Pick.here | apply Pick.there | apply SubB.emp | apply SubB.cons))⟩, ?_⟩
            first | refine VD_still rfl rfl rfl rfl (S_loads Try.underlying27 rfl ti27 rfl rfl (Cells.all (by repeat (first | exact Has.here | apply Has.there)))) ?_ | refine VD_still rfl rfl rfl rfl (S_loads Try.underlying27 rfl ti27 rfl rfl (Cells.trk (by repeat (first | exact Has.here | apply Has.there)) (by repeat (first | exact TakeR.here (by repeat (first | exact HeadR.nil | apply HeadR.cons)) | apply TakeR.there)))) ?_
            refine VD_eff rfl rfl (E_call rfl rfl rfl Try.call22 (end_ok e.1 e.2 h (by omega) (by omega) (by omega)) (by repeat (first | exact Split.nil | exact Pick.here | apply Pick.there | apply Split.cons))) ?_
            rintro _ _ _ ⟨v57, nb57, ⟨rfl, rfl, rfl⟩, hs57, rfl, rfl⟩
            refine ⟨⟨(by first | exact Sub.refl _ | assumption | exact Sub.trans (by assumption) (by assumption)), (by repeat (first | exact SubB.nil | exact Pick.here | apply Pick.there | apply SubB.emp | apply SubB.cons))⟩, ?_⟩
            first | refine VD_still rfl rfl rfl rfl (S_subi rfl rfl (by omega) (by omega)) ?_ | refine VD_still rfl rfl rfl rfl (S_sub rfl rfl) ?_
            refine VD_still rfl rfl rfl rfl (S_struct Try.underlying27 to27 tz27 rfl (by repeat (first | exact BuildR.nil | exact PutR.nil | exact SetL.here | apply SetL.there | apply PutR.cons | apply BuildR.cons rfl (by first | exact ti3) rfl rfl rfl))) ?_
            refine VD_eff rfl rfl (E_bs1 rfl Try.underlying35 ti27 rfl rfl rfl rfl rfl rfl) ?_
            rintro _ _ _ ⟨b60, hb60, rfl, rfl, rfl⟩
            refine ⟨⟨(by first | exact Sub.refl _ | assumption | exact Sub.trans (by assumption) (by assumption)), (by repeat (first | exact SubB.nil | exact Pick.here | apply Pick.there | apply SubB.emp | apply SubB.cons))⟩, ?_⟩
            refine VD_eff rfl rfl (X_append rfl Try.underlying35 Try.underlying35 rfl tx27 rfl rfl rfl rfl hB45 (by repeat (first | exact Pick.here | apply Pick.there)) (Buf.reads (G := [(b60, .cells (List.toArray [.int .i64 (e.1 + e.2), .int .i64 (l[i].1 + l[i].2 - (e.1 + e.2))]) 27 (0, 0))]) (Buf.lit (n := 1) (by rfl) (by omega)) (fun q hq => by simp at hq ⊢; simp [hq])) rfl (by omega)) ?_
            rintro _ _ _ ⟨v61, G61, hB61, rfl, rfl, rfl⟩
            refine ⟨⟨(by first | exact Sub.refl _ | assumption | exact Sub.trans (by assumption) (by assumption)), (by repeat (first | exact SubB.nil | exact Pick.here | apply Pick.there | apply SubB.emp | apply SubB.cons))⟩, ?_⟩
            refine VD_still rfl rfl rfl rfl (S_assign rfl) ?_
            refine VD_nil ?_
            refine VQ_block_normal ?_
            refine VQ_then ?_
            refine V_region ?_
            first | refine VL_still rfl rfl rfl (S_addi rfl rfl (by omega) (by omega)) ?_ | refine VL_still rfl rfl rfl (S_add rfl rfl) ?_
            refine VL_still rfl rfl rfl (S_move rfl) ?_
            refine VL_nil ?_
            refine VQ_mid (i + 1, v61, G61) ⟨⟨by omega, ?_⟩, by simp; omega⟩ (by repeat (first | exact trivial | refine ⟨rfl, ?_⟩)) rfl (by repeat (first | exact SubB.nil | exact Pick.here | apply Pick.there | apply SubB.emp | apply SubB.cons))
            show Buf 27 2 _ _ _ _
            rw [cutL_snoc e l i hlt, xcs_app, List.length_append]
            unfold cut1
            rw [if_neg (by omega), if_pos (by omega), if_pos (by omega)]
            simpa [xcs, xc, Nat.add_assoc] using hB61
          · skip
            have k4 := of_decide_eq_false hc50
            refine V_skip ?_
            refine VQ_block_normal ?_
            refine VQ_then ?_
            refine V_region ?_
            first | refine VL_still rfl rfl rfl (S_addi rfl rfl (by omega) (by omega)) ?_ | refine VL_still rfl rfl rfl (S_add rfl rfl) ?_
            refine VL_still rfl rfl rfl (S_move rfl) ?_
            refine VL_nil ?_
            refine VQ_mid (i + 1, v45, G45) ⟨⟨by omega, ?_⟩, by simp; omega⟩ (by repeat (first | exact trivial | refine ⟨rfl, ?_⟩)) rfl (by repeat (first | exact SubB.nil | exact Pick.here | apply Pick.there | apply SubB.emp | apply SubB.cons))
            show Buf 27 2 _ _ _ _
            rw [cutL_snoc e l i hlt, xcs_app, List.length_append]
            unfold cut1
            rw [if_neg (by omega), if_pos (by omega), if_neg (by omega)]
            simpa [xcs, xc] using hB45
        · skip
          have k3 := of_decide_eq_false hc34
          refine V_skip ?_
          refine VQ_then ?_
          refine V_seq ?_
          refine V_draw _ _ 10 Try.mixed (by kernel_rfl) (Sub.refl _) (SubB.refl _) ?_
          first | refine VD_still rfl rfl rfl rfl (S_loads Try.underlying27 rfl ti27 rfl rfl (Cells.all (by repeat (first | exact Has.here | apply Has.there)))) ?_ | refine VD_still rfl rfl rfl rfl (S_loads Try.underlying27 rfl ti27 rfl rfl (Cells.trk (by repeat (first | exact Has.here | apply Has.there)) (by repeat (first | exact TakeR.here (by repeat (first | exact HeadR.nil | apply HeadR.cons)) | apply TakeR.there)))) ?_
          refine VD_eff rfl rfl (E_call rfl rfl rfl Try.call22 (end_ok e.1 e.2 h (by omega) (by omega) (by omega)) (by repeat (first | exact Split.nil | exact Pick.here | apply Pick.there | apply Split.cons))) ?_
          rintro _ _ _ ⟨v47, nb47, ⟨rfl, rfl, rfl⟩, hs47, rfl, rfl⟩
          refine ⟨⟨(by first | exact Sub.refl _ | assumption | exact Sub.trans (by assumption) (by assumption)), (by repeat (first | exact SubB.nil | exact Pick.here | apply Pick.there | apply SubB.emp | apply SubB.cons))⟩, ?_⟩
          first | refine VD_still rfl rfl rfl rfl (S_loads Try.underlying27 rfl ti27 rfl rfl (Cells.all (by repeat (first | exact Has.here | apply Has.there)))) ?_ | refine VD_still rfl rfl rfl rfl (S_loads Try.underlying27 rfl ti27 rfl rfl (Cells.trk (by repeat (first | exact Has.here | apply Has.there)) (by repeat (first | exact TakeR.here (by repeat (first | exact HeadR.nil | apply HeadR.cons)) | apply TakeR.there)))) ?_
          refine VD_eff rfl rfl (E_call rfl rfl rfl Try.call22 (end_ok l[i].1 l[i].2 h (by omega) (by omega) (by omega)) (by repeat (first | exact Split.nil | exact Pick.here | apply Pick.there | apply Split.cons))) ?_
          rintro _ _ _ ⟨v49, nb49, ⟨rfl, rfl, rfl⟩, hs49, rfl, rfl⟩
          refine ⟨⟨(by first | exact Sub.refl _ | assumption | exact Sub.trans (by assumption) (by assumption)), (by repeat (first | exact SubB.nil | exact Pick.here | apply Pick.there | apply SubB.emp | apply SubB.cons))⟩, ?_⟩
          refine VD_still rfl rfl rfl rfl (S_lss rfl rfl) ?_
          refine VD_nil ?_
          refine VQ_then ?_
          refine V_cond rfl (fun hc50 => ?_) (fun hc50 => ?_)
          · skip
            have k4 := of_decide_eq_true hc50
            refine V_draw _ [[(b7, .cells (List.toArray [.int .i64 l[i].1, .int .i64 l[i].2]) 27 (0, 0))], [(b3, .cells (List.toArray [.int .i64 e.1, .int .i64 e.2]) 27 (0, 0))], G] 1620 Try.mixed (by kernel_rfl) (Sub.refl _) (by repeat (first | exact SubB.nil | exact Pick.here | apply Pick.there | apply SubB.emp | apply SubB.cons)) ?_
            refine VD_still rfl rfl rfl rfl (S_move rfl) ?_
            first | refine VD_still rfl rfl rfl rfl (S_loads Try.underlying27 rfl ti27 rfl rfl (Cells.all (by repeat (first | exact Has.here | apply Has.there)))) ?_ | refine VD_still rfl rfl rfl rfl (S_loads Try.underlying27 rfl ti27 rfl rfl (Cells.trk (by repeat (first | exact Has.here | apply Has.there)) (by repeat (first | exact TakeR.here (by repeat (first | exact HeadR.nil | apply HeadR.cons)) | apply TakeR.there)))) ?_
            refine VD_eff rfl rfl (E_call rfl rfl rfl Try.call22 (end_ok e.1 e.2 h (by omega) (by omega) (by omega)) (by repeat (first | exact Split.nil | exact Pick.here | apply Pick.there | apply Split.cons))) ?_
            rintro _ _ _ ⟨v53, nb53, ⟨rfl, rfl, rfl⟩, hs53, rfl, rfl⟩
            refine ⟨⟨(by first | exact Sub.refl _ | assumption | exact Sub.trans (by assumption) (by assumption)), (by repeat (first | exact SubB.nil | exact Pick.here | apply Pick.there | apply SubB.emp | apply SubB.cons))⟩, ?_⟩
            first | refine VD_still rfl rfl rfl rfl (S_loads Try.underlying27 rfl ti27 rfl rfl (Cells.all (by repeat (first | exact Has.here | apply Has.there)))) ?_ | refine VD_still rfl rfl rfl rfl (S_loads Try.underlying27 rfl ti27 rfl rfl (Cells.trk (by repeat (first | exact Has.here | apply Has.there)) (by repeat (first | exact TakeR.here (by repeat (first | exact HeadR.nil | apply HeadR.cons)) | apply TakeR.there)))) ?_
            refine VD_eff rfl rfl (E_call rfl rfl rfl Try.call22 (end_ok l[i].1 l[i].2 h (by omega) (by omega) (by omega)) (by repeat (first | exact Split.nil | exact Pick.here | apply Pick.there | apply Split.cons))) ?_
            rintro _ _ _ ⟨v55, nb55, ⟨rfl, rfl, rfl⟩, hs55, rfl, rfl⟩
            refine ⟨⟨(by first | exact Sub.refl _ | assumption | exact Sub.trans (by assumption) (by assumption)), (by repeat (first | exact SubB.nil | exact Pick.here | apply Pick.there | apply SubB.emp | apply SubB.cons))⟩, ?_⟩
            first | refine VD_still rfl rfl rfl rfl (S_loads Try.underlying27 rfl ti27 rfl rfl (Cells.all (by repeat (first | exact Has.here | apply Has.there)))) ?_ | refine VD_still rfl rfl rfl rfl (S_loads Try.underlying27 rfl ti27 rfl rfl (Cells.trk (by repeat (first | exact Has.here | apply Has.there)) (by repeat (first | exact TakeR.here (by repeat (first | exact HeadR.nil | apply HeadR.cons)) | apply TakeR.there)))) ?_
            refine VD_eff rfl rfl (E_call rfl rfl rfl Try.call22 (end_ok e.1 e.2 h (by omega) (by omega) (by omega)) (by repeat (first | exact Split.nil | exact Pick.here | apply Pick.there | apply Split.cons))) ?_
            rintro _ _ _ ⟨v57, nb57, ⟨rfl, rfl, rfl⟩, hs57, rfl, rfl⟩
            refine ⟨⟨(by first | exact Sub.refl _ | assumption | exact Sub.trans (by assumption) (by assumption)), (by repeat (first | exact SubB.nil | exact Pick.here | apply Pick.there | apply SubB.emp | apply SubB.cons))⟩, ?_⟩
            first | refine VD_still rfl rfl rfl rfl (S_subi rfl rfl (by omega) (by omega)) ?_ | refine VD_still rfl rfl rfl rfl (S_sub rfl rfl) ?_
            refine VD_still rfl rfl rfl rfl (S_struct Try.underlying27 to27 tz27 rfl (by repeat (first | exact BuildR.nil | exact PutR.nil | exact SetL.here | apply SetL.there | apply PutR.cons | apply BuildR.cons rfl (by first | exact ti3) rfl rfl rfl))) ?_
            refine VD_eff rfl rfl (E_bs1 rfl Try.underlying35 ti27 rfl rfl rfl rfl rfl rfl) ?_
            rintro _ _ _ ⟨b60, hb60, rfl, rfl, rfl⟩
            refine ⟨⟨(by first | exact Sub.refl _ | assumption | exact Sub.trans (by assumption) (by assumption)), (by repeat (first | exact SubB.nil | exact Pick.here | apply Pick.there | apply SubB.emp | apply SubB.cons))⟩, ?_⟩
            refine VD_eff rfl rfl (X_append rfl Try.underlying35 Try.underlying35 rfl tx27 rfl rfl rfl rfl hB5 (by repeat (first | exact Pick.here | apply Pick.there)) (Buf.reads (G := [(b60, .cells (List.toArray [.int .i64 (e.1 + e.2), .int .i64 (l[i].1 + l[i].2 - (e.1 + e.2))]) 27 (0, 0))]) (Buf.lit (n := 1) (by rfl) (by omega)) (fun q hq => by simp at hq ⊢; simp [hq])) rfl (by omega)) ?_
            rintro _ _ _ ⟨v61, G61, hB61, rfl, rfl, rfl⟩
            refine ⟨⟨(by first | exact Sub.refl _ | assumption | exact Sub.trans (by assumption) (by assumption)), (by repeat (first | exact SubB.nil | exact Pick.here | apply Pick.there | apply SubB.emp | apply SubB.cons))⟩, ?_⟩
            refine VD_still rfl rfl rfl rfl (S_assign rfl) ?_
            refine VD_nil ?_
            refine VQ_block_normal ?_
            refine VQ_then ?_
            refine V_region ?_
            first | refine VL_still rfl rfl rfl (S_addi rfl rfl (by omega) (by omega)) ?_ | refine VL_still rfl rfl rfl (S_add rfl rfl) ?_
            refine VL_still rfl rfl rfl (S_move rfl) ?_
            refine VL_nil ?_
            refine VQ_mid (i + 1, v61, G61) ⟨⟨by omega, ?_⟩, by simp; omega⟩ (by repeat (first | exact trivial | refine ⟨rfl, ?_⟩)) rfl (by repeat (first | exact SubB.nil | exact Pick.here | apply Pick.there | apply SubB.emp | apply SubB.cons))
            show Buf 27 2 _ _ _ _
            rw [cutL_snoc e l i hlt, xcs_app, List.length_append]
            unfold cut1
            rw [if_neg (by omega), if_neg (by omega), if_pos (by omega)]
            simpa [xcs, xc] using hB61
          · skip
            have k4 := of_decide_eq_false hc50
            refine V_skip ?_
            refine VQ_block_normal ?_
            refine VQ_then ?_
            refine V_region ?_
            first | refine VL_still rfl rfl rfl (S_addi rfl rfl (by omega) (by omega)) ?_ | refine VL_still rfl rfl rfl (S_add rfl rfl) ?_
            refine VL_still rfl rfl rfl (S_move rfl) ?_
            refine VL_nil ?_
            refine VQ_mid (i + 1, v5, G5) ⟨⟨by omega, ?_⟩, by simp; omega⟩ (by repeat (first | exact trivial | refine ⟨rfl, ?_⟩)) rfl (by repeat (first | exact SubB.nil | exact Pick.here | apply Pick.there | apply SubB.emp | apply SubB.cons))
            show Buf 27 2 _ _ _ _
            rw [cutL_snoc e l i hlt, xcs_app, List.length_append]
            unfold cut1
            rw [if_neg (by omega), if_neg (by omega), if_neg (by omega)]
            simpa [xcs, xc] using hB5
  · skip
    refine V_exit ?_
    refine VQ_then_exit ?_
    refine VQ_then_exit ?_
    refine VQ_block_exit ?_
    refine VQ_then ?_
    refine V_seq ?_
    refine V_region ?_
    refine VL_still rfl rfl rfl (S_move rfl) ?_
    refine VL_still rfl rfl rfl (S_assign rfl) ?_
    refine VL_nil ?_
    refine VQ_then ?_
    refine V_ret ?_
    refine VQ_fin1 (nb := [G, G5]) (by first | exact .inl rfl | exact .inr rfl) rfl (RV_tmp rfl) ?sb ?po
    case po =>
      refine ⟨rfl, G5, ?_, rfl⟩
      have hge : i = l.length := by
        have := of_decide_eq_false hc11
        omega
      subst hge
      rwa [List.take_length] at hB5
    case sb => exact (by repeat (first | exact SubB.nil | exact Pick.here | apply Pick.there | apply SubB.emp | apply SubB.cons))

end Go.Proofs.YtgnjocnbohbfaaaR
