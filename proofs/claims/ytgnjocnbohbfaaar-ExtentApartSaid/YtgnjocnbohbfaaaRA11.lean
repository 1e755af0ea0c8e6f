/- The law ExtentApart: its walk. No conditions. -/
import Derived.Test.YtgnjocnbohbfaaaRA10
import Derived.Test.YtgnjocnbohbfaaaRQ5
import Derived.Test.YtgnjocnbohbfaaaRSx15
set_option linter.unusedVariables false
set_option linter.unusedSimpArgs false
namespace Go.Proofs.YtgnjocnbohbfaaaR

theorem arr_one (L : List Ex) : ones (arr L) = true := by
  rw [ones_iff]
  intro v hv
  simp only [arrN, List.mem_map] at hv
  obtain ⟨s, _, rfl⟩ := hv
  rfl
theorem tz39 : ((Try.prog.info? 39).bind (·.zero)).map (·.cells) = some (List.toArray (arr [])) := by
  rw [show arr [] = List.replicate 1024 (.int .u8 0) from arrN_nil 1024]
  kernel_rfl
theorem sumL_len {t : Int} : ∀ {L : List Ex}, (∀ x ∈ L, OkT t x) → (L.length : Int) ≤ sumL L
  | [], _ => by simp [sumL]
  | x :: L, h => by
    have hx := h x (by simp)
    have ih := sumL_len (L := L) (fun y hy => h y (List.mem_cons_of_mem _ hy))
    unfold OkT at hx
    rw [sumL_cons, List.length_cons]
    push_cast
    omega
theorem Cov.len {t : Int} {o f l : List Ex} (h : Cov t o f l) (h0 : 0 ≤ t) (h1 : t ≤ 1024) : o.length + f.length + l.length ≤ 1024 := by
  obtain ⟨a, _, c⟩ := h.sum h0
  have := sumL_len c
  rw [List.length_append, List.length_append] at this
  omega
theorem BX.empty (b : Nat) : BX (.slice (some ⟨b, 0, none⟩) 0 0) [] [(b, .cells (List.toArray []) 27 (0, 0))] := .inr ⟨b, 0, [], rfl, rfl, Nat.le_refl _, by omega, rfl, rfl⟩
theorem arr_zero (L : List Ex) (a : Int) : arr (L ++ [(a, 0)]) = arr L := arrN_zero L a
theorem clampT_id {t : Int} (h0 : 0 ≤ t) (h1 : t ≤ 1024) : clampT t = t := by unfold clampT; split <;> split at * <;> omega


set_option maxRecDepth 100000 in
theorem apart_con (t : Int) (v : Value) (acts : List Ac) (h : Hp) (hs : SlR h [] v acts.length (acs acts) 4) : Con Try.prog 4 [.int .i64 t, v] h [] (fun r h' nb => r = .bool true ∧ h = h' ∧ nb = []) := by
  obtain ⟨A, cap, rfl, hle, hmx⟩ := hs.form
  refine Con_of Try.func4 rfl Try.ntmps4 (Nat.le_of_ble_eq_true rfl) (fun w0 => ?_)
  refine V_seq ?_
  refine V_region ?_
  refine VL_still rfl rfl rfl (S_assign rfl) ?_
  refine VL_nil ?_
  refine VQ_then ?_
  refine V_seq ?_
  refine V_seq ?_
  refine V_region ?_
  refine VL_eff rfl (E_call rfl rfl rfl Try.call5 (alive_con h) (by repeat (first | exact Split.nil | exact Pick.here | apply Pick.there | apply Split.cons))) ?_
  rintro _ _ _ ⟨v24, nb24, ⟨rfl, rfl, rfl⟩, hs24, rfl, rfl⟩
  refine VL_still rfl rfl rfl (S_not rfl) ?_
  refine VL_nil ?_
  refine VQ_then ?_
  refine V_cond rfl (fun hc25 => ?_) (fun hc25 => ?_)
  · skip
    simp at hc25
  · skip
    refine V_skip ?_
    refine VQ_then ?_
    refine V_seq ?_
    refine V_region ?_
    refine VL_still rfl rfl rfl (S_move rfl) ?_
    refine VL_eff rfl (E_call rfl rfl rfl Try.call6 (new_con t h) (by repeat (first | exact Split.nil | exact Pick.here | apply Pick.there | apply Split.cons))) ?_
    rintro _ _ _ ⟨v27, nb27, ⟨rfl, g, vf0, Gf0, rfl, hB0, rfl⟩, hs27, rfl, rfl⟩
    refine VL_still rfl rfl rfl (S_assign rfl) ?_
    refine VL_nil ?_
    refine VQ_then ?_
    refine V_seq ?_
    refine V_seq ?_
    refine V_region ?_
    refine VL_still rfl rfl rfl (S_move rfl) ?_
    refine VL_still rfl rfl rfl (S_peqnil Try.underlying24 rfl rfl) ?_
    refine VL_still rfl rfl rfl (S_move rfl) ?_
    refine VL_bool 30 rfl (fun hc30 => ?_) (fun hc30 => ?_)
    · skip
      simp at hc30
    · skip
      refine VL_still rfl rfl rfl (S_move rfl) ?_
      refine VL_still rfl rfl rfl (S_len Try.underlying22 rfl) ?_
      refine VL_still rfl rfl rfl (S_gtr rfl rfl) ?_
      first | refine VL_still rfl rfl rfl (S_pick_t rfl rfl) ?_ | refine VL_still rfl rfl rfl (S_pick_f rfl rfl) ?_
      refine VL_still rfl rfl rfl (S_move rfl) ?_
      refine VL_bool 35 rfl (fun hc35 => ?_) (fun hc35 => ?_)
      · skip
        refine VL_skip rfl rfl rfl ?_
        refine VL_skip rfl rfl rfl ?_
        first | refine VL_still rfl rfl rfl (S_pick_t rfl rfl) ?_ | refine VL_still rfl rfl rfl (S_pick_f rfl rfl) ?_
        refine VL_still rfl rfl rfl (S_move rfl) ?_
        refine VL_skip rfl rfl rfl ?_
        refine VL_skip rfl rfl rfl ?_
        first | refine VL_still rfl rfl rfl (S_pick_t rfl rfl) ?_ | refine VL_still rfl rfl rfl (S_pick_f rfl rfl) ?_
        refine VL_nil ?_
        refine VQ_then ?_
        refine V_cond_true rfl ?_
        refine V_seq ?_
        refine V_region ?_
        refine VL_still rfl rfl rfl (S_move rfl) ?_
        refine VL_still rfl rfl rfl (S_pnenil Try.underlying24 rfl rfl) ?_
        refine VL_still rfl rfl rfl (S_assign rfl) ?_
        refine VL_nil ?_
        refine VQ_then ?_
        refine V_ret ?_
        refine VQ_then_ret ?_
        refine VQ_fin1 (nb := []) (by first | exact .inl rfl | exact .inr rfl) rfl (RV_tmp rfl) ?sb ?po
        case po =>
          exact ⟨rfl, rfl, rfl⟩
        case sb => exact (by repeat (first | exact SubB.nil | exact Pick.here | apply Pick.there | apply SubB.emp | apply SubB.cons))
      · skip
        have hlen := of_decide_eq_false hc35
        refine VL_still rfl rfl rfl (S_move rfl) ?_
        refine VL_still rfl rfl rfl (S_lss rfl rfl) ?_
        first | refine VL_still rfl rfl rfl (S_pick_t rfl rfl) ?_ | refine VL_still rfl rfl rfl (S_pick_f rfl rfl) ?_
        refine VL_still rfl rfl rfl (S_move rfl) ?_
        refine VL_bool 39 rfl (fun hc39 => ?_) (fun hc39 => ?_)
        · skip
          refine VL_skip rfl rfl rfl ?_
          refine VL_skip rfl rfl rfl ?_
          first | refine VL_still rfl rfl rfl (S_pick_t rfl rfl) ?_ | refine VL_still rfl rfl rfl (S_pick_f rfl rfl) ?_
          refine VL_nil ?_
          refine VQ_then ?_
          refine V_cond_true rfl ?_
          refine V_seq ?_
          refine V_region ?_
          refine VL_still rfl rfl rfl (S_move rfl) ?_
          refine VL_still rfl rfl rfl (S_pnenil Try.underlying24 rfl rfl) ?_
          refine VL_still rfl rfl rfl (S_assign rfl) ?_
          refine VL_nil ?_
          refine VQ_then ?_
          refine V_ret ?_
          refine VQ_then_ret ?_
          refine VQ_fin1 (nb := []) (by first | exact .inl rfl | exact .inr rfl) rfl (RV_tmp rfl) ?sb ?po
          case po =>
            exact ⟨rfl, rfl, rfl⟩
          case sb => exact (by repeat (first | exact SubB.nil | exact Pick.here | apply Pick.there | apply SubB.emp | apply SubB.cons))
        · skip
          have ht0 : 0 ≤ t := by
            have := of_decide_eq_false hc39
            omega
          refine VL_still rfl rfl rfl (S_move rfl) ?_
          refine VL_still rfl rfl rfl (S_gtr rfl rfl) ?_
          first | refine VL_still rfl rfl rfl (S_pick_t rfl rfl) ?_ | refine VL_still rfl rfl rfl (S_pick_f rfl rfl) ?_
          refine VL_nil ?_
          refine VQ_then ?_
          refine V_cond rfl (fun hc42 => ?_) (fun hc42 => ?_)
          · skip
            refine V_seq ?_
            refine V_region ?_
            refine VL_still rfl rfl rfl (S_move rfl) ?_
            refine VL_still rfl rfl rfl (S_pnenil Try.underlying24 rfl rfl) ?_
            refine VL_still rfl rfl rfl (S_assign rfl) ?_
            refine VL_nil ?_
            refine VQ_then ?_
            refine V_ret ?_
            refine VQ_then_ret ?_
            refine VQ_fin1 (nb := []) (by first | exact .inl rfl | exact .inr rfl) rfl (RV_tmp rfl) ?sb ?po
            case po =>
              exact ⟨rfl, rfl, rfl⟩
            case sb => exact (by repeat (first | exact SubB.nil | exact Pick.here | apply Pick.there | apply SubB.emp | apply SubB.cons))
          · skip
            have ht1 : t ≤ 1024 := by
              have := of_decide_eq_false hc42
              omega
            rw [clampT_id ht0 ht1]
            refine V_skip ?_
            refine VQ_then ?_
            refine V_seq ?_
            refine V_region ?_
            refine VL_eff rfl (E_bs0 rfl Try.underlying35 ti27) ?_
            rintro _ _ _ ⟨b45, hb45, rfl, rfl, rfl⟩
            refine VL_still rfl rfl rfl (S_assign rfl) ?_
            refine VL_nil ?_
            refine VQ_then ?_
            refine V_seq ?_
            refine V_seq ?_
            refine V_region ?_
            refine VL_still rfl rfl rfl (S_move rfl) ?_
            refine VL_still rfl rfl rfl (S_len Try.underlying22 rfl) ?_
            refine VL_still rfl rfl rfl (S_move rfl) ?_
            refine VL_nil ?_
            refine VQ_then ?_
            refine V_block ?_
            refine V_loop (ι := Nat × Value × List Ex × Gr × Value × List Ex × Gr × Value × List Ex × Gr) (fun x => acts.length - x.1) (fun (i, vo, o, Go, vf, f, Gf, vl, l, Gl) => i ≤ acts.length ∧ Cov t o f l ∧ BX vo o Go ∧ BX vf f Gf ∧ BX vl l Gl) (fun (i, vo, o, Go, vf, f, Gf, vl, l, Gl) => [(0, .int .i64 t), (5, .pointer (some ⟨g, 0, none⟩)), (6, vo), (46, (.slice A acts.length cap)), (47, .int .i64 acts.length), (48, .int .i64 i)]) (fun _ => h) (fun (i, vo, o, Go, vf, f, Gf, vl, l, Gl) => [GM g t vf vl, Gf, Gl, Go]) (0, .slice (some ⟨b45, 0, none⟩) 0 0, [], _, vf0, newL t, Gf0, .slice none 0 0, [], []) ⟨Nat.zero_le _, Cov.new ht0 ht1, BX.empty b45, hB0, Buf.nil _ _⟩ (by repeat (first | exact trivial | refine ⟨rfl, ?_⟩)) rfl (by repeat (first | exact SubB.nil | exact Pick.here | apply Pick.there | apply SubB.emp | apply SubB.cons)) (fun ⟨i, vo, o, Go, vf, f, Gf, vl, l, Gl⟩ hi => ?_)
            obtain ⟨hi1, hC, hBo, hBf, hBl⟩ := hi
            simp only at hi1 hC hBo hBf hBl ⊢
            have hcl := hC.len ht0 ht1
            obtain ⟨Ao, co, rfl, hlo, hmo, _⟩ := hBo.rd h
            refine V_seq ?_
            refine V_region ?_
            refine VL_still rfl rfl rfl (S_lss rfl rfl) ?_
            refine VL_nil ?_
            refine VQ_then ?_
            refine V_seq ?_
            refine V_cond rfl (fun hc49 => ?_) (fun hc49 => ?_)
            · skip
              have hlt : i < acts.length := by
                have := of_decide_eq_true hc49
                omega
              obtain ⟨bb, off, cap', e1, hc⟩ := hs.at_ acE rfl hlt
              cases e1
              refine V_skip ?_
              refine VQ_then ?_
              refine V_seq ?_
              refine V_block ?_
              refine V_seq ?_
              refine V_region ?_
              refine VL_still rfl rfl rfl (X_at i Try.underlying22 tx29 rfl rfl hlt) ?_
              refine VL_still rfl rfl rfl (S_loads (vs := ac acts[i]) Try.underlying29 rfl ti29 rfl rfl (hc.mono (Sub.refl _) (fun q hq => by simp at hq))) ?_
              refine VL_eff rfl (E_alloc rfl tz29) ?_
              rintro _ _ _ ⟨b8, hb8, rfl, rfl, rfl⟩
              refine VL_eff rfl (E_store ti29 rfl rfl rfl rfl rfl (by repeat (first | exact Has.here | apply Has.there)) (by repeat (first | exact PutR.nil | exact SetL.here | apply SetL.there | apply PutR.cons)) (by repeat (first | exact UpdG.here | apply UpdG.there))) ?_
              rintro _ _ _ ⟨rfl, rfl, rfl⟩
              refine VL_nil ?_
              refine VQ_then ?_
              refine V_seq_mid (ι := Value × List Ex × Gr × Value × List Ex × Gr × Value × List Ex × Gr) (fun (vo, o, Go, vf, f, Gf, vl, l, Gl) => Cov t o f l ∧ BX vo o Go ∧ BX vf f Gf ∧ BX vl l Gl) (fun (vo, o, Go, vf, f, Gf, vl, l, Gl) => [(0, .int .i64 t), (5, .pointer (some ⟨g, 0, none⟩)), (6, vo), (46, (.slice (some ⟨bb, off, none⟩) acts.length cap)), (47, .int .i64 acts.length), (48, .int .i64 i)]) (fun _ => h) (fun (vo, o, Go, vf, f, Gf, vl, l, Gl) => [GM g t vf vl, Gf, Gl, Go]) ?_ (fun ⟨vo', o', Go', vf', f', Gf', vl', l', Gl'⟩ hi => ?_)
              · skip
                refine V_seq ?_
                refine V_region ?_
                refine VL_still rfl rfl rfl (S_field (k := 0) Try.underlying29 rfl rfl ti3 rfl rfl) ?_
                refine VL_still rfl rfl rfl (S_load Try.underlying3 rfl rfl (Cell.trk (by repeat (first | exact Has.here | apply Has.there)) rfl)) ?_
                refine VL_nil ?_
                refine VQ_then ?_
                refine V_block ?_
                refine V_seq_mid (ι := Bool) (fun _ => True) (fun b => [(0, .int .i64 t), (5, .pointer (some ⟨g, 0, none⟩)), (6, (.slice Ao o.length co)), (8, .pointer (some ⟨b8, 0, none⟩)), (46, (.slice (some ⟨bb, off, none⟩) acts.length cap)), (47, .int .i64 acts.length), (48, .int .i64 i), (53, .int .i64 acts[i].k), (54, .bool b)]) (fun _ => h) (fun _ => [GM g t vf vl, Gf, Gl, Go, [(b8, .cells (List.toArray [.int .i64 acts[i].k, .int .i64 acts[i].n, .int .i64 acts[i].s, .int .i64 acts[i].l]) 29 (0, 0))]]) ?_ (fun b _ => ?_)
                · skip
                  refine V_seq ?_
                  refine V_region ?_
                  refine VL_still rfl rfl rfl (S_eql rfl rfl) ?_
                  refine VL_still rfl rfl rfl (S_assign rfl) ?_
                  refine VL_nil ?_
                  refine VQ_then ?_
                  refine V_cond rfl (fun hc54 => ?_) (fun hc54 => ?_)
                  · skip
                    refine V_skip ?_
                    refine VQ_mid _ trivial (by repeat (first | exact trivial | refine ⟨rfl, ?_⟩)) rfl (by repeat (first | exact SubB.nil | exact Pick.here | apply Pick.there | apply SubB.emp | apply SubB.cons))
                  · skip
                    refine V_region ?_
                    refine VL_still rfl rfl rfl (S_eql rfl rfl) ?_
                    refine VL_still rfl rfl rfl (S_assign rfl) ?_
                    refine VL_nil ?_
                    refine VQ_mid _ trivial (by repeat (first | exact trivial | refine ⟨rfl, ?_⟩)) rfl (by repeat (first | exact SubB.nil | exact Pick.here | apply Pick.there | apply SubB.emp | apply SubB.cons))
                · skip

                  refine V_cond rfl (fun hc54 => ?_) (fun hc54 => ?_)
                  · skip
                    refine V_seq ?_
                    refine V_region ?_
                    refine VL_still rfl rfl rfl (S_move rfl) ?_
                    refine VL_still rfl rfl rfl (S_field (k := 1) Try.underlying29 rfl rfl ti3 rfl rfl) ?_
                    refine VL_still rfl rfl rfl (S_load Try.underlying3 rfl rfl (Cell.trk (by repeat (first | exact Has.here | apply Has.there)) rfl)) ?_
                    refine VL_eff rfl (E_call rfl rfl rfl Try.call7 (alloc_con g t vf vl f l Gf Gl h hBf (by omega) acts[i].n hC.gf.ok) (by repeat (first | exact Split.nil | exact Pick.here | apply Pick.there | apply Split.cons))) ?_
                    rintro _ _ _ ⟨v61, nb61, ⟨rfl, e1, er1, f1, v1, G1, rfl, hP1, hB1, rfl⟩, hs61, rfl, rfl⟩
                    refine VL_still rfl rfl rfl (S_move rfl) ?_
                    refine VL_still rfl rfl rfl (S_extract rfl rfl) ?_
                    refine VL_still rfl rfl rfl (S_extract rfl rfl) ?_
                    refine VL_eff rfl (E_alloc rfl tz27) ?_
                    rintro _ _ _ ⟨b9, hb9, rfl, rfl, rfl⟩
                    refine VL_eff rfl (E_store ti27 rfl rfl rfl rfl rfl (by repeat (first | exact Has.here | apply Has.there)) (by repeat (first | exact PutR.nil | exact SetL.here | apply SetL.there | apply PutR.cons)) (by repeat (first | exact UpdG.here | apply UpdG.there))) ?_
                    rintro _ _ _ ⟨rfl, rfl, rfl⟩
                    refine VL_still rfl rfl rfl (S_assign rfl) ?_
                    refine VL_nil ?_
                    refine VQ_then ?_
                    refine V_seq ?_
                    refine V_region ?_
                    refine VL_still rfl rfl rfl (S_move rfl) ?_
                    refine VL_still rfl rfl rfl (S_eql rfl rfl) ?_
                    refine VL_nil ?_
                    refine VQ_then ?_
                    refine V_cond rfl (fun hc65 => ?_) (fun hc65 => ?_)
                    · skip
                      refine V_region ?_
                      refine VL_still rfl rfl rfl (S_move rfl) ?_
                      first | refine VL_still rfl rfl rfl (S_loads Try.underlying27 rfl ti27 rfl rfl (Cells.all (by repeat (first | exact Has.here | apply Has.there)))) ?_ | refine VL_still rfl rfl rfl (S_loads Try.underlying27 rfl ti27 rfl rfl (Cells.trk (by repeat (first | exact Has.here | apply Has.there)) (by repeat (first | exact TakeR.here (by repeat (first | exact HeadR.nil | apply HeadR.cons)) | apply TakeR.there)))) ?_
                      refine VL_eff rfl (E_bs1 rfl Try.underlying35 ti27 rfl rfl rfl rfl rfl rfl) ?_
                      rintro _ _ _ ⟨b68, hb68, rfl, rfl, rfl⟩
                      refine VL_eff rfl (X_append rfl Try.underlying35 Try.underlying35 rfl tx27 rfl rfl rfl rfl hBo (by repeat (first | exact Pick.here | apply Pick.there)) (Buf.reads (G := [(b68, .cells (List.toArray [.int .i64 e1.1, .int .i64 e1.2]) 27 (0, 0))]) (Buf.lit (n := 1) (by rfl) (by omega)) (fun q hq => by simp at hq ⊢; simp [hq])) rfl (by omega)) ?_
                      rintro _ _ _ ⟨v69, G69, hB69, rfl, rfl, rfl⟩
                      refine VL_still rfl rfl rfl (S_assign rfl) ?_
                      refine VL_nil ?_
                      refine VQ_block_normal ?_
                      refine VQ_mid (v69, o ++ [e1], G69, v1, f1, G1, vl, l, Gl) ⟨(hC.alloc ht1 hP1).1 (of_decide_eq_true hc65), ?_, hB1, hBl⟩ (by repeat (first | exact trivial | refine ⟨rfl, ?_⟩)) rfl (by repeat (first | exact SubB.nil | exact Pick.here | apply Pick.there | apply SubB.emp | apply SubB.cons))
                      show Buf 27 2 _ _ _ _
                      rw [xcs_app, List.length_append]
                      exact hB69
                    · skip
                      refine V_skip ?_
                      refine VQ_block_normal ?_
                      refine VQ_mid (_, o, Go, v1, f1, G1, vl, l, Gl) ⟨(hC.alloc ht1 hP1).2 (of_decide_eq_false hc65), hBo, hB1, hBl⟩ (by repeat (first | exact trivial | refine ⟨rfl, ?_⟩)) rfl (by repeat (first | exact SubB.nil | exact Pick.here | apply Pick.there | apply SubB.emp | apply SubB.cons))
                  · skip
                    refine V_seq ?_
                    refine V_region ?_
                    refine VL_still rfl rfl rfl (S_eql rfl rfl) ?_
                    refine VL_still rfl rfl rfl (S_assign rfl) ?_
                    refine VL_nil ?_
                    refine VQ_then ?_
                    refine V_cond rfl (fun hc70 => ?_) (fun hc70 => ?_)
                    · skip
                      refine V_seq ?_
                      refine V_region ?_
                      refine VL_still rfl rfl rfl (S_move rfl) ?_
                      refine VL_still rfl rfl rfl (S_field (k := 1) Try.underlying29 rfl rfl ti3 rfl rfl) ?_
                      refine VL_still rfl rfl rfl (S_load Try.underlying3 rfl rfl (Cell.trk (by repeat (first | exact Has.here | apply Has.there)) rfl)) ?_
                      refine VL_eff rfl (E_call rfl rfl rfl Try.call11 (all_con g t vf vl f l Gf Gl h hBf acts[i].n hC.gf) (by repeat (first | exact Split.nil | exact Pick.here | apply Pick.there | apply Split.cons))) ?_
                      rintro _ _ _ ⟨v76, nb76, ⟨rfl, ro, er, out, Gr, f2, v2, G2, rfl, hBr, hB2, hP2, rfl⟩, hs76, rfl, rfl⟩
                      obtain ⟨hG2, q1, _, q2, q3, q4⟩ := hP2.room hC.gf
                      have hmx2 := hP2.outlen hC.gf
                      obtain ⟨Ar, cr, rfl, _, _⟩ := BX.rd hBr h
                      refine VL_still rfl rfl rfl (S_move rfl) ?_
                      refine VL_still rfl rfl rfl (S_extract rfl rfl) ?_
                      refine VL_still rfl rfl rfl (S_extract rfl rfl) ?_
                      refine VL_still rfl rfl rfl (S_assign rfl) ?_
                      refine VL_still rfl rfl rfl (S_assign rfl) ?_
                      refine VL_nil ?_
                      refine VQ_then ?_
                      refine V_seq ?_
                      refine V_region ?_
                      refine VL_still rfl rfl rfl (S_assign rfl) ?_
                      refine VL_nil ?_
                      refine VQ_then ?_
                      refine V_seq ?_
                      refine V_seq ?_
                      refine V_region ?_
                      refine VL_still rfl rfl rfl (S_move rfl) ?_
                      refine VL_still rfl rfl rfl (S_len Try.underlying35 rfl) ?_
                      refine VL_still rfl rfl rfl (S_move rfl) ?_
                      refine VL_nil ?_
                      refine VQ_then ?_
                      refine V_block ?_
                      refine V_loop (ι := Nat) (fun j => out.length - j) (fun j => j ≤ out.length) (fun j => [(0, .int .i64 t), (5, .pointer (some ⟨g, 0, none⟩)), (6, (.slice Ao o.length co)), (8, .pointer (some ⟨b8, 0, none⟩)), (46, (.slice (some ⟨bb, off, none⟩) acts.length cap)), (47, .int .i64 acts.length), (48, .int .i64 i), (11, .slice Ar out.length cr), (12, .int .i64 er), (13, .int .i64 (sumL (out.take j))), (79, .slice Ar out.length cr), (80, .int .i64 out.length), (81, .int .i64 j)]) (fun _ => h) (fun _ => [GM g t v2 vl, G2, Gl, Go, [(b8, .cells (List.toArray [.int .i64 acts[i].k, .int .i64 acts[i].n, .int .i64 acts[i].s, .int .i64 acts[i].l]) 29 (0, 0))], Gr]) 0 (Nat.zero_le _) (by repeat (first | exact trivial | refine ⟨rfl, ?_⟩)) rfl (by repeat (first | exact SubB.nil | exact Pick.here | apply Pick.there | apply SubB.emp | apply SubB.cons)) (fun j hj => ?_)
                      refine V_seq ?_
                      refine V_region ?_
                      refine VL_still rfl rfl rfl (S_lss rfl rfl) ?_
                      refine VL_nil ?_
                      refine VQ_then ?_
                      refine V_seq ?_
                      refine V_cond rfl (fun hc82 => ?_) (fun hc82 => ?_)
                      · skip
                        have hltj : j < out.length := by
                          have := of_decide_eq_true hc82
                          omega
                        obtain ⟨br, offr, capr, e1, hcr⟩ := (BX.rd hBr h).at_ xcE rfl hltj
                        cases e1
                        have hx := q2 out[j] (List.getElem_mem hltj)
                        have hb := sumL_bd (l := out.take j) (fun x hx => q2 x (List.mem_of_mem_take hx))
                        have hl' : (out.take j).length ≤ out.length := by rw [List.length_take]; omega
                        unfold OkE at hx
                        refine V_skip ?_
                        refine VQ_then ?_
                        refine V_seq ?_
                        refine V_block ?_
                        refine V_seq ?_
                        refine V_region ?_
                        refine VL_still rfl rfl rfl (X_at j Try.underlying35 tx27 rfl rfl hltj) ?_
                        refine VL_still rfl rfl rfl (S_loads (vs := xc out[j]) Try.underlying27 rfl ti27 rfl rfl (hcr.mono (Sub.refl _) (fun q hq => by simp at hq ⊢; simp [hq]))) ?_
                        refine VL_eff rfl (E_alloc rfl tz27) ?_
                        rintro _ _ _ ⟨b15, hb15, rfl, rfl, rfl⟩
                        refine VL_eff rfl (E_store ti27 rfl rfl rfl rfl rfl (by repeat (first | exact Has.here | apply Has.there)) (by repeat (first | exact PutR.nil | exact SetL.here | apply SetL.there | apply PutR.cons)) (by repeat (first | exact UpdG.here | apply UpdG.there))) ?_
                        rintro _ _ _ ⟨rfl, rfl, rfl⟩
                        refine VL_nil ?_
                        refine VQ_then ?_
                        refine V_region ?_
                        refine VL_still rfl rfl rfl (S_move rfl) ?_
                        refine VL_still rfl rfl rfl (S_field (k := 1) Try.underlying27 rfl rfl ti3 rfl rfl) ?_
                        refine VL_still rfl rfl rfl (S_load Try.underlying3 rfl rfl (Cell.trk (by repeat (first | exact Has.here | apply Has.there)) rfl)) ?_
                        first | refine VL_still rfl rfl rfl (S_addi rfl rfl (by omega) (by omega)) ?_ | refine VL_still rfl rfl rfl (S_add rfl rfl) ?_
                        refine VL_still rfl rfl rfl (S_assign rfl) ?_
                        refine VL_nil ?_
                        refine VQ_block_normal ?_
                        refine VQ_then ?_
                        refine V_region ?_
                        first | refine VL_still rfl rfl rfl (S_addi rfl rfl (by omega) (by omega)) ?_ | refine VL_still rfl rfl rfl (S_add rfl rfl) ?_
                        refine VL_still rfl rfl rfl (S_move rfl) ?_
                        refine VL_nil ?_
                        refine VQ_mid (j + 1) ⟨by omega, by omega⟩ (by rw [sumL_snoc out j hltj]; exact (by repeat (first | exact trivial | refine ⟨rfl, ?_⟩))) rfl (by repeat (first | exact SubB.nil | exact Pick.here | apply Pick.there | apply SubB.emp | apply SubB.cons))
                      · skip
                        have hge : j = out.length := by
                          have := of_decide_eq_false hc82
                          omega
                        subst hge
                        rw [List.take_length]
                        refine V_exit ?_
                        refine VQ_then_exit ?_
                        refine VQ_then_exit ?_
                        refine VQ_block_exit ?_
                        refine VQ_then ?_
                        refine V_seq ?_
                        refine V_seq ?_
                        refine V_region ?_
                        refine VL_still rfl rfl rfl (S_move rfl) ?_
                        refine VL_still rfl rfl rfl (S_eql rfl rfl) ?_
                        refine VL_still rfl rfl rfl (S_move rfl) ?_
                        refine VL_bool 92 rfl (fun hc92 => ?_) (fun hc92 => ?_)
                        · skip
                          refine VL_still rfl rfl rfl (S_move rfl) ?_
                          refine VL_still rfl rfl rfl (S_field (k := 1) Try.underlying29 rfl rfl ti3 rfl rfl) ?_
                          refine VL_still rfl rfl rfl (S_load Try.underlying3 rfl rfl (Cell.trk (by repeat (first | exact Has.here | apply Has.there)) rfl)) ?_
                          refine VL_still rfl rfl rfl (S_max rfl rfl) ?_
                          refine VL_still rfl rfl rfl (S_neq rfl rfl) ?_
                          first | refine VL_still rfl rfl rfl (S_pick_t rfl rfl) ?_ | refine VL_still rfl rfl rfl (S_pick_f rfl rfl) ?_
                          refine VL_nil ?_
                          refine VQ_then ?_
                          refine V_cond rfl (fun hc98 => ?_) (fun hc98 => ?_)
                          · skip
                            exfalso
                            rcases Int.lt_or_le (sumL f) acts[i].n with hk | hk
                            · have := (q4 hk).1
                              simp_all
                            · have := (q3 hk).2
                              simp_all
                          · skip
                            refine V_skip ?_
                            refine VQ_then ?_
                            refine V_region ?_
                            refine VL_still rfl rfl rfl (S_move rfl) ?_
                            refine VL_still rfl rfl rfl (S_move rfl) ?_
                            refine VL_eff rfl (X_append rfl Try.underlying35 Try.underlying35 rfl tx27 rfl rfl rfl rfl hBo (by repeat (first | exact Pick.here | apply Pick.there)) (Buf.reads hBr (fun q hq => by simp at hq ⊢; simp [hq])) (xcE.flat_one _) (by omega)) ?_
                            rintro _ _ _ ⟨v101, G101, hB101, rfl, rfl, rfl⟩
                            refine VL_still rfl rfl rfl (S_assign rfl) ?_
                            refine VL_nil ?_
                            refine VQ_block_normal ?_
                            refine VQ_mid (v101, o ++ out, G101, v2, f2, G2, vl, l, Gl) ⟨hC.all ht1 hP2, ?_, hB2, hBl⟩ (by repeat (first | exact trivial | refine ⟨rfl, ?_⟩)) rfl (by repeat (first | exact SubB.nil | exact Pick.here | apply Pick.there | apply SubB.emp | apply SubB.cons))
                            show Buf 27 2 _ _ _ _
                            rw [xcs_app, List.length_append]
                            exact hB101
                        · skip
                          refine VL_skip rfl rfl rfl ?_
                          refine VL_skip rfl rfl rfl ?_
                          refine VL_skip rfl rfl rfl ?_
                          refine VL_skip rfl rfl rfl ?_
                          refine VL_skip rfl rfl rfl ?_
                          first | refine VL_still rfl rfl rfl (S_pick_t rfl rfl) ?_ | refine VL_still rfl rfl rfl (S_pick_f rfl rfl) ?_
                          refine VL_nil ?_
                          refine VQ_then ?_
                          refine V_cond_false rfl ?_
                          refine V_skip ?_
                          refine VQ_then ?_
                          refine V_region ?_
                          refine VL_still rfl rfl rfl (S_move rfl) ?_
                          refine VL_still rfl rfl rfl (S_move rfl) ?_
                          refine VL_eff rfl (X_append rfl Try.underlying35 Try.underlying35 rfl tx27 rfl rfl rfl rfl hBo (by repeat (first | exact Pick.here | apply Pick.there)) (Buf.reads hBr (fun q hq => by simp at hq ⊢; simp [hq])) (xcE.flat_one _) (by omega)) ?_
                          rintro _ _ _ ⟨v101, G101, hB101, rfl, rfl, rfl⟩
                          refine VL_still rfl rfl rfl (S_assign rfl) ?_
                          refine VL_nil ?_
                          refine VQ_block_normal ?_
                          refine VQ_mid (v101, o ++ out, G101, v2, f2, G2, vl, l, Gl) ⟨hC.all ht1 hP2, ?_, hB2, hBl⟩ (by repeat (first | exact trivial | refine ⟨rfl, ?_⟩)) rfl (by repeat (first | exact SubB.nil | exact Pick.here | apply Pick.there | apply SubB.emp | apply SubB.cons))
                          show Buf 27 2 _ _ _ _
                          rw [xcs_app, List.length_append]
                          exact hB101
                    · skip
                      refine V_seq_mid (ι := Bool) (fun b => b = true → acts[i].k = 3 ∨ acts[i].k = 4) (fun b => [(0, .int .i64 t), (5, .pointer (some ⟨g, 0, none⟩)), (6, (.slice Ao o.length co)), (8, .pointer (some ⟨b8, 0, none⟩)), (46, (.slice (some ⟨bb, off, none⟩) acts.length cap)), (47, .int .i64 acts.length), (48, .int .i64 i), (53, .int .i64 acts[i].k), (102, .bool b)]) (fun _ => h) (fun _ => [GM g t vf vl, Gf, Gl, Go, [(b8, .cells (List.toArray [.int .i64 acts[i].k, .int .i64 acts[i].n, .int .i64 acts[i].s, .int .i64 acts[i].l]) 29 (0, 0))]]) ?_ (fun b hk34 => ?_)
                      · skip
                        refine V_seq ?_
                        refine V_region ?_
                        refine VL_still rfl rfl rfl (S_eql rfl rfl) ?_
                        refine VL_still rfl rfl rfl (S_assign rfl) ?_
                        refine VL_nil ?_
                        refine VQ_then ?_
                        refine V_cond rfl (fun hc102 => ?_) (fun hc102 => ?_)
                        · skip
                          refine V_skip ?_
                          refine VQ_mid _ (fun _ => .inl (of_decide_eq_true hc102)) (by repeat (first | exact trivial | refine ⟨rfl, ?_⟩)) rfl (by repeat (first | exact SubB.nil | exact Pick.here | apply Pick.there | apply SubB.emp | apply SubB.cons))
                        · skip
                          refine V_region ?_
                          refine VL_still rfl rfl rfl (S_eql rfl rfl) ?_
                          refine VL_still rfl rfl rfl (S_assign rfl) ?_
                          refine VL_nil ?_
                          refine VQ_mid _ (fun h => .inr (of_decide_eq_true h)) (by repeat (first | exact trivial | refine ⟨rfl, ?_⟩)) rfl (by repeat (first | exact SubB.nil | exact Pick.here | apply Pick.there | apply SubB.emp | apply SubB.cons))
                      · skip

                        refine V_cond rfl (fun hc102 => ?_) (fun hc102 => ?_)
                        · skip
                          refine V_seq ?_
                          refine V_seq ?_
                          refine V_region ?_
                          refine VL_still rfl rfl rfl (S_move rfl) ?_
                          refine VL_still rfl rfl rfl (S_len Try.underlying35 rfl) ?_
                          refine VL_still rfl rfl rfl (S_eql rfl rfl) ?_
                          refine VL_nil ?_
                          refine VQ_then ?_
                          refine V_cond rfl (fun hc107 => ?_) (fun hc107 => ?_)
                          · skip
                            refine V_exit ?_
                            refine VQ_then_exit ?_
                            refine VQ_block_past rfl ?_
                            refine VQ_then_exit ?_
                            refine VQ_block_exit ?_
                            refine VQ_then ?_
                            refine V_region ?_
                            first | refine VL_still rfl rfl rfl (S_addi rfl rfl (by omega) (by omega)) ?_ | refine VL_still rfl rfl rfl (S_add rfl rfl) ?_
                            refine VL_still rfl rfl rfl (S_move rfl) ?_
                            refine VL_nil ?_
                            refine VQ_mid (i + 1, _, o, Go, vf, f, Gf, vl, l, Gl) ⟨⟨by omega, hC, hBo, hBf, hBl⟩, by simp only; omega⟩ (by repeat (first | exact trivial | refine ⟨rfl, ?_⟩)) rfl (by repeat (first | exact SubB.nil | exact Pick.here | apply Pick.there | apply SubB.emp | apply SubB.cons))
                          · skip
                            obtain ⟨e, o1, rfl⟩ : ∃ e o1, o = e :: o1 := by
                              cases o with
                              | nil => simp at hc107
                              | cons e o1 => exact ⟨e, o1, rfl⟩
                            obtain ⟨be, offe, cape, e9, hce⟩ := (hBo.rd h).at_ xcE rfl (i := 0) (by simp)
                            cases e9
                            obtain ⟨hT1, hC1⟩ := hC.free ht1
                            obtain ⟨hT2, hC2⟩ := hC.later ht1
                            have hoe := hC.oo e (by simp)
                            have hk := hk34 hc102
                            have hlen1 : (e :: o1).length = o1.length + 1 := rfl
                            refine V_skip ?_
                            refine VQ_then ?_
                            refine V_seq ?_
                            refine V_region ?_
                            refine VL_still rfl rfl rfl (S_move rfl) ?_
                            refine VL_still rfl rfl rfl (X_at 0 Try.underlying35 tx27 rfl rfl (by simp)) ?_
                            refine VL_still rfl rfl rfl (S_loads (vs := xc e) Try.underlying27 rfl ti27 rfl rfl (hce.mono (Sub.refl _) (fun q hq => by simp at hq ⊢; simp [hq]))) ?_
                            refine VL_eff rfl (E_alloc rfl tz27) ?_
                            rintro _ _ _ ⟨b16, hb16, rfl, rfl, rfl⟩
                            refine VL_eff rfl (E_store ti27 rfl rfl rfl rfl rfl (by repeat (first | exact Has.here | apply Has.there)) (by repeat (first | exact PutR.nil | exact SetL.here | apply SetL.there | apply PutR.cons)) (by repeat (first | exact UpdG.here | apply UpdG.there))) ?_
                            rintro _ _ _ ⟨rfl, rfl, rfl⟩
                            refine VL_nil ?_
                            refine VQ_then ?_
                            refine V_seq ?_
                            refine V_region ?_
                            refine VL_eff rfl (E_bs0 rfl Try.underlying35 ti27) ?_
                            rintro _ _ _ ⟨b111, hb111, rfl, rfl, rfl⟩
                            refine VL_still rfl rfl rfl (S_move rfl) ?_
                            refine VL_still rfl rfl rfl (X_cut 1 (o1.length + 1) Try.underlying35 tx27 rfl rfl rfl (by omega) (by simp at hlo; omega)) ?_
                            refine VL_eff rfl (X_append rfl Try.underlying35 Try.underlying35 rfl tx27 rfl rfl rfl rfl (BX.empty b111) (by repeat (first | exact Pick.here | apply Pick.there)) (SlR.cut (Buf.reads hBo (fun q hq => by simp at hq ⊢; simp [hq])) (l := 1) (m := o1.length + 1) (by omega) (by simp)) (ones_take (ones_drop (xcE.flat_one _))) (by rw [List.length_nil]; omega)) ?_
                            rintro _ _ _ ⟨v114, G114, hB114, rfl, rfl, rfl⟩
                            have hB114' : BX v114 o1 G114 := by
                              have eq : List.take ((o1.length + 1 - 1) * 2) (List.drop (1 * 2) (xcs (e :: o1))) = xcs o1 := by
                                rw [xcE.flat_drop, xcE.flat_take]
                                simp
                              rw [eq] at hB114
                              simpa using hB114
                            refine VL_still rfl rfl rfl (S_assign rfl) ?_
                            refine VL_nil ?_
                            refine VQ_then ?_
                            refine V_seq ?_
                            refine V_region ?_
                            refine VL_still rfl rfl rfl (S_field (k := 0) Try.underlying29 rfl rfl ti3 rfl rfl) ?_
                            refine VL_still rfl rfl rfl (S_load Try.underlying3 rfl rfl (Cell.trk (by repeat (first | exact Has.here | apply Has.there)) rfl)) ?_
                            refine VL_still rfl rfl rfl (S_eql rfl rfl) ?_
                            refine VL_still rfl rfl rfl (S_move rfl) ?_
                            refine VL_bool 118 rfl (fun hc118 => ?_) (fun hc118 => ?_)
                            · skip
                              refine VL_still rfl rfl rfl (S_move rfl) ?_
                              first | refine VL_still rfl rfl rfl (S_loads Try.underlying27 rfl ti27 rfl rfl (Cells.all (by repeat (first | exact Has.here | apply Has.there)))) ?_ | refine VL_still rfl rfl rfl (S_loads Try.underlying27 rfl ti27 rfl rfl (Cells.trk (by repeat (first | exact Has.here | apply Has.there)) (by repeat (first | exact TakeR.here (by repeat (first | exact HeadR.nil | apply HeadR.cons)) | apply TakeR.there)))) ?_
                              refine VL_eff rfl (E_call rfl rfl rfl Try.call8 (free_con g t vf vl f l Gf Gl h hBf hBl (by omega) (by omega) e.1 e.2 ht1 hC.gf.ok) (by repeat (first | exact Split.nil | exact Pick.here | apply Pick.there | apply Split.cons))) ?_
                              rintro _ _ _ ⟨v121, nb121, ⟨rfl, rfl, v3, G3, hB3, rfl⟩, hs121, rfl, rfl⟩
                              rw [if_pos hT1] at hB3 ⊢
                              refine VL_still rfl rfl rfl (S_neq rfl rfl) ?_
                              first | refine VL_still rfl rfl rfl (S_pick_t rfl rfl) ?_ | refine VL_still rfl rfl rfl (S_pick_f rfl rfl) ?_
                              refine VL_still rfl rfl rfl (S_move rfl) ?_
                              refine VL_bool 124 rfl (fun hc124 => ?_) (fun hc124 => ?_)
                              · skip
                                simp at hc124
                              · skip
                                refine VL_still rfl rfl rfl (S_field (k := 0) Try.underlying29 rfl rfl ti3 rfl rfl) ?_
                                refine VL_still rfl rfl rfl (S_load Try.underlying3 rfl rfl (Cell.trk (by repeat (first | exact Has.here | apply Has.there)) rfl)) ?_
                                refine VL_still rfl rfl rfl (S_eql rfl rfl) ?_
                                refine VL_still rfl rfl rfl (S_move rfl) ?_
                                refine VL_bool 128 rfl (fun hc128 => ?_) (fun hc128 => ?_)
                                · skip
                                  have := of_decide_eq_true hc128
                                  have := of_decide_eq_true hc118
                                  omega
                                · skip
                                  refine VL_skip rfl rfl rfl ?_
                                  refine VL_skip rfl rfl rfl ?_
                                  refine VL_skip rfl rfl rfl ?_
                                  refine VL_skip rfl rfl rfl ?_
                                  first | refine VL_still rfl rfl rfl (S_pick_t rfl rfl) ?_ | refine VL_still rfl rfl rfl (S_pick_f rfl rfl) ?_
                                  first | refine VL_still rfl rfl rfl (S_pick_t rfl rfl) ?_ | refine VL_still rfl rfl rfl (S_pick_f rfl rfl) ?_
                                  refine VL_nil ?_
                                  refine VQ_then ?_
                                  refine V_cond_false rfl ?_
                                  refine V_skip ?_
                                  refine VQ_block_normal ?_
                                  refine VQ_mid (v114, o1, G114, v3, putL e f, G3, vl, l, Gl) ⟨hC1, hB114', hB3, hBl⟩ (by repeat (first | exact trivial | refine ⟨rfl, ?_⟩)) rfl (by repeat (first | exact SubB.nil | exact Pick.here | apply Pick.there | apply SubB.emp | apply SubB.cons))
                            · skip
                              refine VL_skip rfl rfl rfl ?_
                              refine VL_skip rfl rfl rfl ?_
                              refine VL_skip rfl rfl rfl ?_
                              refine VL_skip rfl rfl rfl ?_
                              first | refine VL_still rfl rfl rfl (S_pick_t rfl rfl) ?_ | refine VL_still rfl rfl rfl (S_pick_f rfl rfl) ?_
                              refine VL_still rfl rfl rfl (S_move rfl) ?_
                              refine VL_still rfl rfl rfl (S_field (k := 0) Try.underlying29 rfl rfl ti3 rfl rfl) ?_
                              refine VL_still rfl rfl rfl (S_load Try.underlying3 rfl rfl (Cell.trk (by repeat (first | exact Has.here | apply Has.there)) rfl)) ?_
                              refine VL_still rfl rfl rfl (S_eql rfl rfl) ?_
                              refine VL_still rfl rfl rfl (S_move rfl) ?_
                              refine VL_bool 128 rfl (fun hc128 => ?_) (fun hc128 => ?_)
                              · skip
                                refine VL_still rfl rfl rfl (S_move rfl) ?_
                                first | refine VL_still rfl rfl rfl (S_loads Try.underlying27 rfl ti27 rfl rfl (Cells.all (by repeat (first | exact Has.here | apply Has.there)))) ?_ | refine VL_still rfl rfl rfl (S_loads Try.underlying27 rfl ti27 rfl rfl (Cells.trk (by repeat (first | exact Has.here | apply Has.there)) (by repeat (first | exact TakeR.here (by repeat (first | exact HeadR.nil | apply HeadR.cons)) | apply TakeR.there)))) ?_
                                refine VL_eff rfl (E_call rfl rfl rfl Try.call12 (later_con g t vf vl f l Gf Gl h hBf hBl (by omega) (by omega) e.1 e.2 ht1 hC.gl.ok) (by repeat (first | exact Split.nil | exact Pick.here | apply Pick.there | apply Split.cons))) ?_
                                rintro _ _ _ ⟨v131, nb131, ⟨rfl, rfl, v4, G4, hB4, rfl⟩, hs131, rfl, rfl⟩
                                rw [if_pos hT2] at hB4 ⊢
                                refine VL_still rfl rfl rfl (S_neq rfl rfl) ?_
                                first | refine VL_still rfl rfl rfl (S_pick_t rfl rfl) ?_ | refine VL_still rfl rfl rfl (S_pick_f rfl rfl) ?_
                                first | refine VL_still rfl rfl rfl (S_pick_t rfl rfl) ?_ | refine VL_still rfl rfl rfl (S_pick_f rfl rfl) ?_
                                refine VL_nil ?_
                                refine VQ_then ?_
                                refine V_cond rfl (fun hc134 => ?_) (fun hc134 => ?_)
                                · skip
                                  simp at hc134
                                · skip
                                  refine V_skip ?_
                                  refine VQ_block_normal ?_
                                  refine VQ_mid (v114, o1, G114, vf, f, Gf, v4, putL e l, G4) ⟨hC2, hB114', hBf, hB4⟩ (by repeat (first | exact trivial | refine ⟨rfl, ?_⟩)) rfl (by repeat (first | exact SubB.nil | exact Pick.here | apply Pick.there | apply SubB.emp | apply SubB.cons))
                              · skip
                                have := of_decide_eq_false hc128
                                have := of_decide_eq_false hc118
                                omega
                        · skip
                          refine V_seq ?_
                          refine V_region ?_
                          refine VL_still rfl rfl rfl (S_eql rfl rfl) ?_
                          refine VL_still rfl rfl rfl (S_assign rfl) ?_
                          refine VL_nil ?_
                          refine VQ_then ?_
                          refine V_cond rfl (fun hc135 => ?_) (fun hc135 => ?_)
                          · skip
                            refine V_region ?_
                            refine VL_still rfl rfl rfl (S_move rfl) ?_
                            refine VL_eff rfl (E_call rfl rfl rfl Try.call13 (commit_con g t vf vl f l Gf Gl h hBf hBl hC.gl.ok (by omega) (fun k => (hC.commit (f := f) ht1 k).gf)) (by repeat (first | exact Split.nil | exact Pick.here | apply Pick.there | apply Split.cons))) ?_
                            rintro _ _ _ ⟨v138, nb138, ⟨rfl, v5, G5, hB5, rfl⟩, hs138, rfl, rfl⟩
                            refine VL_nil ?_
                            refine VQ_block_normal ?_
                            have hC5 := hC.commit (f := f) ht1 l.length
                            rw [List.take_length, List.drop_length] at hC5
                            refine VQ_mid (_, o, Go, v5, putAll f l, G5, .slice none 0 0, [], []) ⟨hC5, hBo, hB5, Buf.nil _ _⟩ (by repeat (first | exact trivial | refine ⟨rfl, ?_⟩)) rfl (by repeat (first | exact SubB.nil | exact Pick.here | apply Pick.there | apply SubB.emp | apply SubB.cons))
                          · skip
                            refine V_skip ?_
                            refine VQ_block_normal ?_
                            refine VQ_mid (_, o, Go, vf, f, Gf, vl, l, Gl) ⟨hC, hBo, hBf, hBl⟩ (by repeat (first | exact trivial | refine ⟨rfl, ?_⟩)) rfl (by repeat (first | exact SubB.nil | exact Pick.here | apply Pick.there | apply SubB.emp | apply SubB.cons))
              · skip
                obtain ⟨hC', hBo', hBf', hBl'⟩ := hi
                simp only at hC' hBo' hBf' hBl' ⊢
                have hcl' := hC'.len ht0 ht1
                obtain ⟨hsum, hone, hall⟩ := hC'.sum ht0
                refine V_seq ?_
                refine V_region ?_
                refine VL_still rfl rfl rfl (S_zarr Try.underlying39 ti5 tz39) ?_
                refine VL_eff rfl (E_alloc rfl tz39) ?_
                rintro _ _ _ ⟨b17, hb17, rfl, rfl, rfl⟩
                refine VL_eff rfl (E_store ti39 rfl rfl rfl (by rw [arrN_len]; rfl) (arr_one []) (by repeat (first | exact Has.here | apply Has.there)) (PutR.all rfl) (by repeat (first | exact UpdG.here | apply UpdG.there))) ?_
                rintro _ _ _ ⟨rfl, rfl, rfl⟩
                refine VL_nil ?_
                refine VQ_then ?_
                refine V_seq ?_
                refine V_region ?_
                refine VL_eff rfl (E_bs0 rfl Try.underlying35 ti27) ?_
                rintro _ _ _ ⟨b140, hb140, rfl, rfl, rfl⟩
                refine VL_still rfl rfl rfl (S_move rfl) ?_
                refine VL_eff rfl (X_append rfl Try.underlying35 Try.underlying35 rfl tx27 rfl rfl rfl rfl (BX.empty b140) (by repeat (first | exact Pick.here | apply Pick.there)) (Buf.reads hBo' (fun q hq => by simp at hq ⊢; simp [hq])) (xcE.flat_one _) (by rw [List.length_nil]; omega)) ?_
                rintro _ _ _ ⟨v142, G142, hB142, rfl, rfl, rfl⟩
                have hB142' : BX v142 o' G142 := by simpa using hB142
                refine VL_still rfl rfl rfl (S_assign rfl) ?_
                refine VL_nil ?_
                refine VQ_then ?_
                refine V_seq ?_
                refine V_region ?_
                refine VL_still rfl rfl rfl (S_move rfl) ?_
                refine VL_still rfl rfl rfl (S_move rfl) ?_
                refine VL_eff rfl (E_call rfl rfl rfl Try.call14 (list_con g t vf' vl' f' l' Gf' Gl' h hBf' hBl' (by omega) (by omega)) (by repeat (first | exact Split.nil | exact Pick.here | apply Pick.there | apply Split.cons))) ?_
                rintro _ _ _ ⟨v145, nb145, ⟨rfl, G145, hB145, rfl⟩, hs145, rfl, rfl⟩
                refine VL_eff rfl (X_append rfl Try.underlying35 Try.underlying35 rfl tx27 rfl rfl rfl rfl hB142' (by repeat (first | exact Pick.here | apply Pick.there)) (Buf.reads hB145 (fun q hq => by simp at hq ⊢; simp [hq])) (xcE.flat_one _) (by omega)) ?_
                rintro _ _ _ ⟨v146, G146, hB146, rfl, rfl, rfl⟩
                have hB146' : BX v146 (o' ++ f') G146 := by
                  show Buf 27 2 _ _ _ _
                  rw [xcs_app, List.length_append]
                  exact hB146
                have hofl : (o' ++ f').length ≤ 1024 := by rw [List.length_append]; omega
                refine VL_still rfl rfl rfl (S_assign rfl) ?_
                refine VL_nil ?_
                refine VQ_then ?_
                refine V_seq ?_
                refine V_region ?_
                refine VL_still rfl rfl rfl (S_move rfl) ?_
                refine VL_still rfl rfl rfl (S_move rfl) ?_
                refine VL_eff rfl (E_call rfl rfl rfl Try.call15 (waiting_con g t vf' vl' f' l' Gf' Gl' h hBf' hBl' (by omega) (by omega)) (by repeat (first | exact Split.nil | exact Pick.here | apply Pick.there | apply Split.cons))) ?_
                rintro _ _ _ ⟨v149, nb149, ⟨rfl, G149, hB149, rfl⟩, hs149, rfl, rfl⟩
                refine VL_eff rfl (X_append rfl Try.underlying35 Try.underlying35 rfl tx27 rfl rfl rfl rfl hB146' (by repeat (first | exact Pick.here | apply Pick.there)) (Buf.reads hB149 (fun q hq => by simp at hq ⊢; simp [hq])) (xcE.flat_one _) (by omega)) ?_
                rintro _ _ _ ⟨v150, G150, hB150, rfl, rfl, rfl⟩
                have hB150' : BX v150 (o' ++ f' ++ l') G150 := by
                  show Buf 27 2 _ _ _ _
                  rw [xcs_app, List.length_append]
                  exact hB150
                obtain ⟨A5, c5, rfl, _, _⟩ := BX.rd hB150' h
                have hal : (o' ++ f' ++ l').length ≤ 1024 := by rw [List.length_append, List.length_append]; omega
                refine VL_still rfl rfl rfl (S_assign rfl) ?_
                refine VL_nil ?_
                refine VQ_then ?_
                refine V_seq ?_
                refine V_region ?_
                refine VL_still rfl rfl rfl (S_assign rfl) ?_
                refine VL_nil ?_
                refine VQ_then ?_
                refine V_seq ?_
                refine V_seq ?_
                refine V_region ?_
                refine VL_still rfl rfl rfl (S_move rfl) ?_
                refine VL_still rfl rfl rfl (S_len Try.underlying35 rfl) ?_
                refine VL_still rfl rfl rfl (S_move rfl) ?_
                refine VL_nil ?_
                refine VQ_then ?_
                refine V_block ?_
                refine V_loop (ι := Nat) (fun j => (o' ++ f' ++ l').length - j) (fun j => j ≤ (o' ++ f' ++ l').length) (fun j => [(0, .int .i64 t), (5, .pointer (some ⟨g, 0, none⟩)), (6, vo'), (17, .pointer (some ⟨b17, 0, none⟩)), (46, (.slice (some ⟨bb, off, none⟩) acts.length cap)), (47, .int .i64 acts.length), (48, .int .i64 i), (19, .int .i64 (sumL ((o' ++ f' ++ l').take j))), (151, (.slice A5 (o' ++ f' ++ l').length c5)), (152, .int .i64 (o' ++ f' ++ l').length), (153, .int .i64 j)]) (fun _ => h) (fun j => [GM g t vf' vl', Gf', Gl', Go', [(b17, .cells (List.toArray (arr ((o' ++ f' ++ l').take j))) 39 (0, 0))], G150]) 0 (Nat.zero_le _) (by repeat (first | exact trivial | refine ⟨rfl, ?_⟩)) rfl (by repeat (first | exact SubB.nil | exact Pick.here | apply Pick.there | apply SubB.emp | apply SubB.cons)) (fun j hj => ?_)
                refine V_seq ?_
                refine V_region ?_
                refine VL_still rfl rfl rfl (S_lss rfl rfl) ?_
                refine VL_nil ?_
                refine VQ_then ?_
                refine V_seq ?_
                refine V_cond rfl (fun hc154 => ?_) (fun hc154 => ?_)
                · skip
                  have hltj : j < (o' ++ f' ++ l').length := by
                    have := of_decide_eq_true hc154
                    omega
                  obtain ⟨br, offr, capr, e1, hcr⟩ := (BX.rd hB150' h).at_ xcE rfl hltj
                  cases e1
                  have hx := hall _ (List.getElem_mem hltj)
                  have hsn := sumL_snoc (o' ++ f' ++ l') j hltj
                  have hdr : (o' ++ f' ++ l').take (j + 1) = (o' ++ f' ++ l').take j ++ [(o' ++ f' ++ l')[j]] := List.take_succ_eq_append_getElem hltj
                  have hcov : ∀ s : Int, inX s (o' ++ f' ++ l')[j] = true → cnt ((o' ++ f' ++ l').take j) s = 0 := fun s hs => by
                    have h1 := hone s
                    have h2 : cnt (o' ++ f' ++ l') s = cnt ((o' ++ f' ++ l').take j) s + cnt ((o' ++ f' ++ l').drop j) s := by rw [← cnt_app, List.take_append_drop]
                    rw [List.drop_eq_getElem_cons hltj, cnt_cons, if_pos hs] at h2
                    rw [inX_iff] at hs
                    unfold OkT at hx
                    have h3 := h1 (by omega) (by omega)
                    omega
                  have hsb := sumL_bd (l := (o' ++ f' ++ l').take j) (fun x hx => (hall x (List.mem_of_mem_take hx)).ok ht1)
                  have hlt' : ((o' ++ f' ++ l').take j).length ≤ 1024 := by rw [List.length_take]; omega
                  generalize hej : (o' ++ f' ++ l')[j] = e at *
                  obtain ⟨a, n⟩ := e
                  unfold OkT at hx
                  simp only at hx hsn
                  obtain ⟨a, rfl⟩ : ∃ a' : Nat, a = a' := ⟨a.toNat, by omega⟩
                  refine V_skip ?_
                  refine VQ_then ?_
                  refine V_seq ?_
                  refine V_block ?_
                  refine V_seq ?_
                  refine V_region ?_
                  refine VL_still rfl rfl rfl (X_at j Try.underlying35 tx27 rfl rfl hltj) ?_
                  refine VL_still rfl rfl rfl (S_loads (vs := xc ((a : Int), n)) Try.underlying27 rfl ti27 rfl rfl (hcr.mono (Sub.refl _) (fun q hq => by simp at hq ⊢; simp [hq]))) ?_
                  refine VL_eff rfl (E_alloc rfl tz27) ?_
                  rintro _ _ _ ⟨b21, hb21, rfl, rfl, rfl⟩
                  refine VL_eff rfl (E_store ti27 rfl rfl rfl rfl rfl (by repeat (first | exact Has.here | apply Has.there)) (by repeat (first | exact PutR.nil | exact SetL.here | apply SetL.there | apply PutR.cons)) (by repeat (first | exact UpdG.here | apply UpdG.there))) ?_
                  rintro _ _ _ ⟨rfl, rfl, rfl⟩
                  refine VL_nil ?_
                  refine VQ_then ?_
                  refine V_seq ?_
                  refine V_seq ?_
                  refine V_region ?_
                  refine VL_still rfl rfl rfl (S_field (k := 1) Try.underlying27 rfl rfl ti3 rfl rfl) ?_
                  refine VL_still rfl rfl rfl (S_load Try.underlying3 rfl rfl (Cell.trk (by repeat (first | exact Has.here | apply Has.there)) rfl)) ?_
                  refine VL_still rfl rfl rfl (S_lss rfl rfl) ?_
                  refine VL_still rfl rfl rfl (S_move rfl) ?_
                  refine VL_bool 160 rfl (fun hc160 => ?_) (fun hc160 => ?_)
                  · skip
                    have := of_decide_eq_true hc160
                    omega
                  · skip
                    refine VL_still rfl rfl rfl (S_field (k := 0) Try.underlying27 rfl rfl ti3 rfl rfl) ?_
                    refine VL_still rfl rfl rfl (S_load Try.underlying3 rfl rfl (Cell.trk (by repeat (first | exact Has.here | apply Has.there)) rfl)) ?_
                    refine VL_still rfl rfl rfl (S_lss rfl rfl) ?_
                    first | refine VL_still rfl rfl rfl (S_pick_t rfl rfl) ?_ | refine VL_still rfl rfl rfl (S_pick_f rfl rfl) ?_
                    refine VL_still rfl rfl rfl (S_move rfl) ?_
                    refine VL_bool 165 rfl (fun hc165 => ?_) (fun hc165 => ?_)
                    · skip
                      have := of_decide_eq_true hc165
                      omega
                    · skip
                      refine VL_still rfl rfl rfl (S_field (k := 0) Try.underlying27 rfl rfl ti3 rfl rfl) ?_
                      refine VL_still rfl rfl rfl (S_load Try.underlying3 rfl rfl (Cell.trk (by repeat (first | exact Has.here | apply Has.there)) rfl)) ?_
                      refine VL_still rfl rfl rfl (S_move rfl) ?_
                      refine VL_still rfl rfl rfl (S_field (k := 1) Try.underlying27 rfl rfl ti3 rfl rfl) ?_
                      refine VL_still rfl rfl rfl (S_load Try.underlying3 rfl rfl (Cell.trk (by repeat (first | exact Has.here | apply Has.there)) rfl)) ?_
                      first | refine VL_still rfl rfl rfl (S_subi rfl rfl (by omega) (by omega)) ?_ | refine VL_still rfl rfl rfl (S_sub rfl rfl) ?_
                      refine VL_still rfl rfl rfl (S_gtr rfl rfl) ?_
                      first | refine VL_still rfl rfl rfl (S_pick_t rfl rfl) ?_ | refine VL_still rfl rfl rfl (S_pick_f rfl rfl) ?_
                      refine VL_nil ?_
                      refine VQ_then ?_
                      refine V_cond rfl (fun hc173 => ?_) (fun hc173 => ?_)
                      · skip
                        have := of_decide_eq_true hc173
                        omega
                      · skip
                        refine V_skip ?_
                        refine VQ_then ?_
                        refine V_seq ?_
                        refine V_region ?_
                        refine VL_still rfl rfl rfl (S_field (k := 0) Try.underlying27 rfl rfl ti3 rfl rfl) ?_
                        refine VL_still rfl rfl rfl (S_load Try.underlying3 rfl rfl (Cell.trk (by repeat (first | exact Has.here | apply Has.there)) rfl)) ?_
                        refine VL_still rfl rfl rfl (S_assign rfl) ?_
                        refine VL_nil ?_
                        refine VQ_then ?_
                        refine V_block ?_
                        refine V_loop (ι := Nat) (fun q => ((a : Int) + n - q).toNat) (fun q => a ≤ q ∧ (q : Int) ≤ a + n) (fun q => [(0, .int .i64 t), (5, .pointer (some ⟨g, 0, none⟩)), (6, vo'), (17, .pointer (some ⟨b17, 0, none⟩)), (46, (.slice (some ⟨bb, off, none⟩) acts.length cap)), (47, .int .i64 acts.length), (48, .int .i64 i), (19, .int .i64 (sumL ((o' ++ f' ++ l').take j) + ((q : Int) - a))), (151, (.slice (some ⟨br, offr, none⟩) (o' ++ f' ++ l').length c5)), (152, .int .i64 (o' ++ f' ++ l').length), (153, .int .i64 j), (21, .pointer (some ⟨b21, 0, none⟩)), (22, .int .i64 (q : Int))]) (fun _ => h) (fun q => [GM g t vf' vl', Gf', Gl', Go', [(b17, .cells (List.toArray (arr (((o' ++ f' ++ l').take j) ++ [((a : Int), (q : Int) - a)]))) 39 (0, 0))], G150, [(b21, .cells (List.toArray [.int .i64 (a : Int), .int .i64 n]) 27 (0, 0))]]) a ⟨Nat.le_refl _, by omega⟩ (by rw [Int.sub_self, Int.add_zero]; exact (by repeat (first | exact trivial | refine ⟨rfl, ?_⟩))) rfl (by rw [Int.sub_self, arr_zero]; exact (by repeat (first | exact SubB.nil | exact Pick.here | apply Pick.there | apply SubB.emp | apply SubB.cons))) (fun q hq => ?_)
                        obtain ⟨hq1, hq2⟩ := hq
                        refine V_seq ?_
                        refine V_seq ?_
                        refine V_region ?_
                        refine VL_still rfl rfl rfl (S_move rfl) ?_
                        refine VL_still rfl rfl rfl (S_field (k := 0) Try.underlying27 rfl rfl ti3 rfl rfl) ?_
                        refine VL_still rfl rfl rfl (S_load Try.underlying3 rfl rfl (Cell.trk (by repeat (first | exact Has.here | apply Has.there)) rfl)) ?_
                        refine VL_still rfl rfl rfl (S_field (k := 1) Try.underlying27 rfl rfl ti3 rfl rfl) ?_
                        refine VL_still rfl rfl rfl (S_load Try.underlying3 rfl rfl (Cell.trk (by repeat (first | exact Has.here | apply Has.there)) rfl)) ?_
                        first | refine VL_still rfl rfl rfl (S_addi rfl rfl (by omega) (by omega)) ?_ | refine VL_still rfl rfl rfl (S_add rfl rfl) ?_
                        refine VL_still rfl rfl rfl (S_lss rfl rfl) ?_
                        refine VL_nil ?_
                        refine VQ_then ?_
                        refine V_cond rfl (fun hc182 => ?_) (fun hc182 => ?_)
                        · skip
                          have hq3 : (q : Int) < a + n := of_decide_eq_true hc182
                          have hz : cnt ((o' ++ f' ++ l').take j) (q : Int) = 0 := hcov q (by rw [inX_iff]; simp only; omega)
                          refine V_skip ?_
                          refine VQ_then ?_
                          refine V_seq ?_
                          refine V_block ?_
                          refine V_seq ?_
                          refine V_region ?_
                          refine VL_still rfl rfl rfl (S_move rfl) ?_
                          refine VL_still rfl rfl rfl (S_arr (sz := 1) q Try.underlying39 tx5 rfl rfl (by omega)) ?_
                          refine VL_still rfl rfl rfl (S_load (v := .int .u8 0) Try.underlying5 rfl rfl (Cell.trk (by repeat (first | exact Has.here | apply Has.there)) (by rw [Nat.zero_add, Nat.mul_one, arrN_get _ (by omega), cnt_app, cnt_cons, cnt_nil, hz, if_neg (by rw [inX_iff]; simp only; omega)]; rfl))) ?_
                          refine VL_still rfl rfl rfl (S_add rfl rfl) ?_
                          refine VL_still rfl rfl rfl (S_arr (sz := 1) q Try.underlying39 tx5 rfl rfl (by omega)) ?_
                          refine VL_eff rfl (E_store ti5 rfl rfl rfl rfl rfl (by repeat (first | exact Has.here | apply Has.there)) (PutR.cons (SetL.of (by rw [arrN_len]; omega)) PutR.nil) (by repeat (first | exact UpdG.here | apply UpdG.there))) ?_
                          rintro _ _ _ ⟨rfl, rfl, rfl⟩
                          rw [Nat.zero_add, Nat.mul_one, show IntKind.u8.wrap (0 + 1) = 1 from rfl, arrN_set ((o' ++ f' ++ l').take j) (a : Int) q (by omega) (by omega) hz]
                          refine VL_nil ?_
                          refine VQ_then ?_
                          refine V_region ?_
                          refine VL_still rfl rfl rfl (S_move rfl) ?_
                          first | refine VL_still rfl rfl rfl (S_addi rfl rfl (by omega) (by omega)) ?_ | refine VL_still rfl rfl rfl (S_add rfl rfl) ?_
                          refine VL_still rfl rfl rfl (S_assign rfl) ?_
                          refine VL_nil ?_
                          refine VQ_block_normal ?_
                          refine VQ_then ?_
                          refine V_region ?_
                          refine VL_still rfl rfl rfl (S_move rfl) ?_
                          first | refine VL_still rfl rfl rfl (S_addi rfl rfl (by omega) (by omega)) ?_ | refine VL_still rfl rfl rfl (S_add rfl rfl) ?_
                          refine VL_still rfl rfl rfl (S_assign rfl) ?_
                          refine VL_nil ?_
                          refine VQ_mid (q + 1) ⟨⟨by omega, by omega⟩, by omega⟩ (by rw [show sumL ((o' ++ f' ++ l').take j) + (((q + 1 : Nat) : Int) - a) = sumL ((o' ++ f' ++ l').take j) + ((q : Int) - a) + 1 by omega]; exact (by repeat (first | exact trivial | refine ⟨rfl, ?_⟩))) rfl (by rw [show (((q + 1 : Nat) : Int) - a) = (q : Int) + 1 - a by omega]; exact (by repeat (first | exact SubB.nil | exact Pick.here | apply Pick.there | apply SubB.emp | apply SubB.cons)))
                        · skip
                          refine V_exit ?_
                          refine VQ_then_exit ?_
                          refine VQ_then_exit ?_
                          refine VQ_block_exit ?_
                          refine VQ_block_normal ?_
                          refine VQ_then ?_
                          refine V_region ?_
                          first | refine VL_still rfl rfl rfl (S_addi rfl rfl (by omega) (by omega)) ?_ | refine VL_still rfl rfl rfl (S_add rfl rfl) ?_
                          refine VL_still rfl rfl rfl (S_move rfl) ?_
                          refine VL_nil ?_
                          have hq4 : (q : Int) = a + n := by
                            have := of_decide_eq_false hc182
                            omega
                          refine VQ_mid (j + 1) ⟨by omega, by omega⟩ (by rw [hsn, show n = (q : Int) - a by omega]; exact (by repeat (first | exact trivial | refine ⟨rfl, ?_⟩))) rfl (by rw [hdr, show n = (q : Int) - a by omega]; exact (by repeat (first | exact SubB.nil | exact Pick.here | apply Pick.there | apply SubB.emp | apply SubB.cons)))
                · skip
                  have hjl : j = (o' ++ f' ++ l').length := by
                    have := of_decide_eq_false hc154
                    omega
                  subst hjl
                  rw [List.take_length]
                  refine V_exit ?_
                  refine VQ_then_exit ?_
                  refine VQ_then_exit ?_
                  refine VQ_block_exit ?_
                  refine VQ_then ?_
                  refine V_seq ?_
                  refine V_seq ?_
                  refine V_region ?_
                  refine VL_still rfl rfl rfl (S_assign rfl) ?_
                  refine VL_nil ?_
                  refine VQ_then ?_
                  refine V_block ?_
                  refine V_loop (ι := Nat) (fun q => (t - q).toNat) (fun q => (q : Int) ≤ t) (fun q => [(0, .int .i64 t), (5, .pointer (some ⟨g, 0, none⟩)), (6, vo'), (17, .pointer (some ⟨b17, 0, none⟩)), (46, (.slice (some ⟨bb, off, none⟩) acts.length cap)), (47, .int .i64 acts.length), (48, .int .i64 i), (19, .int .i64 (sumL (o' ++ f' ++ l'))), (23, .int .i64 (q : Int))]) (fun _ => h) (fun q => [GM g t vf' vl', Gf', Gl', Go', [(b17, .cells (List.toArray (arr (o' ++ f' ++ l'))) 39 (0, 0))]]) 0 (by omega) (by repeat (first | exact trivial | refine ⟨rfl, ?_⟩)) rfl (by repeat (first | exact SubB.nil | exact Pick.here | apply Pick.there | apply SubB.emp | apply SubB.cons)) (fun q hq => ?_)
                  refine V_seq ?_
                  refine V_seq ?_
                  refine V_region ?_
                  refine VL_still rfl rfl rfl (S_move rfl) ?_
                  refine VL_still rfl rfl rfl (S_move rfl) ?_
                  refine VL_still rfl rfl rfl (S_lss rfl rfl) ?_
                  refine VL_nil ?_
                  refine VQ_then ?_
                  refine V_cond rfl (fun hc195 => ?_) (fun hc195 => ?_)
                  · skip
                    have hq3 : (q : Int) < t := of_decide_eq_true hc195
                    refine V_skip ?_
                    refine VQ_then ?_
                    refine V_seq ?_
                    refine V_block ?_
                    refine V_seq ?_
                    refine V_region ?_
                    refine VL_still rfl rfl rfl (S_move rfl) ?_
                    refine VL_still rfl rfl rfl (S_arr (sz := 1) q Try.underlying39 tx5 rfl rfl (by omega)) ?_
                    refine VL_still rfl rfl rfl (S_load (v := .int .u8 1) Try.underlying5 rfl rfl (Cell.trk (by repeat (first | exact Has.here | apply Has.there)) (by rw [Nat.zero_add, Nat.mul_one, arrN_get _ (by omega), hone _ (by omega) hq3]; rfl))) ?_
                    refine VL_still rfl rfl rfl (S_neq rfl rfl) ?_
                    refine VL_nil ?_
                    refine VQ_then ?_
                    refine V_cond rfl (fun hc201 => ?_) (fun hc201 => ?_)
                    · skip
                      simp at hc201
                    · skip
                      refine V_skip ?_
                      refine VQ_block_normal ?_
                      refine VQ_then ?_
                      refine V_region ?_
                      refine VL_still rfl rfl rfl (S_move rfl) ?_
                      first | refine VL_still rfl rfl rfl (S_addi rfl rfl (by omega) (by omega)) ?_ | refine VL_still rfl rfl rfl (S_add rfl rfl) ?_
                      refine VL_still rfl rfl rfl (S_assign rfl) ?_
                      refine VL_nil ?_
                      refine VQ_mid (q + 1) ⟨by omega, by omega⟩ (by repeat (first | exact trivial | refine ⟨rfl, ?_⟩)) rfl (by repeat (first | exact SubB.nil | exact Pick.here | apply Pick.there | apply SubB.emp | apply SubB.cons))
                  · skip
                    refine V_exit ?_
                    refine VQ_then_exit ?_
                    refine VQ_then_exit ?_
                    refine VQ_block_exit ?_
                    refine VQ_then ?_
                    refine V_seq ?_
                    refine V_region ?_
                    refine VL_still rfl rfl rfl (S_move rfl) ?_
                    refine VL_still rfl rfl rfl (S_move rfl) ?_
                    refine VL_still rfl rfl rfl (S_neq rfl rfl) ?_
                    refine VL_nil ?_
                    refine VQ_then ?_
                    refine V_cond rfl (fun hc204 => ?_) (fun hc204 => ?_)
                    · skip
                      rw [hsum] at hc204
                      simp at hc204
                    · skip
                      refine V_skip ?_
                      refine VQ_block_normal ?_
                      refine VQ_then ?_
                      refine V_region ?_
                      first | refine VL_still rfl rfl rfl (S_addi rfl rfl (by omega) (by omega)) ?_ | refine VL_still rfl rfl rfl (S_add rfl rfl) ?_
                      refine VL_still rfl rfl rfl (S_move rfl) ?_
                      refine VL_nil ?_
                      refine VQ_mid (i + 1, vo', o', Go', vf', f', Gf', vl', l', Gl') ⟨⟨by omega, hC', hBo', hBf', hBl'⟩, by simp only; omega⟩ (by repeat (first | exact trivial | refine ⟨rfl, ?_⟩)) rfl (by repeat (first | exact SubB.nil | exact Pick.here | apply Pick.there | apply SubB.emp | apply SubB.cons))
            · skip
              refine V_exit ?_
              refine VQ_then_exit ?_
              refine VQ_then_exit ?_
              refine VQ_block_exit ?_
              refine VQ_then ?_
              refine V_seq ?_
              refine V_region ?_
              refine VL_still rfl rfl rfl (S_assign rfl) ?_
              refine VL_nil ?_
              refine VQ_then ?_
              refine V_ret ?_
              refine VQ_fin1 (nb := []) (by first | exact .inl rfl | exact .inr rfl) rfl (RV_tmp rfl) ?sb ?po
              case po =>
                exact ⟨rfl, rfl, rfl⟩
              case sb => exact (by repeat (first | exact SubB.nil | exact Pick.here | apply Pick.there | apply SubB.emp | apply SubB.cons))

end Go.Proofs.YtgnjocnbohbfaaaR
