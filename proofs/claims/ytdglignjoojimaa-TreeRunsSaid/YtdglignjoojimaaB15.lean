/- The law TreeRuns: its walk. No conditions. -/
import Derived.Test.YtdglignjoojimaaB14
import Derived.Test.YtdglignjoojimaaT8
set_option linter.unusedVariables false
set_option linter.unusedSimpArgs false
namespace Go.Proofs.Ytdglignjoojimaa

set_option maxRecDepth 100000 in
theorem runs_con (v : Value) (acts : List Ac) (k to : Int) (h : Hp) (hs : AL h v acts) (hok : ∀ a ∈ acts, OkA a) (hk0 : 0 ≤ k) (hk1 : k < top) : Con Try.prog 3 [v, .int .u64 k, .int .u64 to] h [] (fun r h' nb => r = .bool true ∧ nb = []) := by
  obtain ⟨A, cap, rfl, hle, hmx⟩ := SlR.form hs
  refine Con_of Try.func3 rfl Try.ntmps3 (Nat.le_of_ble_eq_true rfl) (fun w0 => ?_)
  refine V_seq ?_
  refine V_region ?_
  refine VL_still rfl rfl rfl (S_assign rfl) ?_
  refine VL_nil ?_
  refine VQ_then ?_
  refine V_seq ?_
  refine V_seq ?_
  refine V_region ?_
  refine VL_eff rfl (E_call rfl rfl rfl Try.call11 (alive_con h) (by repeat (first | exact Split.nil | exact Pick.here | apply Pick.there | apply Split.cons))) ?_
  rintro _ hh19 _ ⟨v19, nb19, ⟨rfl, rfl⟩, hs19, rfl, rfl⟩
  refine VL_still rfl rfl rfl (S_not rfl) ?_
  refine VL_nil ?_
  refine VQ_then ?_
  refine V_cond rfl (fun hc20 => ?_) (fun hc20 => ?_)
  · skip
    simp at hc20
  · skip
    refine V_skip ?_
    refine VQ_then ?_
    refine V_seq ?_
    refine V_seq ?_
    refine V_region ?_
    refine VL_still rfl rfl rfl (S_move rfl) ?_
    refine VL_still rfl rfl rfl (S_len Try.underlying22 rfl) ?_
    refine VL_still rfl rfl rfl (S_gtr rfl rfl) ?_
    refine VL_nil ?_
    refine VQ_then ?_
    refine V_cond rfl (fun hc23 => ?_) (fun hc23 => ?_)
    · skip
      skip
      refine V_seq ?_
      refine V_region ?_
      refine VL_still rfl rfl rfl (S_assign rfl) ?_
      refine VL_nil ?_
      refine VQ_then ?_
      refine V_ret ?_
      refine VQ_then_ret ?_
      refine VQ_fin1 (nb := []) (by first | exact .inl rfl | exact .inr rfl) rfl (RV_tmp rfl) ?sb ?po
      case po =>
        exact ⟨rfl, rfl⟩
      case sb => exact (by repeat (first | exact SubB.nil | exact Pick.here | apply Pick.there | apply SubB.emp | apply SubB.cons))
    · skip
      have hlen : acts.length ≤ 300 := by
        have := of_decide_eq_false hc23
        omega
      refine V_skip ?_
      refine VQ_then ?_
      refine V_seq ?_
      refine V_region ?_
      refine VL_still rfl rfl rfl (S_move rfl) ?_
      refine VL_eff rfl (E_call rfl rfl rfl Try.call12 (grown_con _ acts hh19 (hs.sub hs19) hok (by omega)) (by repeat (first | exact Split.nil | exact Pick.here | apply Pick.there | apply Split.cons))) ?_
      rintro _ hh26 _ ⟨v26, nb26, ⟨rfl, b, vl, rfl, hT, hL⟩, hs26, rfl, rfl⟩
      obtain ⟨hgu, hgl⟩ := growP_ok acts.length hok (Nat.le_refl _)
      rw [List.take_length] at hgu hgl
      obtain ⟨Al, cl, rfl, _, _⟩ := SlR.form hL
      refine VL_still rfl rfl rfl (S_move rfl) ?_
      refine VL_still rfl rfl rfl (S_extract rfl rfl) ?_
      refine VL_still rfl rfl rfl (S_extract rfl rfl) ?_
      refine VL_still rfl rfl rfl (S_assign rfl) ?_
      refine VL_still rfl rfl rfl (S_assign rfl) ?_
      refine VL_nil ?_
      refine VQ_then ?_
      refine V_seq ?_
      refine V_seq ?_
      refine V_region ?_
      refine VL_still rfl rfl rfl (S_move rfl) ?_
      refine VL_still rfl rfl rfl (S_peqnil Try.underlying25 rfl rfl) ?_
      refine VL_still rfl rfl rfl (S_move rfl) ?_
      refine VL_bool 31 rfl (fun hc31 => ?_) (fun hc31 => ?_)
      · skip
        simp at hc31
      · skip
        refine VL_still rfl rfl rfl (S_move rfl) ?_
        refine VL_eff rfl (E_call rfl rfl rfl Try.call13 (len_con b _ hh26 hT) (by repeat (first | exact Split.nil | exact Pick.here | apply Pick.there | apply Split.cons))) ?_
        rintro _ hh33 _ ⟨v33, nb33, ⟨rfl, rfl, rfl⟩, hs33, rfl, rfl⟩
        refine VL_still rfl rfl rfl (S_move rfl) ?_
        refine VL_still rfl rfl rfl (S_len Try.underlying26 rfl) ?_
        refine VL_still rfl rfl rfl (S_neq rfl rfl) ?_
        first | refine VL_still rfl rfl rfl (S_pick_t rfl rfl) ?_ | refine VL_still rfl rfl rfl (S_pick_f rfl rfl) ?_
        refine VL_still rfl rfl rfl (S_move rfl) ?_
        refine VL_bool 38 rfl (fun hc38 => ?_) (fun hc38 => ?_)
        · skip
          simp at hc38
        · skip
          refine VL_still rfl rfl rfl (S_move rfl) ?_
          refine VL_still rfl rfl rfl (S_move rfl) ?_
          refine VL_still rfl rfl rfl (S_move rfl) ?_
          refine VL_eff rfl (E_call rfl rfl rfl Try.call15 (range_k b _ k to hh26 hT (by omega)) (by repeat (first | exact Split.nil | exact Pick.here | apply Pick.there | apply Split.cons))) ?_
          rintro _ hh42 _ ⟨v42, nb42, ⟨rfl, hR1⟩, hs42, rfl, rfl⟩
          refine VL_still rfl rfl rfl (S_move rfl) ?_
          refine VL_still rfl rfl rfl (S_move rfl) ?_
          refine VL_still rfl rfl rfl (S_move rfl) ?_
          refine VL_eff rfl (E_call rfl rfl rfl Try.call16 (rrange_k _ _ hh42 (hL.sub hs42) (by omega) k to) (by repeat (first | exact Split.nil | exact Pick.here | apply Pick.there | apply Split.cons))) ?_
          rintro _ hh46 _ ⟨v46, nb46, ⟨rfl, hR2⟩, hs46, rfl, rfl⟩
          refine VL_eff rfl (E_call rfl rfl rfl Try.call14 (same_con _ _ _ _ hh46 (hR1.sub hs46) hR2 (by have := rangeP_le (growP acts) k to; omega) (by have := rangeP_le (growP acts) k to; omega)) (by repeat (first | exact Split.nil | exact Pick.here | apply Pick.there | apply Split.cons))) ?_
          rintro _ hh47 _ ⟨v47, nb47, ⟨rfl, rfl, rfl⟩, hs47, rfl, rfl⟩
          rw [show decide (rangeP k to (growP acts) = rangeP k to (growP acts)) = true from decide_eq_true rfl]
          refine VL_still rfl rfl rfl (S_not rfl) ?_
          first | refine VL_still rfl rfl rfl (S_pick_t rfl rfl) ?_ | refine VL_still rfl rfl rfl (S_pick_f rfl rfl) ?_
          refine VL_still rfl rfl rfl (S_move rfl) ?_
          refine VL_bool 50 rfl (fun hc50 => ?_) (fun hc50 => ?_)
          · skip
            simp at hc50
          · skip
            refine VL_still rfl rfl rfl (S_move rfl) ?_
            refine VL_eff rfl (E_call rfl rfl rfl Try.call15 (range_k b _ 0 18446744073709551615 hh46 (hT.sub (hs42.trans hs46)) (by omega)) (by repeat (first | exact Split.nil | exact Pick.here | apply Pick.there | apply Split.cons))) ?_
            rintro _ hh52 _ ⟨v52, nb52, ⟨rfl, hR3⟩, hs52, rfl, rfl⟩
            rw [rangeP_all hgu] at hR3
            refine VL_still rfl rfl rfl (S_move rfl) ?_
            refine VL_eff rfl (E_call rfl rfl rfl Try.call14 (same_con _ _ _ _ hh52 hR3 (hL.sub (hs42.trans (hs46.trans hs52))) (by omega) (by omega)) (by repeat (first | exact Split.nil | exact Pick.here | apply Pick.there | apply Split.cons))) ?_
            rintro _ hh54 _ ⟨v54, nb54, ⟨rfl, rfl, rfl⟩, hs54, rfl, rfl⟩
            rw [show decide (growP acts = growP acts) = true from decide_eq_true rfl]
            refine VL_still rfl rfl rfl (S_not rfl) ?_
            first | refine VL_still rfl rfl rfl (S_pick_t rfl rfl) ?_ | refine VL_still rfl rfl rfl (S_pick_f rfl rfl) ?_
            refine VL_nil ?_
            refine VQ_then ?_
            refine V_cond rfl (fun hc56 => ?_) (fun hc56 => ?_)
            · skip
              simp at hc56
            · skip
              refine V_skip ?_
              refine VQ_then ?_
              refine V_seq ?_
              refine V_seq ?_
              have sB := hs42.trans (hs46.trans hs52)
              have hsX := hs.sub (hs19.trans (hs26.trans sB))
              have hTX := hT.sub sB
              have hLX := hL.sub sB
              refine V_region ?_
              refine VL_still rfl rfl rfl (S_move rfl) ?_
              refine VL_still rfl rfl rfl (S_len Try.underlying22 rfl) ?_
              refine VL_still rfl rfl rfl (S_move rfl) ?_
              refine VL_nil ?_
              refine VQ_then ?_
              refine V_block ?_
              refine V_loop (ι := Nat) (fun i => acts.length - i) (fun i => i ≤ acts.length) (fun i => [(0, (.slice A acts.length cap)), (1, .int .u64 k), (7, ptr b), (8, .slice Al (growP acts).length cl), (57, (.slice A acts.length cap)), (58, .int .i64 acts.length), (59, .int .i64 i)]) (fun _ => hh52) (fun _ => []) 0 (Nat.zero_le _) (by repeat (first | exact trivial | refine ⟨rfl, ?_⟩)) rfl SubB.nil (fun i hi => ?_)
              refine V_seq ?_
              refine V_region ?_
              refine VL_still rfl rfl rfl (S_lss rfl rfl) ?_
              refine VL_nil ?_
              refine VQ_then ?_
              refine V_seq ?_
              refine V_cond rfl (fun hc60 => ?_) (fun hc60 => ?_)
              · skip
                have hlt : i < acts.length := by
                  have := of_decide_eq_true hc60
                  omega
                obtain ⟨bb, off, cap', e1, hcc⟩ := SlR.at_ acE hsX rfl hlt
                simp only [Value.slice.injEq] at e1
                obtain ⟨rfl, _, rfl⟩ := e1
                obtain ⟨k0, k1⟩ := hok acts[i] (List.getElem_mem hlt)
                refine V_skip ?_
                refine VQ_then ?_
                refine V_seq ?_
                refine V_block ?_
                refine V_seq ?_
                refine V_region ?_
                refine VL_still rfl rfl rfl (X_at i Try.underlying22 tx36 rfl rfl hlt) ?_
                refine VL_still rfl rfl rfl (S_loads (vs := ac acts[i]) Try.underlying36 rfl ti36 rfl rfl (hcc.mono (Sub.refl _) (fun q hq => by simp at hq))) ?_
                refine VL_eff rfl (E_alloc rfl tz36) ?_
                rintro _ _ _ ⟨b10, hb10, rfl, rfl, rfl⟩
                refine VL_eff rfl (E_store ti36 rfl rfl rfl rfl rfl (by repeat (first | exact Has.here | apply Has.there)) (by repeat (first | exact PutR.nil | exact SetL.here | apply SetL.there | apply PutR.cons)) (by repeat (first | exact UpdG.here | apply UpdG.there))) ?_
                rintro _ _ _ ⟨rfl, rfl, rfl⟩
                refine VL_nil ?_
                refine VQ_then ?_
                refine V_seq ?_
                refine V_region ?_
                refine VL_still rfl rfl rfl (S_move rfl) ?_
                refine VL_still rfl rfl rfl (S_field (k := 1) Try.underlying36 rfl rfl ti23 rfl rfl) ?_
                first | refine VL_still rfl rfl rfl (S_load Try.underlying23 rfl rfl (Cell.trk (by repeat (first | exact Has.here | apply Has.there)) rfl)) ?_ | refine VL_still rfl rfl rfl (S_load Try.underlying23 rfl rfl (Cell.known (by first | assumption | exact (by assumption : Sub _ _) _ _ (by assumption) | exact (Sub.trans (by assumption) (by assumption)) _ _ (by assumption)) rfl)) ?_
                refine VL_eff rfl (E_call rfl rfl rfl Try.call17 (get_con b _ hh52 hTX acts[i].key k0 k1) (by repeat (first | exact Split.nil | exact Pick.here | apply Pick.there | apply Split.cons))) ?_
                rintro _ hh67 _ ⟨v67, nb67, ⟨rfl, rfl, rfl⟩, hs67, rfl, rfl⟩
                refine VL_still rfl rfl rfl (S_move rfl) ?_
                refine VL_still rfl rfl rfl (S_extract rfl rfl) ?_
                refine VL_still rfl rfl rfl (S_extract rfl rfl) ?_
                refine VL_eff rfl (E_alloc rfl tz34) ?_
                rintro _ _ _ ⟨b11, hb11, rfl, rfl, rfl⟩
                refine VL_eff rfl (E_store ti34 rfl rfl rfl rfl rfl (by repeat (first | exact Has.here | apply Has.there)) (by repeat (first | exact PutR.nil | exact SetL.here | apply SetL.there | apply PutR.cons)) (by repeat (first | exact UpdG.here | apply UpdG.there))) ?_
                rintro _ _ _ ⟨rfl, rfl, rfl⟩
                refine VL_still rfl rfl rfl (S_assign rfl) ?_
                refine VL_nil ?_
                refine VQ_then ?_
                refine V_seq ?_
                refine V_region ?_
                refine VL_still rfl rfl rfl (S_move rfl) ?_
                refine VL_still rfl rfl rfl (S_field (k := 1) Try.underlying36 rfl rfl ti23 rfl rfl) ?_
                first | refine VL_still rfl rfl rfl (S_load Try.underlying23 rfl rfl (Cell.trk (by repeat (first | exact Has.here | apply Has.there)) rfl)) ?_ | refine VL_still rfl rfl rfl (S_load Try.underlying23 rfl rfl (Cell.known (by first | assumption | exact (by assumption : Sub _ _) _ _ (by assumption) | exact (Sub.trans (by assumption) (by assumption)) _ _ (by assumption)) rfl)) ?_
                refine VL_eff rfl (E_call rfl rfl rfl Try.call18 (rget_con _ _ hh52 hLX (by omega) acts[i].key) (by repeat (first | exact Split.nil | exact Pick.here | apply Pick.there | apply Split.cons))) ?_
                rintro _ hh74 _ ⟨v74, nb74, ⟨rfl, rfl, rfl⟩, hs74, rfl, rfl⟩
                refine VL_still rfl rfl rfl (S_move rfl) ?_
                refine VL_still rfl rfl rfl (S_extract rfl rfl) ?_
                refine VL_still rfl rfl rfl (S_extract rfl rfl) ?_
                refine VL_eff rfl (E_alloc rfl tz34) ?_
                rintro _ _ _ ⟨b13, hb13, rfl, rfl, rfl⟩
                refine VL_eff rfl (E_store ti34 rfl rfl rfl rfl rfl (by repeat (first | exact Has.here | apply Has.there)) (by repeat (first | exact PutR.nil | exact SetL.here | apply SetL.there | apply PutR.cons)) (by repeat (first | exact UpdG.here | apply UpdG.there))) ?_
                rintro _ _ _ ⟨rfl, rfl, rfl⟩
                refine VL_still rfl rfl rfl (S_assign rfl) ?_
                refine VL_nil ?_
                refine VQ_then ?_
                refine V_seq ?_
                refine V_region ?_
                refine VL_still rfl rfl rfl (S_loads (vs := [.int .i64 ((lookP (growP acts) acts[i].key).getD (0, 0)).1, .int .i64 ((lookP (growP acts) acts[i].key).getD (0, 0)).2]) Try.underlying34 rfl ti34 rfl rfl (Cells.all (by repeat (first | exact Has.here | apply Has.there)))) ?_
                refine VL_still rfl rfl rfl (S_loads (vs := [.int .i64 ((lookP (growP acts) acts[i].key).getD (0, 0)).1, .int .i64 ((lookP (growP acts) acts[i].key).getD (0, 0)).2]) Try.underlying34 rfl ti34 rfl rfl (Cells.all (by repeat (first | exact Has.here | apply Has.there)))) ?_
                refine VL_still rfl rfl rfl (S_nea (by kernel_rfl) (fun w => (eqX _ _ _ _ w).1) rfl rfl) ?_
                refine VL_still rfl rfl rfl (S_move rfl) ?_
                refine VL_bool 80 rfl (fun hc80 => ?_) (fun hc80 => ?_)
                · skip
                  simp at hc80
                · skip
                  refine VL_still rfl rfl rfl (S_move rfl) ?_
                  refine VL_still rfl rfl rfl (S_move rfl) ?_
                  refine VL_still rfl rfl rfl (S_bne Try.underlying4 rfl rfl) ?_
                  first | refine VL_still rfl rfl rfl (S_pick_t rfl rfl) ?_ | refine VL_still rfl rfl rfl (S_pick_f rfl rfl) ?_
                  refine VL_nil ?_
                  refine VQ_then ?_
                  refine V_cond rfl (fun hc84 => ?_) (fun hc84 => ?_)
                  · skip
                    simp at hc84
                  · skip
                    refine V_skip ?_
                    refine VQ_block_normal ?_
                    refine VQ_then ?_
                    refine V_region ?_
                    first | refine VL_still rfl rfl rfl (S_addi rfl rfl (by omega) (by omega)) ?_ | refine VL_still rfl rfl rfl (S_add rfl rfl) ?_
                    refine VL_still rfl rfl rfl (S_move rfl) ?_
                    refine VL_nil ?_
                    refine VQ_mid (i + 1) ⟨by omega, by omega⟩ (by repeat (first | exact trivial | refine ⟨rfl, ?_⟩)) rfl SubB.nil
              · skip
                refine V_exit ?_
                refine VQ_then_exit ?_
                refine VQ_then_exit ?_
                refine VQ_block_exit ?_
                refine VQ_then ?_
                refine V_seq ?_
                refine V_region ?_
                refine VL_still rfl rfl rfl (S_move rfl) ?_
                refine VL_still rfl rfl rfl (S_move rfl) ?_
                refine VL_eff rfl (E_call rfl rfl rfl Try.call17 (get_con b _ hh52 hTX k hk0 hk1) (by repeat (first | exact Split.nil | exact Pick.here | apply Pick.there | apply Split.cons))) ?_
                rintro _ hh89 _ ⟨v89, nb89, ⟨rfl, rfl, rfl⟩, hs89, rfl, rfl⟩
                refine VL_still rfl rfl rfl (S_move rfl) ?_
                refine VL_still rfl rfl rfl (S_extract rfl rfl) ?_
                refine VL_still rfl rfl rfl (S_extract rfl rfl) ?_
                refine VL_eff rfl (E_alloc rfl tz34) ?_
                rintro _ _ _ ⟨b15, hb15, rfl, rfl, rfl⟩
                refine VL_eff rfl (E_store ti34 rfl rfl rfl rfl rfl (by repeat (first | exact Has.here | apply Has.there)) (by repeat (first | exact PutR.nil | exact SetL.here | apply SetL.there | apply PutR.cons)) (by repeat (first | exact UpdG.here | apply UpdG.there))) ?_
                rintro _ _ _ ⟨rfl, rfl, rfl⟩
                refine VL_still rfl rfl rfl (S_assign rfl) ?_
                refine VL_nil ?_
                refine VQ_then ?_
                refine V_seq ?_
                refine V_region ?_
                refine VL_still rfl rfl rfl (S_move rfl) ?_
                refine VL_still rfl rfl rfl (S_move rfl) ?_
                refine VL_eff rfl (E_call rfl rfl rfl Try.call18 (rget_con _ _ hh52 hLX (by omega) k) (by repeat (first | exact Split.nil | exact Pick.here | apply Pick.there | apply Split.cons))) ?_
                rintro _ hh95 _ ⟨v95, nb95, ⟨rfl, rfl, rfl⟩, hs95, rfl, rfl⟩
                refine VL_still rfl rfl rfl (S_move rfl) ?_
                refine VL_still rfl rfl rfl (S_extract rfl rfl) ?_
                refine VL_still rfl rfl rfl (S_extract rfl rfl) ?_
                refine VL_eff rfl (E_alloc rfl tz34) ?_
                rintro _ _ _ ⟨b17, hb17, rfl, rfl, rfl⟩
                refine VL_eff rfl (E_store ti34 rfl rfl rfl rfl rfl (by repeat (first | exact Has.here | apply Has.there)) (by repeat (first | exact PutR.nil | exact SetL.here | apply SetL.there | apply PutR.cons)) (by repeat (first | exact UpdG.here | apply UpdG.there))) ?_
                rintro _ _ _ ⟨rfl, rfl, rfl⟩
                refine VL_still rfl rfl rfl (S_assign rfl) ?_
                refine VL_nil ?_
                refine VQ_then ?_
                refine V_seq ?_
                refine V_region ?_
                refine VL_still rfl rfl rfl (S_move rfl) ?_
                refine VL_still rfl rfl rfl (S_move rfl) ?_
                refine VL_still rfl rfl rfl (S_beq Try.underlying4 rfl rfl) ?_
                refine VL_still rfl rfl rfl (S_assign rfl) ?_
                refine VL_nil ?_
                refine VQ_then ?_
                refine V_ret ?_
                refine VQ_fin1 (nb := []) (by first | exact .inl rfl | exact .inr rfl) rfl (RV_tmp rfl) ?sb ?po
                case po =>
                  exact ⟨by simp, rfl⟩
                case sb => exact (by repeat (first | exact SubB.nil | exact Pick.here | apply Pick.there | apply SubB.emp | apply SubB.cons))

end Go.Proofs.Ytdglignjoojimaa
