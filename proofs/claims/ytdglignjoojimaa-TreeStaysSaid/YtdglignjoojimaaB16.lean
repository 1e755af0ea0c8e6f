/- The law TreeStays: its walk. No conditions. -/
import Derived.Test.YtdglignjoojimaaB14
import Derived.Test.YtdglignjoojimaaT8
set_option linter.unusedVariables false
set_option linter.unusedSimpArgs false
namespace Go.Proofs.Ytdglignjoojimaa

set_option maxRecDepth 100000 in
theorem stays_con (v u : Value) (acts more : List Ac) (h : Hp) (hs : AL h v acts) (hm : AL h u more) (hok : ∀ a ∈ acts, OkA a) (hok2 : ∀ a ∈ more, OkA a) : Con Try.prog 4 [v, u] h [] (fun r h' nb => r = .bool true ∧ nb = []) := by
  obtain ⟨A, cap, rfl, hle, hmx⟩ := SlR.form hs
  obtain ⟨A2, cap2, rfl, hle2, hmx2⟩ := SlR.form hm
  refine Con_of Try.func4 rfl Try.ntmps4 (Nat.le_of_ble_eq_true rfl) (fun w0 => ?_)
  refine V_seq ?_
  refine V_region ?_
  refine VL_still rfl rfl rfl (S_assign rfl) ?_
  refine VL_nil ?_
  refine VQ_then ?_
  refine V_seq ?_
  refine V_seq ?_
  refine V_region ?_
  refine VL_eff rfl (E_call rfl rfl rfl Try.call11 (alive_con h) (by repeat (first | exact Split.nil | exact Pick.here | apply Pick.there | apply Split.cons))) ?_
  rintro _ hh16 _ ⟨v16, nb16, ⟨rfl, rfl⟩, hs16, rfl, rfl⟩
  refine VL_still rfl rfl rfl (S_not rfl) ?_
  refine VL_nil ?_
  refine VQ_then ?_
  refine V_cond rfl (fun hc17 => ?_) (fun hc17 => ?_)
  · skip
    simp at hc17
  · skip
    refine V_skip ?_
    refine VQ_then ?_
    refine V_seq ?_
    refine V_seq ?_
    refine V_region ?_
    refine VL_still rfl rfl rfl (S_move rfl) ?_
    refine VL_still rfl rfl rfl (S_len Try.underlying22 rfl) ?_
    refine VL_still rfl rfl rfl (S_gtr rfl rfl) ?_
    refine VL_still rfl rfl rfl (S_move rfl) ?_
    refine VL_bool 21 rfl (fun hc21 => ?_) (fun hc21 => ?_)
    · skip
      refine VL_skip rfl rfl rfl ?_
      refine VL_skip rfl rfl rfl ?_
      refine VL_skip rfl rfl rfl ?_
      first | refine VL_still rfl rfl rfl (S_pick_t rfl rfl) ?_ | refine VL_still rfl rfl rfl (S_pick_f rfl rfl) ?_
      refine VL_nil ?_
      refine VQ_then ?_
      refine V_cond_true rfl ?_
      refine V_seq ?_
      refine V_region ?_
      refine VL_still rfl rfl rfl (S_assign rfl) ?_
      refine VL_nil ?_
      refine VQ_then ?_
      refine V_ret ?_
      refine VQ_then_ret ?_
      refine VQ_fin1 (nb := []) (by first | exact .inl rfl | exact .inr rfl) rfl (RV_tmp rfl) ?sb ?po
      case po =>
        exact ⟨rfl, rfl⟩
      case sb => exact (by repeat (first | exact SubB.nil | exact Pick.here | apply Pick.there | apply SubB.emp | apply SubB.cons))
    · skip
      have hlen : acts.length ≤ 200 := by
        have := of_decide_eq_false hc21
        omega
      refine VL_still rfl rfl rfl (S_move rfl) ?_
      refine VL_still rfl rfl rfl (S_len Try.underlying22 rfl) ?_
      refine VL_still rfl rfl rfl (S_gtr rfl rfl) ?_
      first | refine VL_still rfl rfl rfl (S_pick_t rfl rfl) ?_ | refine VL_still rfl rfl rfl (S_pick_f rfl rfl) ?_
      refine VL_nil ?_
      refine VQ_then ?_
      refine V_cond rfl (fun hc25 => ?_) (fun hc25 => ?_)
      · skip
        refine V_seq ?_
        refine V_region ?_
        refine VL_still rfl rfl rfl (S_assign rfl) ?_
        refine VL_nil ?_
        refine VQ_then ?_
        refine V_ret ?_
        refine VQ_then_ret ?_
        refine VQ_fin1 (nb := []) (by first | exact .inl rfl | exact .inr rfl) rfl (RV_tmp rfl) ?sb ?po
        case po =>
          exact ⟨rfl, rfl⟩
        case sb => exact (by repeat (first | exact SubB.nil | exact Pick.here | apply Pick.there | apply SubB.emp | apply SubB.cons))
      · skip
        have hlen2 : more.length ≤ 100 := by
          have := of_decide_eq_false hc25
          omega
        refine V_skip ?_
        refine VQ_then ?_
        refine V_seq ?_
        refine V_region ?_
        refine VL_still rfl rfl rfl (S_move rfl) ?_
        refine VL_eff rfl (E_call rfl rfl rfl Try.call12 (grown_con _ acts hh16 (hs.sub hs16) hok (by omega)) (by repeat (first | exact Split.nil | exact Pick.here | apply Pick.there | apply Split.cons))) ?_
        rintro _ hh28 _ ⟨v28, nb28, ⟨rfl, b, vl, rfl, hT, hL⟩, hs28, rfl, rfl⟩
        obtain ⟨hgu, hgl⟩ := growP_ok acts.length hok (Nat.le_refl _)
        rw [List.take_length] at hgu hgl
        obtain ⟨Al, cl, rfl, _, _⟩ := SlR.form hL
        obtain ⟨d, t, rb, hb, hR, hO⟩ := hT
        refine VL_still rfl rfl rfl (S_move rfl) ?_
        refine VL_still rfl rfl rfl (S_extract rfl rfl) ?_
        refine VL_still rfl rfl rfl (S_extract rfl rfl) ?_
        refine VL_still rfl rfl rfl (S_assign rfl) ?_
        refine VL_still rfl rfl rfl (S_assign rfl) ?_
        refine VL_nil ?_
        refine VQ_then ?_
        refine V_seq ?_
        refine V_seq ?_
        refine V_region ?_
        refine VL_still rfl rfl rfl (S_move rfl) ?_
        refine VL_still rfl rfl rfl (S_peqnil Try.underlying25 rfl rfl) ?_
        refine VL_nil ?_
        refine VQ_then ?_
        refine V_cond rfl (fun hc32 => ?_) (fun hc32 => ?_)
        · skip
          simp at hc32
        · skip
          refine V_skip ?_
          refine VQ_then ?_
          refine V_seq ?_
          refine V_region ?_
          refine VL_still rfl rfl rfl (S_move rfl) ?_
          refine VL_eff rfl (E_call rfl rfl rfl Try.call19 (nodes_con d b rb t _ hh28 hb hR hO (by omega)) (by repeat (first | exact Split.nil | exact Pick.here | apply Pick.there | apply Split.cons))) ?_
          rintro _ hh34 _ ⟨v34, nb34, ⟨cs, G34, hB34, hA34, rfl⟩, hs34, rfl, rfl⟩
          have hcl := hA34.len
          obtain ⟨A34, c34, rfl, _, _⟩ := Buf.form hB34
          rw [hcl]
          refine VL_still rfl rfl rfl (S_len Try.underlying41 rfl) ?_
          refine VL_still rfl rfl rfl (S_assign rfl) ?_
          refine VL_nil ?_
          refine VQ_then ?_
          refine V_seq ?_
          refine V_seq ?_
          have hsX := hm.sub (hs16.trans (hs28.trans hs34))
          refine V_region ?_
          refine VL_still rfl rfl rfl (S_move rfl) ?_
          refine VL_still rfl rfl rfl (S_len Try.underlying22 rfl) ?_
          refine VL_still rfl rfl rfl (S_move rfl) ?_
          refine VL_nil ?_
          refine VQ_then ?_
          refine V_block ?_
          refine V_loop (ι := Nat × Hp) (fun x => more.length - x.1) (fun (i, hh) => i ≤ more.length ∧ Sub hh34 hh) (fun (i, hh) => [(5, ptr b), (6, .slice Al (growP acts).length cl), (7, .int .i64 ((listT d t 0).length : Nat)), (36, (.slice A2 more.length cap2)), (37, .int .i64 more.length), (38, .int .i64 i)]) (fun (i, hh) => hh) (fun _ => []) (0, hh34) ⟨Nat.zero_le _, Sub.refl _⟩ (by repeat (first | exact trivial | refine ⟨rfl, ?_⟩)) rfl SubB.any (fun ⟨i, hh⟩ hi => ?_)
          obtain ⟨hi1, hs1⟩ := hi
          simp only at hi1 hs1 ⊢
          have hsY := hsX.sub hs1
          have hLX := hL.sub (hs34.trans hs1)
          have hbX := (hs34.trans hs1) _ _ hb
          have hRX := Rp.sub (hs34.trans hs1) hR
          refine V_seq ?_
          refine V_region ?_
          refine VL_still rfl rfl rfl (S_lss rfl rfl) ?_
          refine VL_nil ?_
          refine VQ_then ?_
          refine V_seq ?_
          refine V_cond rfl (fun hc39 => ?_) (fun hc39 => ?_)
          · skip
            have hlt : i < more.length := by
              have := of_decide_eq_true hc39
              omega
            obtain ⟨bb, off, cap', e1, hcc⟩ := SlR.at_ acE hsY rfl hlt
            simp only [Value.slice.injEq] at e1
            obtain ⟨rfl, _, rfl⟩ := e1
            obtain ⟨k0, k1⟩ := hok2 more[i] (List.getElem_mem hlt)
            refine V_skip ?_
            refine VQ_then ?_
            refine V_seq ?_
            refine V_block ?_
            refine V_seq ?_
            refine V_region ?_
            refine VL_still rfl rfl rfl (X_at i Try.underlying22 tx36 rfl rfl hlt) ?_
            refine VL_still rfl rfl rfl (S_loads (vs := ac more[i]) Try.underlying36 rfl ti36 rfl rfl (hcc.mono (Sub.refl _) (fun q hq => by simp at hq))) ?_
            refine VL_eff rfl (E_alloc rfl tz36) ?_
            rintro _ _ _ ⟨b9, hb9, rfl, rfl, rfl⟩
            refine VL_eff rfl (E_store ti36 rfl rfl rfl rfl rfl (by repeat (first | exact Has.here | apply Has.there)) (by repeat (first | exact PutR.nil | exact SetL.here | apply SetL.there | apply PutR.cons)) (by repeat (first | exact UpdG.here | apply UpdG.there))) ?_
            rintro _ _ _ ⟨rfl, rfl, rfl⟩
            refine VL_nil ?_
            refine VQ_then ?_
            refine V_seq ?_
            refine V_seq ?_
            refine V_region ?_
            refine VL_still rfl rfl rfl (S_field (k := 0) Try.underlying36 rfl rfl ti3 rfl rfl) ?_
            first | refine VL_still rfl rfl rfl (S_load Try.underlying3 rfl rfl (Cell.trk (by repeat (first | exact Has.here | apply Has.there)) rfl)) ?_ | refine VL_still rfl rfl rfl (S_load Try.underlying3 rfl rfl (Cell.known (by first | assumption | exact (by assumption : Sub _ _) _ _ (by assumption) | exact (Sub.trans (by assumption) (by assumption)) _ _ (by assumption)) rfl)) ?_
            refine VL_still rfl rfl rfl (S_eql rfl rfl) ?_
            refine VL_nil ?_
            refine VQ_then ?_
            refine V_cond rfl (fun hc44 => ?_) (fun hc44 => ?_)
            · skip
              refine V_seq ?_
              refine V_region ?_
              refine VL_still rfl rfl rfl (S_move rfl) ?_
              refine VL_still rfl rfl rfl (S_field (k := 1) Try.underlying36 rfl rfl ti23 rfl rfl) ?_
              first | refine VL_still rfl rfl rfl (S_load Try.underlying23 rfl rfl (Cell.trk (by repeat (first | exact Has.here | apply Has.there)) rfl)) ?_ | refine VL_still rfl rfl rfl (S_load Try.underlying23 rfl rfl (Cell.known (by first | assumption | exact (by assumption : Sub _ _) _ _ (by assumption) | exact (Sub.trans (by assumption) (by assumption)) _ _ (by assumption)) rfl)) ?_
              refine VL_still rfl rfl rfl (S_field (k := 2) Try.underlying36 rfl rfl ti34 rfl rfl) ?_
              refine VL_still rfl rfl rfl (S_loads (vs := [.int .i64 more[i].s, .int .i64 more[i].l]) Try.underlying34 rfl ti34 rfl rfl (Cells.trk (by repeat (first | exact Has.here | apply Has.there)) (by repeat (first | exact TakeR.here (by repeat (first | exact HeadR.nil | apply HeadR.cons)) | apply TakeR.there)))) ?_
              refine VL_eff rfl (E_call rfl rfl rfl Try.call20 (tput_con b _ hh ⟨d, t, rb, hbX, hRX, hO⟩ more[i].key more[i].s more[i].l k0 k1 (by omega)) (by repeat (first | exact Split.nil | exact Pick.here | apply Pick.there | apply Split.cons))) ?_
              rintro _ hh50 _ ⟨v50, nb50, ⟨rfl, b2, rfl, hT2⟩, hs50, rfl, rfl⟩
              refine VL_still rfl rfl rfl (S_assign rfl) ?_
              refine VL_nil ?_
              refine VQ_then ?_
              refine V_seq ?_
              refine V_region ?_
              refine VL_still rfl rfl rfl (S_move rfl) ?_
              refine VL_still rfl rfl rfl (S_field (k := 1) Try.underlying36 rfl rfl ti23 rfl rfl) ?_
              first | refine VL_still rfl rfl rfl (S_load Try.underlying23 rfl rfl (Cell.trk (by repeat (first | exact Has.here | apply Has.there)) rfl)) ?_ | refine VL_still rfl rfl rfl (S_load Try.underlying23 rfl rfl (Cell.known (by first | assumption | exact (by assumption : Sub _ _) _ _ (by assumption) | exact (Sub.trans (by assumption) (by assumption)) _ _ (by assumption)) rfl)) ?_
              refine VL_eff rfl (E_call rfl rfl rfl Try.call17 (get_con b2 _ hh50 hT2 more[i].key k0 k1) (by repeat (first | exact Split.nil | exact Pick.here | apply Pick.there | apply Split.cons))) ?_
              rintro _ hh55 _ ⟨v55, nb55, ⟨rfl, rfl, rfl⟩, hs55, rfl, rfl⟩
              rw [ins_look]
              refine VL_still rfl rfl rfl (S_move rfl) ?_
              refine VL_still rfl rfl rfl (S_extract rfl rfl) ?_
              refine VL_still rfl rfl rfl (S_extract rfl rfl) ?_
              refine VL_eff rfl (E_alloc rfl tz34) ?_
              rintro _ _ _ ⟨b11, hb11, rfl, rfl, rfl⟩
              refine VL_eff rfl (E_store ti34 rfl rfl rfl rfl rfl (by repeat (first | exact Has.here | apply Has.there)) (by repeat (first | exact PutR.nil | exact SetL.here | apply SetL.there | apply PutR.cons)) (by repeat (first | exact UpdG.here | apply UpdG.there))) ?_
              rintro _ _ _ ⟨rfl, rfl, rfl⟩
              refine VL_still rfl rfl rfl (S_assign rfl) ?_
              refine VL_nil ?_
              refine VQ_then ?_
              refine V_seq ?_
              refine V_region ?_
              refine VL_still rfl rfl rfl (S_move rfl) ?_
              refine VL_still rfl rfl rfl (S_not rfl) ?_
              refine VL_still rfl rfl rfl (S_move rfl) ?_
              refine VL_bool 60 rfl (fun hc60 => ?_) (fun hc60 => ?_)
              · skip
                simp at hc60
              · skip
                refine VL_still rfl rfl rfl (S_loads (vs := [.int .i64 (more[i].s, more[i].l).1, .int .i64 (more[i].s, more[i].l).2]) Try.underlying34 rfl ti34 rfl rfl (Cells.all (by repeat (first | exact Has.here | apply Has.there)))) ?_
                refine VL_still rfl rfl rfl (S_field (k := 2) Try.underlying36 rfl rfl ti34 rfl rfl) ?_
                refine VL_still rfl rfl rfl (S_loads (vs := [.int .i64 more[i].s, .int .i64 more[i].l]) Try.underlying34 rfl ti34 rfl rfl (Cells.trk (by repeat (first | exact Has.here | apply Has.there)) (by repeat (first | exact TakeR.here (by repeat (first | exact HeadR.nil | apply HeadR.cons)) | apply TakeR.there)))) ?_
                refine VL_still rfl rfl rfl (S_nea (by kernel_rfl) (fun w => (eqX _ _ _ _ w).1) rfl rfl) ?_
                first | refine VL_still rfl rfl rfl (S_pick_t rfl rfl) ?_ | refine VL_still rfl rfl rfl (S_pick_f rfl rfl) ?_
                refine VL_still rfl rfl rfl (S_move rfl) ?_
                refine VL_bool 66 rfl (fun hc66 => ?_) (fun hc66 => ?_)
                · skip
                  simp at hc66
                · skip
                  refine VL_still rfl rfl rfl (S_move rfl) ?_
                  refine VL_eff rfl (E_call rfl rfl rfl Try.call13 (len_con b2 _ hh50 hT2) (by repeat (first | exact Split.nil | exact Pick.here | apply Pick.there | apply Split.cons))) ?_
                  rintro _ hh68 _ ⟨v68, nb68, ⟨rfl, rfl, rfl⟩, hs68, rfl, rfl⟩
                  refine VL_still rfl rfl rfl (S_move rfl) ?_
                  refine VL_eff rfl (E_call rfl rfl rfl Try.call13 (len_con b _ hh50 (TreeAt.sub ⟨d, t, rb, hbX, hRX, hO⟩ hs50)) (by repeat (first | exact Split.nil | exact Pick.here | apply Pick.there | apply Split.cons))) ?_
                  rintro _ hh70 _ ⟨v70, nb70, ⟨rfl, rfl, rfl⟩, hs70, rfl, rfl⟩
                  have hge := ins_ge (k := more[i].key) (v := (more[i].s, more[i].l)) hgu
                  refine VL_still rfl rfl rfl (S_lss rfl rfl) ?_
                  first | refine VL_still rfl rfl rfl (S_pick_t rfl rfl) ?_ | refine VL_still rfl rfl rfl (S_pick_f rfl rfl) ?_
                  refine VL_nil ?_
                  refine VQ_then ?_
                  refine V_cond rfl (fun hc72 => ?_) (fun hc72 => ?_)
                  · skip
                    have := of_decide_eq_true hc72
                    omega
                  · skip
                    refine V_skip ?_
                    refine VQ_then ?_
                    refine V_seq ?_
                    refine V_region ?_
                    refine VL_still rfl rfl rfl (S_move rfl) ?_
                    refine VL_eff rfl (E_call rfl rfl rfl Try.call13 (len_con b _ hh50 (TreeAt.sub ⟨d, t, rb, hbX, hRX, hO⟩ hs50)) (by repeat (first | exact Split.nil | exact Pick.here | apply Pick.there | apply Split.cons))) ?_
                    rintro _ hh93 _ ⟨v93, nb93, ⟨rfl, rfl, rfl⟩, hs93, rfl, rfl⟩
                    refine VL_still rfl rfl rfl (S_move rfl) ?_
                    refine VL_still rfl rfl rfl (S_len Try.underlying26 rfl) ?_
                    refine VL_still rfl rfl rfl (S_neq rfl rfl) ?_
                    refine VL_still rfl rfl rfl (S_move rfl) ?_
                    refine VL_bool 97 rfl (fun hc97 => ?_) (fun hc97 => ?_)
                    · skip
                      simp at hc97
                    · skip
                      refine VL_still rfl rfl rfl (S_move rfl) ?_
                      refine VL_eff rfl (E_call rfl rfl rfl Try.call19 (nodes_con d b rb t _ hh50 (hs50 _ _ hbX) (Rp.sub hs50 hRX) hO (by omega)) (by repeat (first | exact Split.nil | exact Pick.here | apply Pick.there | apply Split.cons))) ?_
                      rintro _ hh99 _ ⟨v99, nb99, ⟨cs2, G99, hB99, hA99, rfl⟩, hs99, rfl, rfl⟩
                      have hcl2 := hA99.len
                      obtain ⟨A99, c99, rfl, _, _⟩ := Buf.form hB99
                      rw [hcl2]
                      refine VL_still rfl rfl rfl (S_len Try.underlying41 rfl) ?_
                      refine VL_still rfl rfl rfl (S_move rfl) ?_
                      refine VL_still rfl rfl rfl (S_neq rfl rfl) ?_
                      first | refine VL_still rfl rfl rfl (S_pick_t rfl rfl) ?_ | refine VL_still rfl rfl rfl (S_pick_f rfl rfl) ?_
                      refine VL_still rfl rfl rfl (S_move rfl) ?_
                      refine VL_bool 104 rfl (fun hc104 => ?_) (fun hc104 => ?_)
                      · skip
                        simp at hc104
                      · skip
                        refine VL_still rfl rfl rfl (S_move rfl) ?_
                        refine VL_eff rfl (E_call rfl rfl rfl Try.call15 (range_k b _ 0 18446744073709551615 hh99 (TreeAt.sub ⟨d, t, rb, hbX, hRX, hO⟩ (hs50.trans hs99)) (by omega)) (by repeat (first | exact Split.nil | exact Pick.here | apply Pick.there | apply Split.cons))) ?_
                        rintro _ hh106 _ ⟨v106, nb106, ⟨rfl, hR3⟩, hs106, rfl, rfl⟩
                        rw [rangeP_all hgu] at hR3
                        refine VL_still rfl rfl rfl (S_move rfl) ?_
                        refine VL_eff rfl (E_call rfl rfl rfl Try.call14 (same_con _ _ _ _ hh106 hR3 (hLX.sub (hs50.trans (hs99.trans hs106))) (by omega) (by omega)) (by repeat (first | exact Split.nil | exact Pick.here | apply Pick.there | apply Split.cons))) ?_
                        rintro _ hh108 _ ⟨v108, nb108, ⟨rfl, rfl, rfl⟩, hs108, rfl, rfl⟩
                        rw [show decide (growP acts = growP acts) = true from decide_eq_true rfl]
                        refine VL_still rfl rfl rfl (S_not rfl) ?_
                        first | refine VL_still rfl rfl rfl (S_pick_t rfl rfl) ?_ | refine VL_still rfl rfl rfl (S_pick_f rfl rfl) ?_
                        refine VL_nil ?_
                        refine VQ_then ?_
                        refine V_cond rfl (fun hc110 => ?_) (fun hc110 => ?_)
                        · skip
                          simp at hc110
                        · skip
                          refine V_skip ?_
                          refine VQ_block_normal ?_
                          refine VQ_then ?_
                          refine V_region ?_
                          first | refine VL_still rfl rfl rfl (S_addi rfl rfl (by omega) (by omega)) ?_ | refine VL_still rfl rfl rfl (S_add rfl rfl) ?_
                          refine VL_still rfl rfl rfl (S_move rfl) ?_
                          refine VL_nil ?_
                          refine VQ_mid (i + 1, hh106) ⟨⟨by omega, hs1.trans (hs50.trans (hs99.trans hs106))⟩, by simp only; omega⟩ (by repeat (first | exact trivial | refine ⟨rfl, ?_⟩)) rfl SubB.any
            · skip
              refine V_seq ?_
              refine V_region ?_
              refine VL_still rfl rfl rfl (S_move rfl) ?_
              refine VL_still rfl rfl rfl (S_field (k := 1) Try.underlying36 rfl rfl ti23 rfl rfl) ?_
              first | refine VL_still rfl rfl rfl (S_load Try.underlying23 rfl rfl (Cell.trk (by repeat (first | exact Has.here | apply Has.there)) rfl)) ?_ | refine VL_still rfl rfl rfl (S_load Try.underlying23 rfl rfl (Cell.known (by first | assumption | exact (by assumption : Sub _ _) _ _ (by assumption) | exact (Sub.trans (by assumption) (by assumption)) _ _ (by assumption)) rfl)) ?_
              refine VL_eff rfl (E_call rfl rfl rfl Try.call21 (tdel_con b _ hh ⟨d, t, rb, hbX, hRX, hO⟩ more[i].key k0 k1 (by omega)) (by repeat (first | exact Split.nil | exact Pick.here | apply Pick.there | apply Split.cons))) ?_
              rintro _ hh76 _ ⟨v76, nb76, ⟨rfl, b2, rfl, hT2⟩, hs76, rfl, rfl⟩
              refine VL_still rfl rfl rfl (S_assign rfl) ?_
              refine VL_nil ?_
              refine VQ_then ?_
              refine V_seq ?_
              refine V_region ?_
              refine VL_still rfl rfl rfl (S_move rfl) ?_
              refine VL_still rfl rfl rfl (S_field (k := 1) Try.underlying36 rfl rfl ti23 rfl rfl) ?_
              first | refine VL_still rfl rfl rfl (S_load Try.underlying23 rfl rfl (Cell.trk (by repeat (first | exact Has.here | apply Has.there)) rfl)) ?_ | refine VL_still rfl rfl rfl (S_load Try.underlying23 rfl rfl (Cell.known (by first | assumption | exact (by assumption : Sub _ _) _ _ (by assumption) | exact (Sub.trans (by assumption) (by assumption)) _ _ (by assumption)) rfl)) ?_
              refine VL_eff rfl (E_call rfl rfl rfl Try.call17 (get_con b2 _ hh76 hT2 more[i].key k0 k1) (by repeat (first | exact Split.nil | exact Pick.here | apply Pick.there | apply Split.cons))) ?_
              rintro _ hh81 _ ⟨v81, nb81, ⟨rfl, rfl, rfl⟩, hs81, rfl, rfl⟩
              rw [del_look]
              refine VL_still rfl rfl rfl (S_move rfl) ?_
              refine VL_still rfl rfl rfl (S_extract rfl rfl) ?_
              refine VL_still rfl rfl rfl (S_extract rfl rfl) ?_
              refine VL_eff rfl (E_alloc rfl tz34) ?_
              rintro _ _ _ ⟨b14, hb14, rfl, rfl, rfl⟩
              refine VL_eff rfl (E_store ti34 rfl rfl rfl rfl rfl (by repeat (first | exact Has.here | apply Has.there)) (by repeat (first | exact PutR.nil | exact SetL.here | apply SetL.there | apply PutR.cons)) (by repeat (first | exact UpdG.here | apply UpdG.there))) ?_
              rintro _ _ _ ⟨rfl, rfl, rfl⟩
              refine VL_still rfl rfl rfl (S_assign rfl) ?_
              refine VL_nil ?_
              refine VQ_then ?_
              refine V_seq ?_
              refine V_region ?_
              refine VL_still rfl rfl rfl (S_move rfl) ?_
              refine VL_still rfl rfl rfl (S_move rfl) ?_
              refine VL_bool 85 rfl (fun hc85 => ?_) (fun hc85 => ?_)
              · skip
                simp at hc85
              · skip
                refine VL_still rfl rfl rfl (S_move rfl) ?_
                refine VL_eff rfl (E_call rfl rfl rfl Try.call13 (len_con b2 _ hh76 hT2) (by repeat (first | exact Split.nil | exact Pick.here | apply Pick.there | apply Split.cons))) ?_
                rintro _ hh87 _ ⟨v87, nb87, ⟨rfl, rfl, rfl⟩, hs87, rfl, rfl⟩
                refine VL_still rfl rfl rfl (S_move rfl) ?_
                refine VL_eff rfl (E_call rfl rfl rfl Try.call13 (len_con b _ hh76 (TreeAt.sub ⟨d, t, rb, hbX, hRX, hO⟩ hs76)) (by repeat (first | exact Split.nil | exact Pick.here | apply Pick.there | apply Split.cons))) ?_
                rintro _ hh89 _ ⟨v89, nb89, ⟨rfl, rfl, rfl⟩, hs89, rfl, rfl⟩
                have hge := delP_le (growP acts) more[i].key
                refine VL_still rfl rfl rfl (S_gtr rfl rfl) ?_
                first | refine VL_still rfl rfl rfl (S_pick_t rfl rfl) ?_ | refine VL_still rfl rfl rfl (S_pick_f rfl rfl) ?_
                refine VL_nil ?_
                refine VQ_then ?_
                refine V_cond rfl (fun hc91 => ?_) (fun hc91 => ?_)
                · skip
                  have := of_decide_eq_true hc91
                  omega
                · skip
                  refine V_skip ?_
                  refine VQ_then ?_
                  refine V_seq ?_
                  refine V_region ?_
                  refine VL_still rfl rfl rfl (S_move rfl) ?_
                  refine VL_eff rfl (E_call rfl rfl rfl Try.call13 (len_con b _ hh76 (TreeAt.sub ⟨d, t, rb, hbX, hRX, hO⟩ hs76)) (by repeat (first | exact Split.nil | exact Pick.here | apply Pick.there | apply Split.cons))) ?_
                  rintro _ hh93 _ ⟨v93, nb93, ⟨rfl, rfl, rfl⟩, hs93, rfl, rfl⟩
                  refine VL_still rfl rfl rfl (S_move rfl) ?_
                  refine VL_still rfl rfl rfl (S_len Try.underlying26 rfl) ?_
                  refine VL_still rfl rfl rfl (S_neq rfl rfl) ?_
                  refine VL_still rfl rfl rfl (S_move rfl) ?_
                  refine VL_bool 97 rfl (fun hc97 => ?_) (fun hc97 => ?_)
                  · skip
                    simp at hc97
                  · skip
                    refine VL_still rfl rfl rfl (S_move rfl) ?_
                    refine VL_eff rfl (E_call rfl rfl rfl Try.call19 (nodes_con d b rb t _ hh76 (hs76 _ _ hbX) (Rp.sub hs76 hRX) hO (by omega)) (by repeat (first | exact Split.nil | exact Pick.here | apply Pick.there | apply Split.cons))) ?_
                    rintro _ hh99 _ ⟨v99, nb99, ⟨cs2, G99, hB99, hA99, rfl⟩, hs99, rfl, rfl⟩
                    have hcl2 := hA99.len
                    obtain ⟨A99, c99, rfl, _, _⟩ := Buf.form hB99
                    rw [hcl2]
                    refine VL_still rfl rfl rfl (S_len Try.underlying41 rfl) ?_
                    refine VL_still rfl rfl rfl (S_move rfl) ?_
                    refine VL_still rfl rfl rfl (S_neq rfl rfl) ?_
                    first | refine VL_still rfl rfl rfl (S_pick_t rfl rfl) ?_ | refine VL_still rfl rfl rfl (S_pick_f rfl rfl) ?_
                    refine VL_still rfl rfl rfl (S_move rfl) ?_
                    refine VL_bool 104 rfl (fun hc104 => ?_) (fun hc104 => ?_)
                    · skip
                      simp at hc104
                    · skip
                      refine VL_still rfl rfl rfl (S_move rfl) ?_
                      refine VL_eff rfl (E_call rfl rfl rfl Try.call15 (range_k b _ 0 18446744073709551615 hh99 (TreeAt.sub ⟨d, t, rb, hbX, hRX, hO⟩ (hs76.trans hs99)) (by omega)) (by repeat (first | exact Split.nil | exact Pick.here | apply Pick.there | apply Split.cons))) ?_
                      rintro _ hh106 _ ⟨v106, nb106, ⟨rfl, hR3⟩, hs106, rfl, rfl⟩
                      rw [rangeP_all hgu] at hR3
                      refine VL_still rfl rfl rfl (S_move rfl) ?_
                      refine VL_eff rfl (E_call rfl rfl rfl Try.call14 (same_con _ _ _ _ hh106 hR3 (hLX.sub (hs76.trans (hs99.trans hs106))) (by omega) (by omega)) (by repeat (first | exact Split.nil | exact Pick.here | apply Pick.there | apply Split.cons))) ?_
                      rintro _ hh108 _ ⟨v108, nb108, ⟨rfl, rfl, rfl⟩, hs108, rfl, rfl⟩
                      rw [show decide (growP acts = growP acts) = true from decide_eq_true rfl]
                      refine VL_still rfl rfl rfl (S_not rfl) ?_
                      first | refine VL_still rfl rfl rfl (S_pick_t rfl rfl) ?_ | refine VL_still rfl rfl rfl (S_pick_f rfl rfl) ?_
                      refine VL_nil ?_
                      refine VQ_then ?_
                      refine V_cond rfl (fun hc110 => ?_) (fun hc110 => ?_)
                      · skip
                        simp at hc110
                      · skip
                        refine V_skip ?_
                        refine VQ_block_normal ?_
                        refine VQ_then ?_
                        refine V_region ?_
                        first | refine VL_still rfl rfl rfl (S_addi rfl rfl (by omega) (by omega)) ?_ | refine VL_still rfl rfl rfl (S_add rfl rfl) ?_
                        refine VL_still rfl rfl rfl (S_move rfl) ?_
                        refine VL_nil ?_
                        refine VQ_mid (i + 1, hh106) ⟨⟨by omega, hs1.trans (hs76.trans (hs99.trans hs106))⟩, by simp only; omega⟩ (by repeat (first | exact trivial | refine ⟨rfl, ?_⟩)) rfl SubB.any
          · skip
            refine V_exit ?_
            refine VQ_then_exit ?_
            refine VQ_then_exit ?_
            refine VQ_block_exit ?_
            refine VQ_then ?_
            refine V_seq ?_
            refine V_region ?_
            refine VL_still rfl rfl rfl (S_assign rfl) ?_
            refine VL_nil ?_
            refine VQ_then ?_
            refine V_ret ?_
            refine VQ_fin1 (nb := []) (by first | exact .inl rfl | exact .inr rfl) rfl (RV_tmp rfl) ?sb ?po
            case po =>
              exact ⟨rfl, rfl⟩
            case sb => exact (by repeat (first | exact SubB.nil | exact Pick.here | apply Pick.there | apply SubB.emp | apply SubB.cons))

end Go.Proofs.Ytdglignjoojimaa
