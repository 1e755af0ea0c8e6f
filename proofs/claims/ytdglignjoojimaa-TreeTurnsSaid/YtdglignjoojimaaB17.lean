/- The law TreeTurns: its walk. No conditions. -/
import Derived.Test.YtdglignjoojimaaB14
import Derived.Test.YtdglignjoojimaaT8
set_option linter.unusedVariables false
set_option linter.unusedSimpArgs false
namespace Go.Proofs.Ytdglignjoojimaa

set_option maxRecDepth 100000 in
theorem turns_con (v : Value) (acts : List Ac) (a b : Ac) (h : Hp) (hs : AL h v acts) (hok : ∀ a ∈ acts, OkA a) (hka : OkA a) (hkb : OkA b) : Con Try.prog 5 [v, .agg #[.int .i64 a.k, .int .u64 a.key, .int .i64 a.s, .int .i64 a.l], .agg #[.int .i64 b.k, .int .u64 b.key, .int .i64 b.s, .int .i64 b.l]] h [] (fun r h' nb => r = .bool true ∧ nb = []) := by
  obtain ⟨A, cap, rfl, hle, hmx⟩ := SlR.form hs
  refine Con_of Try.func5 rfl Try.ntmps5 (Nat.le_of_ble_eq_true rfl) (fun w0 => ?_)
  refine V_seq ?_
  refine V_region ?_
  refine VL_eff rfl (E_box rfl rfl rfl) ?_
  rintro _ _ _ ⟨b4, hb4, rfl, rfl, rfl⟩
  refine VL_eff rfl (E_box rfl rfl rfl) ?_
  rintro _ _ _ ⟨b5, hb5, rfl, rfl, rfl⟩
  refine VL_still rfl rfl rfl (S_assign rfl) ?_
  refine VL_nil ?_
  refine VQ_then ?_
  refine V_seq ?_
  refine V_seq ?_
  refine V_region ?_
  refine VL_eff rfl (E_call rfl rfl rfl Try.call11 (alive_con h) (by repeat (first | exact Split.nil | exact Pick.here | apply Pick.there | apply Split.cons))) ?_
  rintro _ hh13 _ ⟨v13, nb13, ⟨rfl, rfl⟩, hs13, rfl, rfl⟩
  refine VL_still rfl rfl rfl (S_not rfl) ?_
  refine VL_nil ?_
  refine VQ_then ?_
  refine V_cond rfl (fun hc14 => ?_) (fun hc14 => ?_)
  · skip
    simp at hc14
  · skip
    refine V_skip ?_
    refine VQ_then ?_
    refine V_seq ?_
    refine V_seq ?_
    refine V_region ?_
    refine VL_still rfl rfl rfl (S_move rfl) ?_
    refine VL_still rfl rfl rfl (S_len Try.underlying22 rfl) ?_
    refine VL_still rfl rfl rfl (S_gtr rfl rfl) ?_
    refine VL_still rfl rfl rfl (S_move rfl) ?_
    refine VL_bool 18 rfl (fun hc18 => ?_) (fun hc18 => ?_)
    · skip
      refine VL_skip rfl rfl rfl ?_
      refine VL_skip rfl rfl rfl ?_
      refine VL_skip rfl rfl rfl ?_
      refine VL_skip rfl rfl rfl ?_
      refine VL_skip rfl rfl rfl ?_
      first | refine VL_still rfl rfl rfl (S_pick_t rfl rfl) ?_ | refine VL_still rfl rfl rfl (S_pick_f rfl rfl) ?_
      refine VL_nil ?_
      refine VQ_then ?_
      refine V_cond_true rfl ?_
      refine V_seq ?_
      refine V_region ?_
      refine VL_still rfl rfl rfl (S_assign rfl) ?_
      refine VL_nil ?_
      refine VQ_then ?_
      refine V_ret ?_
      refine VQ_then_ret ?_
      refine VQ_fin1 (nb := []) (by first | exact .inl rfl | exact .inr rfl) rfl (RV_tmp rfl) ?sb ?po
      case po =>
        exact ⟨rfl, rfl⟩
      case sb => exact (by repeat (first | exact SubB.nil | exact Pick.here | apply Pick.there | apply SubB.emp | apply SubB.cons))
    · skip
      have hlen : acts.length ≤ 200 := by
        have := of_decide_eq_false hc18
        omega
      refine VL_still rfl rfl rfl (S_field (k := 1) Try.underlying36 rfl rfl ti23 rfl rfl) ?_
      first | refine VL_still rfl rfl rfl (S_load Try.underlying23 rfl rfl (Cell.trk (by repeat (first | exact Has.here | apply Has.there)) rfl)) ?_ | refine VL_still rfl rfl rfl (S_load Try.underlying23 rfl rfl (Cell.known (by first | assumption | exact (by assumption : Sub _ _) _ _ (by assumption) | exact (Sub.trans (by assumption) (by assumption)) _ _ (by assumption)) rfl)) ?_
      refine VL_still rfl rfl rfl (S_field (k := 1) Try.underlying36 rfl rfl ti23 rfl rfl) ?_
      first | refine VL_still rfl rfl rfl (S_load Try.underlying23 rfl rfl (Cell.trk (by repeat (first | exact Has.here | apply Has.there)) rfl)) ?_ | refine VL_still rfl rfl rfl (S_load Try.underlying23 rfl rfl (Cell.known (by first | assumption | exact (by assumption : Sub _ _) _ _ (by assumption) | exact (Sub.trans (by assumption) (by assumption)) _ _ (by assumption)) rfl)) ?_
      refine VL_still rfl rfl rfl (S_eql rfl rfl) ?_
      first | refine VL_still rfl rfl rfl (S_pick_t rfl rfl) ?_ | refine VL_still rfl rfl rfl (S_pick_f rfl rfl) ?_
      refine VL_nil ?_
      refine VQ_then ?_
      refine V_cond rfl (fun hc24 => ?_) (fun hc24 => ?_)
      · skip
        refine V_seq ?_
        refine V_region ?_
        refine VL_still rfl rfl rfl (S_assign rfl) ?_
        refine VL_nil ?_
        refine VQ_then ?_
        refine V_ret ?_
        refine VQ_then_ret ?_
        refine VQ_fin1 (nb := []) (by first | exact .inl rfl | exact .inr rfl) rfl (RV_tmp rfl) ?sb ?po
        case po =>
          exact ⟨rfl, rfl⟩
        case sb => exact (by repeat (first | exact SubB.nil | exact Pick.here | apply Pick.there | apply SubB.emp | apply SubB.cons))
      · skip
        have hne : a.key ≠ b.key := of_decide_eq_false hc24
        refine V_skip ?_
        refine VQ_then ?_
        refine V_seq ?_
        refine V_region ?_
        refine VL_still rfl rfl rfl (S_move rfl) ?_
        refine VL_eff rfl (E_call rfl rfl rfl Try.call12 (grown_con _ acts hh13 (hs.sub hs13) hok (by omega)) (by repeat (first | exact Split.nil | exact Pick.here | apply Pick.there | apply Split.cons))) ?_
        rintro _ hh27 _ ⟨v27, nb27, ⟨rfl, bt, vl, rfl, hT, hL⟩, hs27, rfl, rfl⟩
        obtain ⟨hgu, hgl⟩ := growP_ok acts.length hok (Nat.le_refl _)
        rw [List.take_length] at hgu hgl
        have ha1 := hgu.ins (v := (a.s, a.l)) hka.1 hka.2
        have hb1 := hgu.ins (v := (b.s, b.l)) hkb.1 hkb.2
        have hla := insP_len (v := (a.s, a.l)) (k := a.key) hgu
        have hlb := insP_len (v := (b.s, b.l)) (k := b.key) hgu
        have hla2 : (insP (growP acts) a.key (a.s, a.l)).length ≤ (growP acts).length + 1 := by rw [hla]; split <;> omega
        have hlb2 : (insP (growP acts) b.key (b.s, b.l)).length ≤ (growP acts).length + 1 := by rw [hlb]; split <;> omega
        have hlx := insP_len (v := (b.s, b.l)) (k := b.key) ha1
        have hlx2 : (insP (insP (growP acts) a.key (a.s, a.l)) b.key (b.s, b.l)).length ≤ (growP acts).length + 2 := by rw [hlx]; split <;> omega
        have hux := ha1.ins (v := (b.s, b.l)) hkb.1 hkb.2
        refine VL_still rfl rfl rfl (S_move rfl) ?_
        refine VL_still rfl rfl rfl (S_extract rfl rfl) ?_
        refine VL_still rfl rfl rfl (S_extract rfl rfl) ?_
        refine VL_still rfl rfl rfl (S_assign rfl) ?_
        refine VL_still rfl rfl rfl (S_assign rfl) ?_
        refine VL_nil ?_
        refine VQ_then ?_
        refine V_seq ?_
        refine V_seq ?_
        refine V_region ?_
        refine VL_still rfl rfl rfl (S_move rfl) ?_
        refine VL_still rfl rfl rfl (S_peqnil Try.underlying25 rfl rfl) ?_
        refine VL_nil ?_
        refine VQ_then ?_
        refine V_cond rfl (fun hc31 => ?_) (fun hc31 => ?_)
        · skip
          simp at hc31
        · skip
          refine V_skip ?_
          refine VQ_then ?_
          refine V_seq ?_
          refine V_draw _ [[(b4, .cells (List.toArray [.int .i64 a.k, .int .u64 a.key, .int .i64 a.s, .int .i64 a.l]) 36 (0, 0))], [(b5, .cells (List.toArray [.int .i64 b.k, .int .u64 b.key, .int .i64 b.s, .int .i64 b.l]) 36 (0, 0))]] 2163744 Try.mixed (by kernel_rfl) (Sub.refl _) (by repeat (first | exact SubB.nil | exact Pick.here | apply Pick.there | apply SubB.emp | apply SubB.cons)) ?_
          refine VD_still rfl rfl rfl rfl (S_move rfl) ?_
          refine VD_still rfl rfl rfl rfl (S_field (k := 1) Try.underlying36 rfl rfl ti23 rfl rfl) ?_
          first | refine VD_still rfl rfl rfl rfl (S_load Try.underlying23 rfl rfl (Cell.trk (by repeat (first | exact Has.here | apply Has.there)) rfl)) ?_ | refine VD_still rfl rfl rfl rfl (S_load Try.underlying23 rfl rfl (Cell.known (by first | assumption | exact (by assumption : Sub _ _) _ _ (by assumption) | exact (Sub.trans (by assumption) (by assumption)) _ _ (by assumption)) rfl)) ?_
          refine VD_still rfl rfl rfl rfl (S_field (k := 2) Try.underlying36 rfl rfl ti34 rfl rfl) ?_
          refine VD_still rfl rfl rfl rfl (S_loads (vs := [.int .i64 a.s, .int .i64 a.l]) Try.underlying34 rfl ti34 rfl rfl (Cells.trk (by repeat (first | exact Has.here | apply Has.there)) (by repeat (first | exact TakeR.here (by repeat (first | exact HeadR.nil | apply HeadR.cons)) | apply TakeR.there)))) ?_
          refine VD_eff rfl rfl (E_call rfl rfl rfl Try.call20 (tput_con bt _ hh27 hT a.key a.s a.l hka.1 hka.2 (by omega)) (by repeat (first | exact Split.nil | exact Pick.here | apply Pick.there | apply Split.cons))) ?_
          rintro _ hh37 _ ⟨v37, nb37, ⟨rfl, b1, rfl, hT1⟩, hs37, rfl, rfl⟩
          refine ⟨⟨(by first | exact Sub.refl _ | (first | assumption | (refine Sub.trans (by assumption) ?_; first | assumption | (refine Sub.trans (by assumption) ?_; first | assumption | (refine Sub.trans (by assumption) ?_; first | assumption | (refine Sub.trans (by assumption) ?_; first | assumption | (refine Sub.trans (by assumption) ?_; first | assumption | (refine Sub.trans (by assumption) ?_; first | assumption)))))))), (by repeat (first | exact SubB.nil | exact Pick.here | apply Pick.there | apply SubB.emp | apply SubB.cons))⟩, ?_⟩
          refine VD_still rfl rfl rfl rfl (S_field (k := 1) Try.underlying36 rfl rfl ti23 rfl rfl) ?_
          first | refine VD_still rfl rfl rfl rfl (S_load Try.underlying23 rfl rfl (Cell.trk (by repeat (first | exact Has.here | apply Has.there)) rfl)) ?_ | refine VD_still rfl rfl rfl rfl (S_load Try.underlying23 rfl rfl (Cell.known (by first | assumption | exact (by assumption : Sub _ _) _ _ (by assumption) | exact (Sub.trans (by assumption) (by assumption)) _ _ (by assumption)) rfl)) ?_
          refine VD_still rfl rfl rfl rfl (S_field (k := 2) Try.underlying36 rfl rfl ti34 rfl rfl) ?_
          refine VD_still rfl rfl rfl rfl (S_loads (vs := [.int .i64 b.s, .int .i64 b.l]) Try.underlying34 rfl ti34 rfl rfl (Cells.trk (by repeat (first | exact Has.here | apply Has.there)) (by repeat (first | exact TakeR.here (by repeat (first | exact HeadR.nil | apply HeadR.cons)) | apply TakeR.there)))) ?_
          refine VD_eff rfl rfl (E_call rfl rfl rfl Try.call20 (tput_con b1 _ hh37 hT1 b.key b.s b.l hkb.1 hkb.2 (by omega)) (by repeat (first | exact Split.nil | exact Pick.here | apply Pick.there | apply Split.cons))) ?_
          rintro _ hh42 _ ⟨v42, nb42, ⟨rfl, b2, rfl, hT2⟩, hs42, rfl, rfl⟩
          refine ⟨⟨(by first | exact Sub.refl _ | (first | assumption | (refine Sub.trans (by assumption) ?_; first | assumption | (refine Sub.trans (by assumption) ?_; first | assumption | (refine Sub.trans (by assumption) ?_; first | assumption | (refine Sub.trans (by assumption) ?_; first | assumption | (refine Sub.trans (by assumption) ?_; first | assumption | (refine Sub.trans (by assumption) ?_; first | assumption)))))))), (by repeat (first | exact SubB.nil | exact Pick.here | apply Pick.there | apply SubB.emp | apply SubB.cons))⟩, ?_⟩
          refine VD_still rfl rfl rfl rfl (S_move rfl) ?_
          refine VD_still rfl rfl rfl rfl (S_field (k := 1) Try.underlying36 rfl rfl ti23 rfl rfl) ?_
          first | refine VD_still rfl rfl rfl rfl (S_load Try.underlying23 rfl rfl (Cell.trk (by repeat (first | exact Has.here | apply Has.there)) rfl)) ?_ | refine VD_still rfl rfl rfl rfl (S_load Try.underlying23 rfl rfl (Cell.known (by first | assumption | exact (by assumption : Sub _ _) _ _ (by assumption) | exact (Sub.trans (by assumption) (by assumption)) _ _ (by assumption)) rfl)) ?_
          refine VD_still rfl rfl rfl rfl (S_field (k := 2) Try.underlying36 rfl rfl ti34 rfl rfl) ?_
          refine VD_still rfl rfl rfl rfl (S_loads (vs := [.int .i64 b.s, .int .i64 b.l]) Try.underlying34 rfl ti34 rfl rfl (Cells.trk (by repeat (first | exact Has.here | apply Has.there)) (by repeat (first | exact TakeR.here (by repeat (first | exact HeadR.nil | apply HeadR.cons)) | apply TakeR.there)))) ?_
          refine VD_eff rfl rfl (E_call rfl rfl rfl Try.call20 (tput_con bt _ hh42 (hT.sub (hs37.trans hs42)) b.key b.s b.l hkb.1 hkb.2 (by omega)) (by repeat (first | exact Split.nil | exact Pick.here | apply Pick.there | apply Split.cons))) ?_
          rintro _ hh48 _ ⟨v48, nb48, ⟨rfl, b3, rfl, hT3⟩, hs48, rfl, rfl⟩
          refine ⟨⟨(by first | exact Sub.refl _ | (first | assumption | (refine Sub.trans (by assumption) ?_; first | assumption | (refine Sub.trans (by assumption) ?_; first | assumption | (refine Sub.trans (by assumption) ?_; first | assumption | (refine Sub.trans (by assumption) ?_; first | assumption | (refine Sub.trans (by assumption) ?_; first | assumption | (refine Sub.trans (by assumption) ?_; first | assumption)))))))), (by repeat (first | exact SubB.nil | exact Pick.here | apply Pick.there | apply SubB.emp | apply SubB.cons))⟩, ?_⟩
          refine VD_still rfl rfl rfl rfl (S_field (k := 1) Try.underlying36 rfl rfl ti23 rfl rfl) ?_
          first | refine VD_still rfl rfl rfl rfl (S_load Try.underlying23 rfl rfl (Cell.trk (by repeat (first | exact Has.here | apply Has.there)) rfl)) ?_ | refine VD_still rfl rfl rfl rfl (S_load Try.underlying23 rfl rfl (Cell.known (by first | assumption | exact (by assumption : Sub _ _) _ _ (by assumption) | exact (Sub.trans (by assumption) (by assumption)) _ _ (by assumption)) rfl)) ?_
          refine VD_still rfl rfl rfl rfl (S_field (k := 2) Try.underlying36 rfl rfl ti34 rfl rfl) ?_
          refine VD_still rfl rfl rfl rfl (S_loads (vs := [.int .i64 a.s, .int .i64 a.l]) Try.underlying34 rfl ti34 rfl rfl (Cells.trk (by repeat (first | exact Has.here | apply Has.there)) (by repeat (first | exact TakeR.here (by repeat (first | exact HeadR.nil | apply HeadR.cons)) | apply TakeR.there)))) ?_
          refine VD_eff rfl rfl (E_call rfl rfl rfl Try.call20 (tput_con b3 _ hh48 hT3 a.key a.s a.l hka.1 hka.2 (by omega)) (by repeat (first | exact Split.nil | exact Pick.here | apply Pick.there | apply Split.cons))) ?_
          rintro _ hh53 _ ⟨v53, nb53, ⟨rfl, b6, rfl, hT6⟩, hs53, rfl, rfl⟩
          rw [← ins_comm (growP acts) (a.s, a.l) (b.s, b.l) hne] at hT6
          refine ⟨⟨(by first | exact Sub.refl _ | (first | assumption | (refine Sub.trans (by assumption) ?_; first | assumption | (refine Sub.trans (by assumption) ?_; first | assumption | (refine Sub.trans (by assumption) ?_; first | assumption | (refine Sub.trans (by assumption) ?_; first | assumption | (refine Sub.trans (by assumption) ?_; first | assumption | (refine Sub.trans (by assumption) ?_; first | assumption)))))))), (by repeat (first | exact SubB.nil | exact Pick.here | apply Pick.there | apply SubB.emp | apply SubB.cons))⟩, ?_⟩
          refine VD_still rfl rfl rfl rfl (S_assign rfl) ?_
          refine VD_still rfl rfl rfl rfl (S_assign rfl) ?_
          refine VD_nil ?_
          refine VQ_then ?_
          refine V_seq ?_
          refine V_seq ?_
          refine V_region ?_
          refine VL_still rfl rfl rfl (S_move rfl) ?_
          refine VL_eff rfl (E_call rfl rfl rfl Try.call15 (range_k b2 _ 0 18446744073709551615 hh53 (hT2.sub (hs48.trans hs53)) (by omega)) (by repeat (first | exact Split.nil | exact Pick.here | apply Pick.there | apply Split.cons))) ?_
          rintro _ hh55 _ ⟨v55, nb55, ⟨rfl, hRx⟩, hs55, rfl, rfl⟩
          rw [rangeP_all hux] at hRx
          refine VL_still rfl rfl rfl (S_move rfl) ?_
          refine VL_eff rfl (E_call rfl rfl rfl Try.call15 (range_k b6 _ 0 18446744073709551615 hh55 (hT6.sub hs55) (by omega)) (by repeat (first | exact Split.nil | exact Pick.here | apply Pick.there | apply Split.cons))) ?_
          rintro _ hh57 _ ⟨v57, nb57, ⟨rfl, hRy⟩, hs57, rfl, rfl⟩
          rw [rangeP_all hux] at hRy
          refine VL_eff rfl (E_call rfl rfl rfl Try.call14 (same_con _ _ _ _ hh57 (hRx.sub hs57) hRy (by omega) (by omega)) (by repeat (first | exact Split.nil | exact Pick.here | apply Pick.there | apply Split.cons))) ?_
          rintro _ hh58 _ ⟨v58, nb58, ⟨rfl, rfl, rfl⟩, hs58, rfl, rfl⟩
          rw [show decide ((insP (insP (growP acts) a.key (a.s, a.l)) b.key (b.s, b.l)) = (insP (insP (growP acts) a.key (a.s, a.l)) b.key (b.s, b.l))) = true from decide_eq_true rfl]
          refine VL_still rfl rfl rfl (S_not rfl) ?_
          refine VL_nil ?_
          refine VQ_then ?_
          refine V_cond rfl (fun hc59 => ?_) (fun hc59 => ?_)
          · skip
            simp at hc59
          · skip
            refine V_skip ?_
            refine VQ_then ?_
            refine V_seq ?_
            refine V_region ?_
            refine VL_still rfl rfl rfl (S_move rfl) ?_
            refine VL_eff rfl (E_call rfl rfl rfl Try.call15 (range_k b2 _ 0 18446744073709551615 hh57 (hT2.sub (hs48.trans (hs53.trans (hs55.trans hs57)))) (by omega)) (by repeat (first | exact Split.nil | exact Pick.here | apply Pick.there | apply Split.cons))) ?_
            rintro _ hh61 _ ⟨v61, nb61, ⟨rfl, hRl⟩, hs61, rfl, rfl⟩
            rw [rangeP_all hux] at hRl
            obtain ⟨Al, cl, rfl, _, _⟩ := SlR.form hRl
            refine VL_still rfl rfl rfl (S_assign rfl) ?_
            refine VL_nil ?_
            refine VQ_then ?_
            refine V_seq ?_
            refine V_seq ?_
            refine V_region ?_
            refine VL_still rfl rfl rfl (S_assign rfl) ?_
            refine VL_nil ?_
            refine VQ_then ?_
            refine V_block ?_
            refine V_loop (ι := Nat) (fun i => (insP (insP (growP acts) a.key (a.s, a.l)) b.key (b.s, b.l)).length + 1 - i) (fun i => 1 ≤ i ∧ i ≤ (insP (insP (growP acts) a.key (a.s, a.l)) b.key (b.s, b.l)).length + 1) (fun i => [(4, ptr b4), (5, ptr b5), (7, ptr bt), (11, .slice Al (insP (insP (growP acts) a.key (a.s, a.l)) b.key (b.s, b.l)).length cl), (12, .int .i64 i)]) (fun _ => hh61) (fun _ => [[(b4, .cells (List.toArray [.int .i64 a.k, .int .u64 a.key, .int .i64 a.s, .int .i64 a.l]) 36 (0, 0))], [(b5, .cells (List.toArray [.int .i64 b.k, .int .u64 b.key, .int .i64 b.s, .int .i64 b.l]) 36 (0, 0))]]) 1 ⟨Nat.le_refl _, by omega⟩ (by repeat (first | exact trivial | refine ⟨rfl, ?_⟩)) rfl (by repeat (first | exact SubB.nil | exact Pick.here | apply Pick.there | apply SubB.emp | apply SubB.cons)) (fun i hi => ?_)
            obtain ⟨hi1, hi2⟩ := hi
            refine V_seq ?_
            refine V_seq ?_
            refine V_region ?_
            refine VL_still rfl rfl rfl (S_move rfl) ?_
            refine VL_still rfl rfl rfl (S_move rfl) ?_
            refine VL_still rfl rfl rfl (S_len Try.underlying26 rfl) ?_
            refine VL_still rfl rfl rfl (S_lss rfl rfl) ?_
            refine VL_nil ?_
            refine VQ_then ?_
            refine V_cond rfl (fun hc65 => ?_) (fun hc65 => ?_)
            · skip
              have hlt : i < (insP (insP (growP acts) a.key (a.s, a.l)) b.key (b.s, b.l)).length := by
                have := of_decide_eq_true hc65
                omega
              have hlt1 : i - 1 < (insP (insP (growP acts) a.key (a.s, a.l)) b.key (b.s, b.l)).length := by omega
              obtain ⟨bb, off, cap', e1, hcc⟩ := SlR.at_ prE hRl rfl hlt
              obtain ⟨bb2, off2, cap2', e2, hcc1⟩ := SlR.at_ prE hRl rfl hlt1
              simp only [Value.slice.injEq] at e1 e2
              obtain ⟨rfl, _, rfl⟩ := e1
              obtain ⟨e3, _, rfl⟩ := e2
              simp only [Option.some.injEq, Addr.mk.injEq, and_true] at e3
              obtain ⟨rfl, rfl⟩ := e3
              have hadj := hux.adj (i := i - 1) (by omega)
              have hidx : (insP (insP (growP acts) a.key (a.s, a.l)) b.key (b.s, b.l))[i - 1 + 1]'(by omega) = (insP (insP (growP acts) a.key (a.s, a.l)) b.key (b.s, b.l))[i] := by congr 1; omega
              rw [hidx] at hadj
              refine V_skip ?_
              refine VQ_then ?_
              refine V_seq ?_
              refine V_block ?_
              refine V_seq ?_
              refine V_draw _ [] 0 Try.mixed (by kernel_rfl) (Sub.refl _) SubB.any ?_
              refine VD_still rfl rfl rfl rfl (S_move rfl) ?_
              refine VD_still rfl rfl rfl rfl (S_move rfl) ?_
              refine VD_still rfl rfl rfl rfl (S_subn i 1 rfl rfl (by omega) (by omega)) ?_
              refine VD_still rfl rfl rfl rfl (X_at (i - 1) Try.underlying26 tx47 rfl rfl hlt1) ?_
              refine VD_still rfl rfl rfl rfl (S_field (k := 0) Try.underlying47 rfl rfl ti23 rfl rfl) ?_
              refine VD_still rfl rfl rfl rfl (S_load Try.underlying23 rfl rfl hcc1.1.mem) ?_
              refine VD_still rfl rfl rfl rfl (S_move rfl) ?_
              refine VD_still rfl rfl rfl rfl (S_move rfl) ?_
              refine VD_still rfl rfl rfl rfl (X_at i Try.underlying26 tx47 rfl rfl hlt) ?_
              refine VD_still rfl rfl rfl rfl (S_field (k := 0) Try.underlying47 rfl rfl ti23 rfl rfl) ?_
              refine VD_still rfl rfl rfl rfl (S_load Try.underlying23 rfl rfl hcc.1.mem) ?_
              refine VD_still rfl rfl rfl rfl (S_geq rfl rfl) ?_
              refine VD_nil ?_
              refine VQ_then ?_
              refine V_cond rfl (fun hc79 => ?_) (fun hc79 => ?_)
              · skip
                have := of_decide_eq_true hc79
                omega
              · skip
                refine V_skip ?_
                refine VQ_block_normal ?_
                refine VQ_then ?_
                refine V_region ?_
                refine VL_still rfl rfl rfl (S_move rfl) ?_
                first | refine VL_still rfl rfl rfl (S_addi rfl rfl (by omega) (by omega)) ?_ | refine VL_still rfl rfl rfl (S_add rfl rfl) ?_
                refine VL_still rfl rfl rfl (S_assign rfl) ?_
                refine VL_nil ?_
                refine VQ_mid (i + 1) ⟨⟨by omega, by omega⟩, by omega⟩ (by repeat (first | exact trivial | refine ⟨rfl, ?_⟩)) rfl (by repeat (first | exact SubB.nil | exact Pick.here | apply Pick.there | apply SubB.emp | apply SubB.cons))
            · skip
              refine V_exit ?_
              refine VQ_then_exit ?_
              refine VQ_then_exit ?_
              refine VQ_block_exit ?_
              refine VQ_then ?_
              refine V_seq ?_
              have hTZ := hT.sub (hs37.trans (hs42.trans (hs48.trans (hs53.trans (hs55.trans (hs57.trans hs61))))))
              refine V_draw _ [[(b4, .cells (List.toArray [.int .i64 a.k, .int .u64 a.key, .int .i64 a.s, .int .i64 a.l]) 36 (0, 0))], [(b5, .cells (List.toArray [.int .i64 b.k, .int .u64 b.key, .int .i64 b.s, .int .i64 b.l]) 36 (0, 0))]] 58144 Try.mixed (by kernel_rfl) (Sub.refl _) (by repeat (first | exact SubB.nil | exact Pick.here | apply Pick.there | apply SubB.emp | apply SubB.cons)) ?_
              refine VD_still rfl rfl rfl rfl (S_move rfl) ?_
              refine VD_still rfl rfl rfl rfl (S_field (k := 1) Try.underlying36 rfl rfl ti23 rfl rfl) ?_
              first | refine VD_still rfl rfl rfl rfl (S_load Try.underlying23 rfl rfl (Cell.trk (by repeat (first | exact Has.here | apply Has.there)) rfl)) ?_ | refine VD_still rfl rfl rfl rfl (S_load Try.underlying23 rfl rfl (Cell.known (by first | assumption | exact (by assumption : Sub _ _) _ _ (by assumption) | exact (Sub.trans (by assumption) (by assumption)) _ _ (by assumption)) rfl)) ?_
              refine VD_still rfl rfl rfl rfl (S_field (k := 2) Try.underlying36 rfl rfl ti34 rfl rfl) ?_
              refine VD_still rfl rfl rfl rfl (S_loads (vs := [.int .i64 a.s, .int .i64 a.l]) Try.underlying34 rfl ti34 rfl rfl (Cells.trk (by repeat (first | exact Has.here | apply Has.there)) (by repeat (first | exact TakeR.here (by repeat (first | exact HeadR.nil | apply HeadR.cons)) | apply TakeR.there)))) ?_
              refine VD_eff rfl rfl (E_call rfl rfl rfl Try.call20 (tput_con bt _ hh61 hTZ a.key a.s a.l hka.1 hka.2 (by omega)) (by repeat (first | exact Split.nil | exact Pick.here | apply Pick.there | apply Split.cons))) ?_
              rintro _ hh85 _ ⟨v85, nb85, ⟨rfl, b7, rfl, hT7⟩, hs85, rfl, rfl⟩
              refine ⟨⟨(by first | exact Sub.refl _ | (first | assumption | (refine Sub.trans (by assumption) ?_; first | assumption | (refine Sub.trans (by assumption) ?_; first | assumption | (refine Sub.trans (by assumption) ?_; first | assumption | (refine Sub.trans (by assumption) ?_; first | assumption | (refine Sub.trans (by assumption) ?_; first | assumption | (refine Sub.trans (by assumption) ?_; first | assumption)))))))), (by repeat (first | exact SubB.nil | exact Pick.here | apply Pick.there | apply SubB.emp | apply SubB.cons))⟩, ?_⟩
              refine VD_still rfl rfl rfl rfl (S_field (k := 1) Try.underlying36 rfl rfl ti23 rfl rfl) ?_
              first | refine VD_still rfl rfl rfl rfl (S_load Try.underlying23 rfl rfl (Cell.trk (by repeat (first | exact Has.here | apply Has.there)) rfl)) ?_ | refine VD_still rfl rfl rfl rfl (S_load Try.underlying23 rfl rfl (Cell.known (by first | assumption | exact (by assumption : Sub _ _) _ _ (by assumption) | exact (Sub.trans (by assumption) (by assumption)) _ _ (by assumption)) rfl)) ?_
              refine VD_eff rfl rfl (E_call rfl rfl rfl Try.call21 (tdel_con b7 _ hh85 hT7 a.key hka.1 hka.2 (by omega)) (by repeat (first | exact Split.nil | exact Pick.here | apply Pick.there | apply Split.cons))) ?_
              rintro _ hh88 _ ⟨v88, nb88, ⟨rfl, b8, rfl, hT8⟩, hs88, rfl, rfl⟩
              rw [del_ins _ hgu] at hT8
              have hdl := delP_le (growP acts) a.key
              have hdu : Up 0 top (keysP (delP (growP acts) a.key)) := hgu.filter
              refine ⟨⟨(by first | exact Sub.refl _ | (first | assumption | (refine Sub.trans (by assumption) ?_; first | assumption | (refine Sub.trans (by assumption) ?_; first | assumption | (refine Sub.trans (by assumption) ?_; first | assumption | (refine Sub.trans (by assumption) ?_; first | assumption | (refine Sub.trans (by assumption) ?_; first | assumption | (refine Sub.trans (by assumption) ?_; first | assumption)))))))), (by repeat (first | exact SubB.nil | exact Pick.here | apply Pick.there | apply SubB.emp | apply SubB.cons))⟩, ?_⟩
              refine VD_eff rfl rfl (E_call rfl rfl rfl Try.call15 (range_k b8 _ 0 18446744073709551615 hh88 hT8 (by omega)) (by repeat (first | exact Split.nil | exact Pick.here | apply Pick.there | apply Split.cons))) ?_
              rintro _ hh89 _ ⟨v89, nb89, ⟨rfl, hR89⟩, hs89, rfl, rfl⟩
              rw [rangeP_all hdu] at hR89
              refine ⟨⟨(by first | exact Sub.refl _ | (first | assumption | (refine Sub.trans (by assumption) ?_; first | assumption | (refine Sub.trans (by assumption) ?_; first | assumption | (refine Sub.trans (by assumption) ?_; first | assumption | (refine Sub.trans (by assumption) ?_; first | assumption | (refine Sub.trans (by assumption) ?_; first | assumption | (refine Sub.trans (by assumption) ?_; first | assumption)))))))), (by repeat (first | exact SubB.nil | exact Pick.here | apply Pick.there | apply SubB.emp | apply SubB.cons))⟩, ?_⟩
              refine VD_still rfl rfl rfl rfl (S_move rfl) ?_
              refine VD_still rfl rfl rfl rfl (S_field (k := 1) Try.underlying36 rfl rfl ti23 rfl rfl) ?_
              first | refine VD_still rfl rfl rfl rfl (S_load Try.underlying23 rfl rfl (Cell.trk (by repeat (first | exact Has.here | apply Has.there)) rfl)) ?_ | refine VD_still rfl rfl rfl rfl (S_load Try.underlying23 rfl rfl (Cell.known (by first | assumption | exact (by assumption : Sub _ _) _ _ (by assumption) | exact (Sub.trans (by assumption) (by assumption)) _ _ (by assumption)) rfl)) ?_
              refine VD_eff rfl rfl (E_call rfl rfl rfl Try.call21 (tdel_con bt _ hh89 (hTZ.sub (hs85.trans (hs88.trans hs89))) a.key hka.1 hka.2 (by omega)) (by repeat (first | exact Split.nil | exact Pick.here | apply Pick.there | apply Split.cons))) ?_
              rintro _ hh93 _ ⟨v93, nb93, ⟨rfl, b9, rfl, hT9⟩, hs93, rfl, rfl⟩
              refine ⟨⟨(by first | exact Sub.refl _ | (first | assumption | (refine Sub.trans (by assumption) ?_; first | assumption | (refine Sub.trans (by assumption) ?_; first | assumption | (refine Sub.trans (by assumption) ?_; first | assumption | (refine Sub.trans (by assumption) ?_; first | assumption | (refine Sub.trans (by assumption) ?_; first | assumption | (refine Sub.trans (by assumption) ?_; first | assumption)))))))), (by repeat (first | exact SubB.nil | exact Pick.here | apply Pick.there | apply SubB.emp | apply SubB.cons))⟩, ?_⟩
              refine VD_eff rfl rfl (E_call rfl rfl rfl Try.call15 (range_k b9 _ 0 18446744073709551615 hh93 hT9 (by omega)) (by repeat (first | exact Split.nil | exact Pick.here | apply Pick.there | apply Split.cons))) ?_
              rintro _ hh94 _ ⟨v94, nb94, ⟨rfl, hR94⟩, hs94, rfl, rfl⟩
              rw [rangeP_all hdu] at hR94
              refine ⟨⟨(by first | exact Sub.refl _ | (first | assumption | (refine Sub.trans (by assumption) ?_; first | assumption | (refine Sub.trans (by assumption) ?_; first | assumption | (refine Sub.trans (by assumption) ?_; first | assumption | (refine Sub.trans (by assumption) ?_; first | assumption | (refine Sub.trans (by assumption) ?_; first | assumption | (refine Sub.trans (by assumption) ?_; first | assumption)))))))), (by repeat (first | exact SubB.nil | exact Pick.here | apply Pick.there | apply SubB.emp | apply SubB.cons))⟩, ?_⟩
              refine VD_eff rfl rfl (E_call rfl rfl rfl Try.call14 (same_con _ _ _ _ hh94 (hR89.sub (hs93.trans hs94)) hR94 (by omega) (by omega)) (by repeat (first | exact Split.nil | exact Pick.here | apply Pick.there | apply Split.cons))) ?_
              rintro _ hh95 _ ⟨v95, nb95, ⟨rfl, rfl, rfl⟩, hs95, rfl, rfl⟩
              rw [show decide (delP (growP acts) a.key = delP (growP acts) a.key) = true from decide_eq_true rfl]
              refine ⟨⟨(by first | exact Sub.refl _ | (first | assumption | (refine Sub.trans (by assumption) ?_; first | assumption | (refine Sub.trans (by assumption) ?_; first | assumption | (refine Sub.trans (by assumption) ?_; first | assumption | (refine Sub.trans (by assumption) ?_; first | assumption | (refine Sub.trans (by assumption) ?_; first | assumption | (refine Sub.trans (by assumption) ?_; first | assumption)))))))), (by repeat (first | exact SubB.nil | exact Pick.here | apply Pick.there | apply SubB.emp | apply SubB.cons))⟩, ?_⟩
              refine VD_still rfl rfl rfl rfl (S_assign rfl) ?_
              refine VD_nil ?_
              refine VQ_then ?_
              refine V_ret ?_
              refine VQ_fin1 (nb := []) (by first | exact .inl rfl | exact .inr rfl) rfl (RV_tmp rfl) ?sb ?po
              case po =>
                exact ⟨rfl, rfl⟩
              case sb => exact (by repeat (first | exact SubB.nil | exact Pick.here | apply Pick.there | apply SubB.emp | apply SubB.cons))

end Go.Proofs.Ytdglignjoojimaa
