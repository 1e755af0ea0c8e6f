/- What is put into a tree. No conditions. -/
import Derived.Test.YtdglignjoojimaaB6
set_option linter.unusedVariables false
set_option linter.unusedSimpArgs false
namespace Go.Proofs.Ytdglignjoojimaa

/-- What was handed back, part by part. -/
theorem PutO.form {h : Hp} {d : Nat} {r : Value} {q : Tr × Option (Int × Tr)} (p : PutO h d r q) : ∃ b1 s' o, r = .tuple #[ptr b1, .int .u64 s', .pointer o] ∧ Rp h d b1 q.1 ∧
    ((o = none ∧ q.2 = none) ∨ ∃ b2 m, o = some ⟨b2, 0, none⟩ ∧ q.2 = some (s', m) ∧ Rp h d b2 m) := by
  obtain ⟨t, o⟩ := q
  cases o with
  | none => obtain ⟨b, e, r⟩ := p; exact ⟨b, 0, none, e, r, .inl ⟨rfl, rfl⟩⟩
  | some x => obtain ⟨s, m⟩ := x; obtain ⟨b1, b2, e, r1, r2⟩ := p; exact ⟨b1, s, some ⟨b2, 0, none⟩, e, r1, .inr ⟨b2, m, rfl, rfl, r2⟩⟩
theorem keysP_ins (l : List Pr) (i : Nat) (p : Pr) : keysP (l.take i ++ p :: l.drop i) = (keysP l).take i ++ p.1 :: (keysP l).drop i := by simp [keysP, List.map_take, List.map_drop]
theorem vals_ins (l : List Pr) (i : Nat) (p : Pr) : (l.take i ++ p :: l.drop i).map (fun p => p.2) = (l.map (fun p => p.2)).take i ++ p.2 :: (l.map (fun p => p.2)).drop i := by simp [List.map_take, List.map_drop]
theorem keysP_same {l : List Pr} {i : Nat} {k : Int} {v : Ext} (h : (keysP l)[i]? = some k) : keysP (l.set i (k, v)) = keysP l := by
  apply List.ext_getElem?
  intro j
  unfold keysP at h ⊢
  rw [List.getElem?_map, List.getElem?_set, List.getElem?_map]
  rw [List.getElem?_map] at h
  split
  · rename_i e; subst e
    split
    · exact h.symm
    · rename_i hlt; rw [List.getElem?_eq_none (by omega)]
  · rfl
theorem vals_set (l : List Pr) (i : Nat) (k : Int) (v : Ext) : (l.set i (k, v)).map (fun p => p.2) = (l.map (fun p => p.2)).set i v := List.map_set
theorem SubB.any {bl : Bl} : SubB bl [] := .nil

set_option maxRecDepth 100000 in
theorem put_leaf (b : Nat) (l : List Pr) (lo hi k s n : Int) (h : Hp) (hN : NodeAt h b (keysP l) (l.map (fun p => p.2)) []) (hu : Up lo hi (keysP l)) (hn : l.length ≤ 900) : Con Try.prog 43 [ptr b, .int .u64 k, .agg #[.int .i64 s, .int .i64 n]] h [] (fun r h' nb => nb = [] ∧ PutO h' 0 r (putT 0 (.leaf l) k (s, n))) := by
  obtain ⟨kv, vv, cv, hb, hk, hv, hc⟩ := hN
  obtain ⟨A, cap, rfl, hle, hmx⟩ := hk.form
  obtain ⟨A2, cap2, rfl, hlev, hmxv⟩ := hv.form
  obtain ⟨A3, cap3, rfl, hlec, hmxc⟩ := hc.form
  have hkl := keysP_len l
  have hvl : (l.map (fun p => p.2)).length = l.length := List.length_map _
  have hil := lb_le (keysP l) k
  refine Con_of Try.func43 rfl Try.ntmps43 (Nat.le_of_ble_eq_true rfl) (fun w0 => ?_)
  refine V_seq ?_
  refine V_region ?_
  refine VL_eff rfl (E_box rfl rfl rfl) ?_
  rintro _ _ _ ⟨b5, hb5, rfl, rfl, rfl⟩
  refine VL_still rfl rfl rfl (S_assign rfl) ?_
  refine VL_still rfl rfl rfl (S_assign rfl) ?_
  refine VL_still rfl rfl rfl (S_assign rfl) ?_
  refine VL_nil ?_
  refine VQ_then ?_
  refine V_seq ?_
  refine V_region ?_
  refine VL_still rfl rfl rfl (S_move rfl) ?_
  refine VL_eff rfl (E_call rfl rfl rfl Try.call60 (clone_con b (keysP l) (l.map (fun p => p.2)) [] h ⟨_, _, _, hb, hk, hv, hc⟩ (by omega) (by rw [List.length_map]; omega) (by simp)) (by repeat (first | exact Split.nil | exact Pick.here | apply Pick.there | apply Split.cons))) ?_
  rintro _ hh17 _ ⟨v17, nb17, ⟨rfl, bo, kvo, vvo, cvo, Gk, Gv, Gc, rfl, hBk, hBv, hBc, rfl⟩, hs17, rfl, rfl⟩
  obtain ⟨Ak, ck, rfl, _, _⟩ := Buf.form hBk
  obtain ⟨Av, cvv, rfl, _, _⟩ := Buf.form hBv
  obtain ⟨Ac, cc, rfl, _, _⟩ := Buf.form hBc
  refine VL_still rfl rfl rfl (S_assign rfl) ?_
  refine VL_nil ?_
  refine VQ_then ?_
  refine V_seq ?_
  refine V_seq ?_
  refine V_region ?_
  refine VL_still rfl rfl rfl (S_move rfl) ?_
  refine VL_eff rfl (E_call rfl rfl rfl Try.call39 (leaf_con b _ _ _ h ⟨_, _, _, hb, hk, hv, hc⟩) (by repeat (first | exact Split.nil | exact Pick.here | apply Pick.there | apply Split.cons))) ?_
  rintro _ hh19 _ ⟨v19, nb19, ⟨rfl, rfl, rfl⟩, hs19, rfl, rfl⟩
  refine VL_nil ?_
  refine VQ_then ?_
  refine V_cond rfl (fun hc19 => ?_) (fun hc19 => ?_)
  · skip
    refine V_seq ?_
    refine V_region ?_
    refine VL_still rfl rfl rfl (S_move rfl) ?_
    refine VL_still rfl rfl rfl (S_nil rfl) ?_
    refine VL_still rfl rfl rfl (S_field (k := 0) Try.underlying92 rfl rfl ti88 rfl rfl) ?_
    first | refine VL_still rfl rfl rfl (S_load Try.underlying88 rfl rfl (Cell.trk (by repeat (first | exact Has.here | apply Has.there)) rfl)) ?_ | refine VL_still rfl rfl rfl (S_load Try.underlying88 rfl rfl (Cell.known (by first | assumption | exact (by assumption : Sub _ _) _ _ (by assumption) | exact (Sub.trans (by assumption) (by assumption)) _ _ (by assumption)) rfl)) ?_
    refine VL_still rfl rfl rfl (S_move rfl) ?_
    refine VL_eff rfl (E_call rfl rfl rfl Try.call41 (bs_con _ (keysP l) k lo hi h hk hu (by omega)) (by repeat (first | exact Split.nil | exact Pick.here | apply Pick.there | apply Split.cons))) ?_
    rintro _ hh26 _ ⟨v26, nb26, ⟨rfl, rfl, rfl⟩, hs26, rfl, rfl⟩
    refine VL_still rfl rfl rfl (S_move rfl) ?_
    refine VL_still rfl rfl rfl (S_extract rfl rfl) ?_
    refine VL_still rfl rfl rfl (S_extract rfl rfl) ?_
    refine VL_still rfl rfl rfl (S_assign rfl) ?_
    refine VL_still rfl rfl rfl (S_assign rfl) ?_
    refine VL_nil ?_
    refine VQ_then ?_
    refine V_seq ?_
    refine V_seq ?_
    refine V_region ?_
    refine VL_still rfl rfl rfl (S_move rfl) ?_
    refine VL_nil ?_
    refine VQ_then ?_
    refine V_cond rfl (fun hc29 => ?_) (fun hc29 => ?_)
    · skip
      have hf : (keysP l)[lb (keysP l) k]? = some k := of_decide_eq_true hc29
      have hlt : lb (keysP l) k < (l.map (fun p => p.2)).length := by
        have := (List.getElem?_eq_some_iff.1 hf).1
        omega
      obtain ⟨bv, capv, spv, ev, rfl, l1, l2, hl1, hl2⟩ := Buf.blk hBv (by omega)
      cases ev
      refine V_seq ?_
      refine V_drawL _ [GN bo (.slice Ak (keysP l).length ck) (.slice (some ⟨bv, 0, none⟩) (l.map (fun p => p.2)).length cvv) (.slice Ac ([] : List Nat).length cc), [(b5, .cells (List.toArray [.int .i64 s, .int .i64 n]) 34 (0, 0))]] 128 Try.mixed (by kernel_rfl) (by kernel_rfl) (Sub.refl _) (by repeat (first | exact SubB.nil | exact Pick.here | apply Pick.there | apply SubB.emp | apply SubB.cons)) ?_
      refine VD_still rfl rfl rfl rfl (S_move rfl) ?_
      refine VD_still rfl rfl rfl rfl (S_nil rfl) ?_
      refine VD_still rfl rfl rfl rfl (S_field (k := 1) Try.underlying92 rfl rfl ti89 rfl rfl) ?_
      first | refine VD_still rfl rfl rfl rfl (S_load Try.underlying89 rfl rfl (Cell.trk (by repeat (first | exact Has.here | apply Has.there)) rfl)) ?_ | refine VD_still rfl rfl rfl rfl (S_load Try.underlying89 rfl rfl (Cell.known (by first | assumption | exact (by assumption : Sub _ _) _ _ (by assumption) | exact (Sub.trans (by assumption) (by assumption)) _ _ (by assumption)) rfl)) ?_
      refine VD_still rfl rfl rfl rfl (S_move rfl) ?_
      first | refine VD_still rfl rfl rfl rfl (S_loads Try.underlying34 rfl ti34 rfl rfl (Cells.known (by first | assumption | exact (by assumption : Sub _ _) _ _ (by assumption) | exact (Sub.trans (by assumption) (by assumption)) _ _ (by assumption)))) ?_ | refine VD_still rfl rfl rfl rfl (S_loads Try.underlying34 rfl ti34 rfl rfl (Cells.all (by repeat (first | exact Has.here | apply Has.there)))) ?_ | refine VD_still rfl rfl rfl rfl (S_loads Try.underlying34 rfl ti34 rfl rfl (Cells.trk (by repeat (first | exact Has.here | apply Has.there)) (by repeat (first | exact TakeR.here (by repeat (first | exact HeadR.nil | apply HeadR.cons)) | apply TakeR.there)))) ?_
      refine VD_still rfl rfl rfl rfl (X_at (lb (keysP l) k) Try.underlying89 tx34 rfl rfl hlt) ?_
      refine VD_last rfl rfl (E_store ti34 rfl rfl rfl rfl rfl (by repeat (first | exact Has.here | apply Has.there)) (PutR.encd xcE hlt (s, n) spv) (by repeat (first | exact UpdG.here | apply UpdG.there))) ?_
      rintro _ _ _ ⟨rfl, rfl, rfl⟩
      refine VQ_then ?_
      refine V_seq ?_
      refine V_region ?_
      refine VL_still rfl rfl rfl (S_move rfl) ?_
      refine VL_still rfl rfl rfl (S_assign rfl) ?_
      refine VL_still rfl rfl rfl (S_assign rfl) ?_
      refine VL_still rfl rfl rfl (S_assign rfl) ?_
      refine VL_nil ?_
      refine VQ_then ?_
      refine V_ret ?_
      refine VQ_then_ret ?_
      refine VQ_then_ret ?_
      refine VQ_keeps (blA := [GN bo (.slice Ak (keysP l).length ck) (.slice (some ⟨bv, 0, none⟩) (l.map (fun p => p.2)).length cvv) (.slice Ac ([] : List Nat).length cc), Gk, [(bv, .cells (List.toArray (((l.map (fun p => p.2)).set (lb (keysP l) k) (s, n)).flatMap xc ++ spv)) 34 (0, 0))], Gc]) (by repeat (first | exact Split.nil | exact Pick.here | apply Pick.there | apply Split.cons)) (fun h1 sh1 kh1 => ?_)
      obtain ⟨q1, q2, q3, q4, _⟩ := kh1
      refine VQ_fin3 (nb := []) (by first | exact .inl rfl | exact .inr rfl) rfl (RV_tmp rfl) (RV_tmp rfl) (RV_tmp rfl) ?sb ?po
      case po =>
        refine ⟨rfl, ?_⟩
        rw [putT_0, if_pos hf]
        refine ⟨bo, rfl, ?_⟩
        show NodeAt h1 bo (keysP (l.set (lb (keysP l) k) (k, (s, n)))) ((l.set (lb (keysP l) k) (k, (s, n))).map (fun p => p.2)) []
        rw [keysP_same hf, vals_set]
        exact NodeAt.own q1 q2 q3 q4 hBk (Buf.set xcE _ (s, n) rfl l1 l2 hl2) hBc
      case sb => exact (by repeat (first | exact SubB.nil | exact Pick.here | apply Pick.there | apply SubB.emp | apply SubB.cons))
    · skip
      have hf : (keysP l)[lb (keysP l) k]? ≠ some k := of_decide_eq_false hc29
      refine V_skip ?_
      refine VQ_then ?_
      refine V_seq ?_
      refine V_drawX _ [GN bo (.slice Ak (keysP l).length ck) (.slice Av (l.map (fun p => p.2)).length cvv) (.slice Ac ([] : List Nat).length cc), [(b5, .cells (List.toArray [.int .i64 s, .int .i64 n]) 34 (0, 0))]] 9634560 40992 66304 6 Try.mixed (by kernel_rfl) (Sub.refl _) (by repeat (first | exact SubB.nil | exact Pick.here | apply Pick.there | apply SubB.emp | apply SubB.cons)) [0, 1, 2, 3, 4, 5, 6, 7, 8, 9, 10, 11, 12, 13, 14, 15, 16, 17, 18, 19, 20, 21, 22, 23] rfl ?_
      refine VB_pick2 (j1 := 8) (p1 := [7, 8]) (r1 := [0, 1, 2, 3, 4, 5, 6, 9, 10, 11, 12, 13, 14, 15, 16, 17, 18, 19, 20, 21, 22, 23]) (j2 := 16) (p2 := [15, 16]) (r2 := [0, 1, 2, 3, 4, 5, 6, 7, 8, 9, 10, 11, 12, 13, 14, 17, 18, 19, 20, 21, 22, 23]) rfl (by kernel_rfl) (by kernel_rfl) (by kernel_rfl) (by kernel_rfl) (by kernel_rfl) ?_ ?_
      · skip
        refine VX_pure rfl rfl rfl rfl rfl rfl (S_move rfl) ?_
        refine VX_eff rfl rfl rfl rfl rfl (E_bs1 rfl Try.underlying88 ti23 rfl rfl rfl rfl rfl rfl) ?_
        rintro _ _ _ ⟨b46, hb46, rfl, rfl, rfl⟩
        refine ⟨⟨(by first | exact Sub.refl _ | assumption | exact Sub.trans (by assumption) (by assumption)), (by repeat (first | exact SubB.nil | exact Pick.here | apply Pick.there | apply SubB.emp | apply SubB.cons))⟩, ?_⟩
        refine VX_more ?_
        refine VB_pick2 (j1 := 9) (p1 := [2, 3, 4, 5, 6, 9]) (r1 := [0, 1, 10, 11, 12, 13, 14, 15, 16, 17, 18, 19, 20, 21, 22, 23]) (j2 := 16) (p2 := [15, 16]) (r2 := [0, 1, 2, 3, 4, 5, 6, 9, 10, 11, 12, 13, 14, 17, 18, 19, 20, 21, 22, 23]) rfl (by kernel_rfl) (by kernel_rfl) (by kernel_rfl) (by kernel_rfl) (by kernel_rfl) ?_ ?_
        · skip
          refine VX_pure rfl rfl rfl rfl rfl rfl (S_move rfl) ?_
          refine VX_pure rfl rfl rfl rfl rfl rfl (S_nil rfl) ?_
          refine VX_pure rfl rfl rfl rfl rfl rfl (S_field (k := 0) Try.underlying92 rfl rfl ti88 rfl rfl) ?_
          first | refine VX_still rfl rfl rfl rfl rfl rfl (S_load Try.underlying88 rfl rfl (Cell.trk (by repeat (first | exact Has.here | apply Has.there)) rfl)) ?_ | refine VX_still rfl rfl rfl rfl rfl rfl (S_load Try.underlying88 rfl rfl (Cell.known (by first | assumption | exact (by assumption : Sub _ _) _ _ (by assumption) | exact (Sub.trans (by assumption) (by assumption)) _ _ (by assumption)) rfl)) ?_
          refine VX_pure rfl rfl rfl rfl rfl rfl (S_move rfl) ?_
          refine VX_eff rfl rfl rfl rfl rfl (E_call rfl rfl rfl Try.call61 (k_insert _ (keysP l).length (lb (keysP l) k) b46 (kcs (keysP l)) [.int .u64 k] h Gk hBk (kcE.flat_one _) rfl rfl hil (by omega)) (by repeat (first | exact Split.nil | exact Pick.here | apply Pick.there | apply Split.cons))) ?_
          rintro _ hh47 _ ⟨v47, nb47, ⟨rfl, G47, hB47, rfl⟩, hs47, rfl, rfl⟩
          replace hB47 := hB47.ins kcE (a := k) hil
          obtain ⟨A47, c47, rfl, _, _⟩ := Buf.form hB47
          refine ⟨⟨(by first | exact Sub.refl _ | assumption | exact Sub.trans (by assumption) (by assumption)), (by repeat (first | exact SubB.nil | exact Pick.here | apply Pick.there | apply SubB.emp | apply SubB.cons))⟩, ?_⟩
          refine VX_more ?_
          refine VB_pick1 (j := 16) (p := [15, 16]) (r := [0, 1, 10, 11, 12, 13, 14, 17, 18, 19, 20, 21, 22, 23]) rfl (by kernel_rfl) (by kernel_rfl) (by kernel_rfl) ?_
          first | refine VX_still rfl rfl rfl rfl rfl rfl (S_loads Try.underlying34 rfl ti34 rfl rfl (Cells.known (by first | assumption | exact (by assumption : Sub _ _) _ _ (by assumption) | exact (Sub.trans (by assumption) (by assumption)) _ _ (by assumption)))) ?_ | refine VX_still rfl rfl rfl rfl rfl rfl (S_loads Try.underlying34 rfl ti34 rfl rfl (Cells.all (by repeat (first | exact Has.here | apply Has.there)))) ?_ | refine VX_still rfl rfl rfl rfl rfl rfl (S_loads Try.underlying34 rfl ti34 rfl rfl (Cells.trk (by repeat (first | exact Has.here | apply Has.there)) (by repeat (first | exact TakeR.here (by repeat (first | exact HeadR.nil | apply HeadR.cons)) | apply TakeR.there)))) ?_
          refine VX_eff rfl rfl rfl rfl rfl (E_bs1 rfl Try.underlying89 ti34 rfl rfl rfl rfl rfl rfl) ?_
          rintro _ _ _ ⟨b54, hb54, rfl, rfl, rfl⟩
          refine ⟨⟨(by first | exact Sub.refl _ | assumption | exact Sub.trans (by assumption) (by assumption)), (by repeat (first | exact SubB.nil | exact Pick.here | apply Pick.there | apply SubB.emp | apply SubB.cons))⟩, ?_⟩
          refine VX_more ?_
          refine VB_pick1 (j := 17) (p := [10, 11, 12, 13, 14, 17]) (r := [0, 1, 18, 19, 20, 21, 22, 23]) rfl (by kernel_rfl) (by kernel_rfl) (by kernel_rfl) ?_
          refine VX_pure rfl rfl rfl rfl rfl rfl (S_move rfl) ?_
          refine VX_pure rfl rfl rfl rfl rfl rfl (S_nil rfl) ?_
          refine VX_pure rfl rfl rfl rfl rfl rfl (S_field (k := 1) Try.underlying92 rfl rfl ti89 rfl rfl) ?_
          first | refine VX_still rfl rfl rfl rfl rfl rfl (S_load Try.underlying89 rfl rfl (Cell.trk (by repeat (first | exact Has.here | apply Has.there)) rfl)) ?_ | refine VX_still rfl rfl rfl rfl rfl rfl (S_load Try.underlying89 rfl rfl (Cell.known (by first | assumption | exact (by assumption : Sub _ _) _ _ (by assumption) | exact (Sub.trans (by assumption) (by assumption)) _ _ (by assumption)) rfl)) ?_
          refine VX_pure rfl rfl rfl rfl rfl rfl (S_move rfl) ?_
          refine VX_effT rfl rfl rfl rfl rfl (E_call rfl rfl rfl Try.call62 (x_insert _ (l.map (fun p => p.2)).length (lb (keysP l) k) b54 (xcs (l.map (fun p => p.2))) [.int .i64 s, .int .i64 n] h Gv hBv (xcE.flat_one _) rfl rfl (by omega) (by omega)) (by repeat (first | exact Split.nil | exact Pick.here | apply Pick.there | apply Split.cons))) ?_
          rintro _ hh55 _ ⟨v55, nb55, ⟨rfl, G55, hB55, rfl⟩, hs55, rfl, rfl⟩
          replace hB55 := hB55.ins xcE (a := (s, n)) (by omega)
          obtain ⟨A55, c55, rfl, _, _⟩ := Buf.form hB55
          refine VX_more ?_
          refine VB_pick1 (j := 20) (p := [0, 18, 19, 20]) (r := [1, 21, 22, 23]) rfl (by kernel_rfl) (by kernel_rfl) (by kernel_rfl) ?_
          refine VX_pure rfl rfl rfl rfl rfl rfl (S_move rfl) ?_
          refine VX_pure rfl rfl rfl rfl rfl rfl (S_nil rfl) ?_
          refine VX_pure rfl rfl rfl rfl rfl rfl (S_field (k := 0) Try.underlying92 rfl rfl ti88 rfl rfl) ?_
          refine VX_effT rfl rfl rfl rfl rfl (E_store ti88 rfl rfl rfl rfl rfl (by repeat (first | exact Has.here | apply Has.there)) (by repeat (first | exact PutR.nil | exact SetL.here | apply SetL.there | apply PutR.cons)) (by repeat (first | exact UpdG.here | apply UpdG.there))) ?_
          rintro _ _ _ ⟨rfl, rfl, rfl⟩
          refine VX_more ?_
          refine VB_pick1 (j := 23) (p := [1, 21, 22, 23]) (r := []) rfl (by kernel_rfl) (by kernel_rfl) (by kernel_rfl) ?_
          refine VX_pure rfl rfl rfl rfl rfl rfl (S_move rfl) ?_
          refine VX_pure rfl rfl rfl rfl rfl rfl (S_nil rfl) ?_
          refine VX_pure rfl rfl rfl rfl rfl rfl (S_field (k := 1) Try.underlying92 rfl rfl ti89 rfl rfl) ?_
          refine VX_effT rfl rfl rfl rfl rfl (E_store ti89 rfl rfl rfl rfl rfl (by repeat (first | exact Has.here | apply Has.there)) (by repeat (first | exact PutR.nil | exact SetL.here | apply SetL.there | apply PutR.cons)) (by repeat (first | exact UpdG.here | apply UpdG.there))) ?_
          rintro _ _ _ ⟨rfl, rfl, rfl⟩
          refine VX_more ?_
          refine VB_end rfl ?_
          refine VX_nil ?_
          refine VQ_then ?_
          refine V_seq ?_
          refine V_region ?_
          refine VL_still rfl rfl rfl (S_move rfl) ?_
          refine VL_keeps (blA := [GN bo (.slice A47 ((keysP l).take (lb (keysP l) k) ++ k :: (keysP l).drop (lb (keysP l) k)).length c47) (.slice A55 ((l.map (fun p => p.2)).take (lb (keysP l) k) ++ (s, n) :: (l.map (fun p => p.2)).drop (lb (keysP l) k)).length c55) (.slice Ac ([] : List Nat).length cc), G47, G55, Gc]) (by repeat (first | exact Split.nil | exact Pick.here | apply Pick.there | apply Split.cons)) (fun h1 sh1 kh1 => ?_)
          obtain ⟨q1, q2, q3, q4, _⟩ := kh1
          have hR : Rp h1 0 bo (.leaf (l.take (lb (keysP l) k) ++ (k, (s, n)) :: l.drop (lb (keysP l) k))) := by
            show NodeAt _ _ (keysP _) (List.map _ _) []
            rw [keysP_ins, vals_ins]
            exact NodeAt.own q1 q2 q3 q4 hB47 hB55 hBc
          refine VL_eff rfl (E_call rfl rfl rfl Try.call63 (splitT_con 0 bo _ h1 hR (by show (keysP _).length ≤ 1000; rw [keysP_len]; simp; omega) (fun d' ks ts e => by cases e)) (by repeat (first | exact Split.nil | exact Pick.here | apply Pick.there | apply Split.cons))) ?_
          rintro _ hh61 _ ⟨v61, nb61, ⟨rfl, hP⟩, hs61, rfl, rfl⟩
          replace hP := hP hs61
          obtain ⟨b1, s', o', rfl, _⟩ := hP.form
          refine VL_still rfl rfl rfl (S_extract rfl rfl) ?_
          refine VL_still rfl rfl rfl (S_extract rfl rfl) ?_
          refine VL_still rfl rfl rfl (S_extract rfl rfl) ?_
          refine VL_still rfl rfl rfl (S_assign rfl) ?_
          refine VL_still rfl rfl rfl (S_assign rfl) ?_
          refine VL_still rfl rfl rfl (S_assign rfl) ?_
          refine VL_nil ?_
          refine VQ_then ?_
          refine V_ret ?_
          refine VQ_then_ret ?_
          refine VQ_fin3 (nb := []) (by first | exact .inl rfl | exact .inr rfl) rfl (RV_tmp rfl) (RV_tmp rfl) (RV_tmp rfl) ?sb ?po
          case po =>
            refine ⟨rfl, ?_⟩
            rw [putT_0, if_neg hf]
            exact hP
          case sb => exact (by repeat (first | exact SubB.nil | exact Pick.here | apply Pick.there | apply SubB.emp | apply SubB.cons))
        · skip
          first | refine VX_still rfl rfl rfl rfl rfl rfl (S_loads Try.underlying34 rfl ti34 rfl rfl (Cells.known (by first | assumption | exact (by assumption : Sub _ _) _ _ (by assumption) | exact (Sub.trans (by assumption) (by assumption)) _ _ (by assumption)))) ?_ | refine VX_still rfl rfl rfl rfl rfl rfl (S_loads Try.underlying34 rfl ti34 rfl rfl (Cells.all (by repeat (first | exact Has.here | apply Has.there)))) ?_ | refine VX_still rfl rfl rfl rfl rfl rfl (S_loads Try.underlying34 rfl ti34 rfl rfl (Cells.trk (by repeat (first | exact Has.here | apply Has.there)) (by repeat (first | exact TakeR.here (by repeat (first | exact HeadR.nil | apply HeadR.cons)) | apply TakeR.there)))) ?_
          refine VX_eff rfl rfl rfl rfl rfl (E_bs1 rfl Try.underlying89 ti34 rfl rfl rfl rfl rfl rfl) ?_
          rintro _ _ _ ⟨b54, hb54, rfl, rfl, rfl⟩
          refine ⟨⟨(by first | exact Sub.refl _ | assumption | exact Sub.trans (by assumption) (by assumption)), (by repeat (first | exact SubB.nil | exact Pick.here | apply Pick.there | apply SubB.emp | apply SubB.cons))⟩, ?_⟩
          refine VX_more ?_
          refine VB_pick1 (j := 9) (p := [2, 3, 4, 5, 6, 9]) (r := [0, 1, 10, 11, 12, 13, 14, 17, 18, 19, 20, 21, 22, 23]) rfl (by kernel_rfl) (by kernel_rfl) (by kernel_rfl) ?_
          refine VX_pure rfl rfl rfl rfl rfl rfl (S_move rfl) ?_
          refine VX_pure rfl rfl rfl rfl rfl rfl (S_nil rfl) ?_
          refine VX_pure rfl rfl rfl rfl rfl rfl (S_field (k := 0) Try.underlying92 rfl rfl ti88 rfl rfl) ?_
          first | refine VX_still rfl rfl rfl rfl rfl rfl (S_load Try.underlying88 rfl rfl (Cell.trk (by repeat (first | exact Has.here | apply Has.there)) rfl)) ?_ | refine VX_still rfl rfl rfl rfl rfl rfl (S_load Try.underlying88 rfl rfl (Cell.known (by first | assumption | exact (by assumption : Sub _ _) _ _ (by assumption) | exact (Sub.trans (by assumption) (by assumption)) _ _ (by assumption)) rfl)) ?_
          refine VX_pure rfl rfl rfl rfl rfl rfl (S_move rfl) ?_
          refine VX_eff rfl rfl rfl rfl rfl (E_call rfl rfl rfl Try.call61 (k_insert _ (keysP l).length (lb (keysP l) k) b46 (kcs (keysP l)) [.int .u64 k] h Gk hBk (kcE.flat_one _) rfl rfl hil (by omega)) (by repeat (first | exact Split.nil | exact Pick.here | apply Pick.there | apply Split.cons))) ?_
          rintro _ hh47 _ ⟨v47, nb47, ⟨rfl, G47, hB47, rfl⟩, hs47, rfl, rfl⟩
          replace hB47 := hB47.ins kcE (a := k) hil
          obtain ⟨A47, c47, rfl, _, _⟩ := Buf.form hB47
          refine ⟨⟨(by first | exact Sub.refl _ | assumption | exact Sub.trans (by assumption) (by assumption)), (by repeat (first | exact SubB.nil | exact Pick.here | apply Pick.there | apply SubB.emp | apply SubB.cons))⟩, ?_⟩
          refine VX_more ?_
          refine VB_pick1 (j := 17) (p := [10, 11, 12, 13, 14, 17]) (r := [0, 1, 18, 19, 20, 21, 22, 23]) rfl (by kernel_rfl) (by kernel_rfl) (by kernel_rfl) ?_
          refine VX_pure rfl rfl rfl rfl rfl rfl (S_move rfl) ?_
          refine VX_pure rfl rfl rfl rfl rfl rfl (S_nil rfl) ?_
          refine VX_pure rfl rfl rfl rfl rfl rfl (S_field (k := 1) Try.underlying92 rfl rfl ti89 rfl rfl) ?_
          first | refine VX_still rfl rfl rfl rfl rfl rfl (S_load Try.underlying89 rfl rfl (Cell.trk (by repeat (first | exact Has.here | apply Has.there)) rfl)) ?_ | refine VX_still rfl rfl rfl rfl rfl rfl (S_load Try.underlying89 rfl rfl (Cell.known (by first | assumption | exact (by assumption : Sub _ _) _ _ (by assumption) | exact (Sub.trans (by assumption) (by assumption)) _ _ (by assumption)) rfl)) ?_
          refine VX_pure rfl rfl rfl rfl rfl rfl (S_move rfl) ?_
          refine VX_effT rfl rfl rfl rfl rfl (E_call rfl rfl rfl Try.call62 (x_insert _ (l.map (fun p => p.2)).length (lb (keysP l) k) b54 (xcs (l.map (fun p => p.2))) [.int .i64 s, .int .i64 n] h Gv hBv (xcE.flat_one _) rfl rfl (by omega) (by omega)) (by repeat (first | exact Split.nil | exact Pick.here | apply Pick.there | apply Split.cons))) ?_
          rintro _ hh55 _ ⟨v55, nb55, ⟨rfl, G55, hB55, rfl⟩, hs55, rfl, rfl⟩
          replace hB55 := hB55.ins xcE (a := (s, n)) (by omega)
          obtain ⟨A55, c55, rfl, _, _⟩ := Buf.form hB55
          refine VX_more ?_
          refine VB_pick1 (j := 20) (p := [0, 18, 19, 20]) (r := [1, 21, 22, 23]) rfl (by kernel_rfl) (by kernel_rfl) (by kernel_rfl) ?_
          refine VX_pure rfl rfl rfl rfl rfl rfl (S_move rfl) ?_
          refine VX_pure rfl rfl rfl rfl rfl rfl (S_nil rfl) ?_
          refine VX_pure rfl rfl rfl rfl rfl rfl (S_field (k := 0) Try.underlying92 rfl rfl ti88 rfl rfl) ?_
          refine VX_effT rfl rfl rfl rfl rfl (E_store ti88 rfl rfl rfl rfl rfl (by repeat (first | exact Has.here | apply Has.there)) (by repeat (first | exact PutR.nil | exact SetL.here | apply SetL.there | apply PutR.cons)) (by repeat (first | exact UpdG.here | apply UpdG.there))) ?_
          rintro _ _ _ ⟨rfl, rfl, rfl⟩
          refine VX_more ?_
          refine VB_pick1 (j := 23) (p := [1, 21, 22, 23]) (r := []) rfl (by kernel_rfl) (by kernel_rfl) (by kernel_rfl) ?_
          refine VX_pure rfl rfl rfl rfl rfl rfl (S_move rfl) ?_
          refine VX_pure rfl rfl rfl rfl rfl rfl (S_nil rfl) ?_
          refine VX_pure rfl rfl rfl rfl rfl rfl (S_field (k := 1) Try.underlying92 rfl rfl ti89 rfl rfl) ?_
          refine VX_effT rfl rfl rfl rfl rfl (E_store ti89 rfl rfl rfl rfl rfl (by repeat (first | exact Has.here | apply Has.there)) (by repeat (first | exact PutR.nil | exact SetL.here | apply SetL.there | apply PutR.cons)) (by repeat (first | exact UpdG.here | apply UpdG.there))) ?_
          rintro _ _ _ ⟨rfl, rfl, rfl⟩
          refine VX_more ?_
          refine VB_end rfl ?_
          refine VX_nil ?_
          refine VQ_then ?_
          refine V_seq ?_
          refine V_region ?_
          refine VL_still rfl rfl rfl (S_move rfl) ?_
          refine VL_keeps (blA := [GN bo (.slice A47 ((keysP l).take (lb (keysP l) k) ++ k :: (keysP l).drop (lb (keysP l) k)).length c47) (.slice A55 ((l.map (fun p => p.2)).take (lb (keysP l) k) ++ (s, n) :: (l.map (fun p => p.2)).drop (lb (keysP l) k)).length c55) (.slice Ac ([] : List Nat).length cc), G47, G55, Gc]) (by repeat (first | exact Split.nil | exact Pick.here | apply Pick.there | apply Split.cons)) (fun h1 sh1 kh1 => ?_)
          obtain ⟨q1, q2, q3, q4, _⟩ := kh1
          have hR : Rp h1 0 bo (.leaf (l.take (lb (keysP l) k) ++ (k, (s, n)) :: l.drop (lb (keysP l) k))) := by
            show NodeAt _ _ (keysP _) (List.map _ _) []
            rw [keysP_ins, vals_ins]
            exact NodeAt.own q1 q2 q3 q4 hB47 hB55 hBc
          refine VL_eff rfl (E_call rfl rfl rfl Try.call63 (splitT_con 0 bo _ h1 hR (by show (keysP _).length ≤ 1000; rw [keysP_len]; simp; omega) (fun d' ks ts e => by cases e)) (by repeat (first | exact Split.nil | exact Pick.here | apply Pick.there | apply Split.cons))) ?_
          rintro _ hh61 _ ⟨v61, nb61, ⟨rfl, hP⟩, hs61, rfl, rfl⟩
          replace hP := hP hs61
          obtain ⟨b1, s', o', rfl, _⟩ := hP.form
          refine VL_still rfl rfl rfl (S_extract rfl rfl) ?_
          refine VL_still rfl rfl rfl (S_extract rfl rfl) ?_
          refine VL_still rfl rfl rfl (S_extract rfl rfl) ?_
          refine VL_still rfl rfl rfl (S_assign rfl) ?_
          refine VL_still rfl rfl rfl (S_assign rfl) ?_
          refine VL_still rfl rfl rfl (S_assign rfl) ?_
          refine VL_nil ?_
          refine VQ_then ?_
          refine V_ret ?_
          refine VQ_then_ret ?_
          refine VQ_fin3 (nb := []) (by first | exact .inl rfl | exact .inr rfl) rfl (RV_tmp rfl) (RV_tmp rfl) (RV_tmp rfl) ?sb ?po
          case po =>
            refine ⟨rfl, ?_⟩
            rw [putT_0, if_neg hf]
            exact hP
          case sb => exact (by repeat (first | exact SubB.nil | exact Pick.here | apply Pick.there | apply SubB.emp | apply SubB.cons))
      · skip
        first | refine VX_still rfl rfl rfl rfl rfl rfl (S_loads Try.underlying34 rfl ti34 rfl rfl (Cells.known (by first | assumption | exact (by assumption : Sub _ _) _ _ (by assumption) | exact (Sub.trans (by assumption) (by assumption)) _ _ (by assumption)))) ?_ | refine VX_still rfl rfl rfl rfl rfl rfl (S_loads Try.underlying34 rfl ti34 rfl rfl (Cells.all (by repeat (first | exact Has.here | apply Has.there)))) ?_ | refine VX_still rfl rfl rfl rfl rfl rfl (S_loads Try.underlying34 rfl ti34 rfl rfl (Cells.trk (by repeat (first | exact Has.here | apply Has.there)) (by repeat (first | exact TakeR.here (by repeat (first | exact HeadR.nil | apply HeadR.cons)) | apply TakeR.there)))) ?_
        refine VX_eff rfl rfl rfl rfl rfl (E_bs1 rfl Try.underlying89 ti34 rfl rfl rfl rfl rfl rfl) ?_
        rintro _ _ _ ⟨b54, hb54, rfl, rfl, rfl⟩
        refine ⟨⟨(by first | exact Sub.refl _ | assumption | exact Sub.trans (by assumption) (by assumption)), (by repeat (first | exact SubB.nil | exact Pick.here | apply Pick.there | apply SubB.emp | apply SubB.cons))⟩, ?_⟩
        refine VX_more ?_
        refine VB_pick1 (j := 8) (p := [7, 8]) (r := [0, 1, 2, 3, 4, 5, 6, 9, 10, 11, 12, 13, 14, 17, 18, 19, 20, 21, 22, 23]) rfl (by kernel_rfl) (by kernel_rfl) (by kernel_rfl) ?_
        refine VX_pure rfl rfl rfl rfl rfl rfl (S_move rfl) ?_
        refine VX_eff rfl rfl rfl rfl rfl (E_bs1 rfl Try.underlying88 ti23 rfl rfl rfl rfl rfl rfl) ?_
        rintro _ _ _ ⟨b46, hb46, rfl, rfl, rfl⟩
        refine ⟨⟨(by first | exact Sub.refl _ | assumption | exact Sub.trans (by assumption) (by assumption)), (by repeat (first | exact SubB.nil | exact Pick.here | apply Pick.there | apply SubB.emp | apply SubB.cons))⟩, ?_⟩
        refine VX_more ?_
        refine VB_pick1 (j := 9) (p := [2, 3, 4, 5, 6, 9]) (r := [0, 1, 10, 11, 12, 13, 14, 17, 18, 19, 20, 21, 22, 23]) rfl (by kernel_rfl) (by kernel_rfl) (by kernel_rfl) ?_
        refine VX_pure rfl rfl rfl rfl rfl rfl (S_move rfl) ?_
        refine VX_pure rfl rfl rfl rfl rfl rfl (S_nil rfl) ?_
        refine VX_pure rfl rfl rfl rfl rfl rfl (S_field (k := 0) Try.underlying92 rfl rfl ti88 rfl rfl) ?_
        first | refine VX_still rfl rfl rfl rfl rfl rfl (S_load Try.underlying88 rfl rfl (Cell.trk (by repeat (first | exact Has.here | apply Has.there)) rfl)) ?_ | refine VX_still rfl rfl rfl rfl rfl rfl (S_load Try.underlying88 rfl rfl (Cell.known (by first | assumption | exact (by assumption : Sub _ _) _ _ (by assumption) | exact (Sub.trans (by assumption) (by assumption)) _ _ (by assumption)) rfl)) ?_
        refine VX_pure rfl rfl rfl rfl rfl rfl (S_move rfl) ?_
        refine VX_eff rfl rfl rfl rfl rfl (E_call rfl rfl rfl Try.call61 (k_insert _ (keysP l).length (lb (keysP l) k) b46 (kcs (keysP l)) [.int .u64 k] h Gk hBk (kcE.flat_one _) rfl rfl hil (by omega)) (by repeat (first | exact Split.nil | exact Pick.here | apply Pick.there | apply Split.cons))) ?_
        rintro _ hh47 _ ⟨v47, nb47, ⟨rfl, G47, hB47, rfl⟩, hs47, rfl, rfl⟩
        replace hB47 := hB47.ins kcE (a := k) hil
        obtain ⟨A47, c47, rfl, _, _⟩ := Buf.form hB47
        refine ⟨⟨(by first | exact Sub.refl _ | assumption | exact Sub.trans (by assumption) (by assumption)), (by repeat (first | exact SubB.nil | exact Pick.here | apply Pick.there | apply SubB.emp | apply SubB.cons))⟩, ?_⟩
        refine VX_more ?_
        refine VB_pick1 (j := 17) (p := [10, 11, 12, 13, 14, 17]) (r := [0, 1, 18, 19, 20, 21, 22, 23]) rfl (by kernel_rfl) (by kernel_rfl) (by kernel_rfl) ?_
        refine VX_pure rfl rfl rfl rfl rfl rfl (S_move rfl) ?_
        refine VX_pure rfl rfl rfl rfl rfl rfl (S_nil rfl) ?_
        refine VX_pure rfl rfl rfl rfl rfl rfl (S_field (k := 1) Try.underlying92 rfl rfl ti89 rfl rfl) ?_
        first | refine VX_still rfl rfl rfl rfl rfl rfl (S_load Try.underlying89 rfl rfl (Cell.trk (by repeat (first | exact Has.here | apply Has.there)) rfl)) ?_ | refine VX_still rfl rfl rfl rfl rfl rfl (S_load Try.underlying89 rfl rfl (Cell.known (by first | assumption | exact (by assumption : Sub _ _) _ _ (by assumption) | exact (Sub.trans (by assumption) (by assumption)) _ _ (by assumption)) rfl)) ?_
        refine VX_pure rfl rfl rfl rfl rfl rfl (S_move rfl) ?_
        refine VX_effT rfl rfl rfl rfl rfl (E_call rfl rfl rfl Try.call62 (x_insert _ (l.map (fun p => p.2)).length (lb (keysP l) k) b54 (xcs (l.map (fun p => p.2))) [.int .i64 s, .int .i64 n] h Gv hBv (xcE.flat_one _) rfl rfl (by omega) (by omega)) (by repeat (first | exact Split.nil | exact Pick.here | apply Pick.there | apply Split.cons))) ?_
        rintro _ hh55 _ ⟨v55, nb55, ⟨rfl, G55, hB55, rfl⟩, hs55, rfl, rfl⟩
        replace hB55 := hB55.ins xcE (a := (s, n)) (by omega)
        obtain ⟨A55, c55, rfl, _, _⟩ := Buf.form hB55
        refine VX_more ?_
        refine VB_pick1 (j := 20) (p := [0, 18, 19, 20]) (r := [1, 21, 22, 23]) rfl (by kernel_rfl) (by kernel_rfl) (by kernel_rfl) ?_
        refine VX_pure rfl rfl rfl rfl rfl rfl (S_move rfl) ?_
        refine VX_pure rfl rfl rfl rfl rfl rfl (S_nil rfl) ?_
        refine VX_pure rfl rfl rfl rfl rfl rfl (S_field (k := 0) Try.underlying92 rfl rfl ti88 rfl rfl) ?_
        refine VX_effT rfl rfl rfl rfl rfl (E_store ti88 rfl rfl rfl rfl rfl (by repeat (first | exact Has.here | apply Has.there)) (by repeat (first | exact PutR.nil | exact SetL.here | apply SetL.there | apply PutR.cons)) (by repeat (first | exact UpdG.here | apply UpdG.there))) ?_
        rintro _ _ _ ⟨rfl, rfl, rfl⟩
        refine VX_more ?_
        refine VB_pick1 (j := 23) (p := [1, 21, 22, 23]) (r := []) rfl (by kernel_rfl) (by kernel_rfl) (by kernel_rfl) ?_
        refine VX_pure rfl rfl rfl rfl rfl rfl (S_move rfl) ?_
        refine VX_pure rfl rfl rfl rfl rfl rfl (S_nil rfl) ?_
        refine VX_pure rfl rfl rfl rfl rfl rfl (S_field (k := 1) Try.underlying92 rfl rfl ti89 rfl rfl) ?_
        refine VX_effT rfl rfl rfl rfl rfl (E_store ti89 rfl rfl rfl rfl rfl (by repeat (first | exact Has.here | apply Has.there)) (by repeat (first | exact PutR.nil | exact SetL.here | apply SetL.there | apply PutR.cons)) (by repeat (first | exact UpdG.here | apply UpdG.there))) ?_
        rintro _ _ _ ⟨rfl, rfl, rfl⟩
        refine VX_more ?_
        refine VB_end rfl ?_
        refine VX_nil ?_
        refine VQ_then ?_
        refine V_seq ?_
        refine V_region ?_
        refine VL_still rfl rfl rfl (S_move rfl) ?_
        refine VL_keeps (blA := [GN bo (.slice A47 ((keysP l).take (lb (keysP l) k) ++ k :: (keysP l).drop (lb (keysP l) k)).length c47) (.slice A55 ((l.map (fun p => p.2)).take (lb (keysP l) k) ++ (s, n) :: (l.map (fun p => p.2)).drop (lb (keysP l) k)).length c55) (.slice Ac ([] : List Nat).length cc), G47, G55, Gc]) (by repeat (first | exact Split.nil | exact Pick.here | apply Pick.there | apply Split.cons)) (fun h1 sh1 kh1 => ?_)
        obtain ⟨q1, q2, q3, q4, _⟩ := kh1
        have hR : Rp h1 0 bo (.leaf (l.take (lb (keysP l) k) ++ (k, (s, n)) :: l.drop (lb (keysP l) k))) := by
          show NodeAt _ _ (keysP _) (List.map _ _) []
          rw [keysP_ins, vals_ins]
          exact NodeAt.own q1 q2 q3 q4 hB47 hB55 hBc
        refine VL_eff rfl (E_call rfl rfl rfl Try.call63 (splitT_con 0 bo _ h1 hR (by show (keysP _).length ≤ 1000; rw [keysP_len]; simp; omega) (fun d' ks ts e => by cases e)) (by repeat (first | exact Split.nil | exact Pick.here | apply Pick.there | apply Split.cons))) ?_
        rintro _ hh61 _ ⟨v61, nb61, ⟨rfl, hP⟩, hs61, rfl, rfl⟩
        replace hP := hP hs61
        obtain ⟨b1, s', o', rfl, _⟩ := hP.form
        refine VL_still rfl rfl rfl (S_extract rfl rfl) ?_
        refine VL_still rfl rfl rfl (S_extract rfl rfl) ?_
        refine VL_still rfl rfl rfl (S_extract rfl rfl) ?_
        refine VL_still rfl rfl rfl (S_assign rfl) ?_
        refine VL_still rfl rfl rfl (S_assign rfl) ?_
        refine VL_still rfl rfl rfl (S_assign rfl) ?_
        refine VL_nil ?_
        refine VQ_then ?_
        refine V_ret ?_
        refine VQ_then_ret ?_
        refine VQ_fin3 (nb := []) (by first | exact .inl rfl | exact .inr rfl) rfl (RV_tmp rfl) (RV_tmp rfl) (RV_tmp rfl) ?sb ?po
        case po =>
          refine ⟨rfl, ?_⟩
          rw [putT_0, if_neg hf]
          exact hP
        case sb => exact (by repeat (first | exact SubB.nil | exact Pick.here | apply Pick.there | apply SubB.emp | apply SubB.cons))
  · skip
    simp at hc19

theorem Ch.at_ {α : Type} {R : Int → Int → α → Prop} {ks : List Int} {ts : List α} {lo hi : Int} (h : Ch R lo hi ks ts) {i : Nat} (hi' : i < ts.length) : ∃ lo' hi', R lo' hi' ts[i] := by
  obtain ⟨A, t, B, lo', hi'', e, f⟩ := h.foc (i := i) (by have := h.len; omega)
  subst e
  refine ⟨lo', hi'', ?_⟩
  have hat := f.at_
  have : (A ++ t :: B)[i] = t := by rw [List.getElem_append_right (by omega)]; simp [hat]
  rw [this]; exact f.one

set_option maxRecDepth 100000 in
theorem put_node (d b : Nat) (ks : List Int) (ts : List Tr) (bs : List Nat) (lo hi k s n : Int) (h : Hp) (hN : NodeAt h b ks [] bs) (hA : All2 (Rp h d) bs ts) (hI : Ch (In d) lo hi ks ts) (hK : ∀ x ∈ ts, 3 ≤ nk x ∧ nk x ≤ 7 ∧ Kd d x) (hn : ks.length ≤ 7)
    (ih : ∀ (b : Nat) (t : Tr) (lo hi : Int) (h : Hp), Rp h d b t → In d lo hi t → Kd d t → nk t ≤ 7 → Con Try.prog 43 [ptr b, .int .u64 k, .agg #[.int .i64 s, .int .i64 n]] h [] (fun r h' nb => nb = [] ∧ PutO h' d r (putT d t k (s, n)))) : Con Try.prog 43 [ptr b, .int .u64 k, .agg #[.int .i64 s, .int .i64 n]] h [] (fun r h' nb => nb = [] ∧ PutO h' (d + 1) r (putT (d + 1) (.node ks ts) k (s, n))) := by
  obtain ⟨kv, vv, cv, hb, hk, hv, hc⟩ := hN
  obtain ⟨A, cap, rfl, hle, hmx⟩ := hk.form
  obtain ⟨A2, cap2, rfl, hlev, hmxv⟩ := hv.form
  obtain ⟨A3, cap3, rfl, hlec, hmxc⟩ := hc.form
  have hlen := hI.len
  have hbl := hA.len
  have hil := ub_le ks k
  have hib : ub ks k < bs.length := by omega
  have hit : ub ks k < ts.length := by omega
  have hbs : bs ≠ [] := by intro e; subst e; simp at hib
  obtain ⟨lo', hi', hIx⟩ := hI.at_ hit
  have hKx := hK ts[ub ks k] (List.getElem_mem hit)
  obtain ⟨bi, hbi, hRi⟩ := hA.get (List.getElem?_eq_getElem hit)
  have hbi' : bs[ub ks k] = bi := by rw [List.getElem?_eq_getElem hib] at hbi; exact Option.some.inj hbi
  obtain ⟨bb, off, cap', e1, hcc⟩ := hc.at_ pcE rfl hib
  cases e1
  rw [hbi'] at hcc
  refine Con_of Try.func43 rfl Try.ntmps43 (Nat.le_of_ble_eq_true rfl) (fun w0 => ?_)
  refine V_seq ?_
  refine V_region ?_
  refine VL_eff rfl (E_box rfl rfl rfl) ?_
  rintro _ _ _ ⟨b5, hb5, rfl, rfl, rfl⟩
  refine VL_still rfl rfl rfl (S_assign rfl) ?_
  refine VL_still rfl rfl rfl (S_assign rfl) ?_
  refine VL_still rfl rfl rfl (S_assign rfl) ?_
  refine VL_nil ?_
  refine VQ_then ?_
  refine V_seq ?_
  refine V_region ?_
  refine VL_still rfl rfl rfl (S_move rfl) ?_
  refine VL_eff rfl (E_call rfl rfl rfl Try.call60 (clone_con b ks [] bs h ⟨_, _, _, hb, hk, hv, hc⟩ (by omega) (by simp) (by omega)) (by repeat (first | exact Split.nil | exact Pick.here | apply Pick.there | apply Split.cons))) ?_
  rintro _ hh17 _ ⟨v17, nb17, ⟨rfl, bo, kvo, vvo, cvo, Gk, Gv, Gc, rfl, hBk, hBv, hBc, rfl⟩, hs17, rfl, rfl⟩
  obtain ⟨Ak, ck, rfl, _, _⟩ := Buf.form hBk
  obtain ⟨Av, cvv, rfl, _, _⟩ := Buf.form hBv
  obtain ⟨bc, capc, spc, rfl, rfl, l1, l2, hl1, hl2⟩ := Buf.blk hBc (by omega)
  refine VL_still rfl rfl rfl (S_assign rfl) ?_
  refine VL_nil ?_
  refine VQ_then ?_
  refine V_seq ?_
  refine V_seq ?_
  refine V_region ?_
  refine VL_still rfl rfl rfl (S_move rfl) ?_
  refine VL_eff rfl (E_call rfl rfl rfl Try.call39 (leaf_con b _ _ _ h ⟨_, _, _, hb, hk, hv, hc⟩) (by repeat (first | exact Split.nil | exact Pick.here | apply Pick.there | apply Split.cons))) ?_
  rintro _ hh19 _ ⟨v19, nb19, ⟨rfl, rfl, rfl⟩, hs19, rfl, rfl⟩
  refine VL_nil ?_
  refine VQ_then ?_
  refine V_cond rfl (fun hc19 => ?_) (fun hc19 => ?_)
  · skip
    exact absurd (of_decide_eq_true hc19) hbs
  · skip
    refine V_skip ?_
    refine VQ_then ?_
    refine V_seq ?_
    refine V_region ?_
    refine VL_still rfl rfl rfl (S_move rfl) ?_
    refine VL_still rfl rfl rfl (S_move rfl) ?_
    refine VL_eff rfl (E_call rfl rfl rfl Try.call40 (way_con b _ _ _ h ⟨_, _, _, hb, hk, hv, hc⟩ k _ _ hI.seps (by omega)) (by repeat (first | exact Split.nil | exact Pick.here | apply Pick.there | apply Split.cons))) ?_
    rintro _ hh67 _ ⟨v67, nb67, ⟨rfl, rfl, rfl⟩, hs67, rfl, rfl⟩
    refine VL_still rfl rfl rfl (S_assign rfl) ?_
    refine VL_nil ?_
    refine VQ_then ?_
    refine V_seq ?_
    refine V_draw _ [[(b5, .cells (List.toArray [.int .i64 s, .int .i64 n]) 34 (0, 0))]] 512 Try.mixed (by kernel_rfl) (Sub.refl _) (by repeat (first | exact SubB.nil | exact Pick.here | apply Pick.there | apply SubB.emp | apply SubB.cons)) ?_
    refine VD_still rfl rfl rfl rfl (S_move rfl) ?_
    refine VD_still rfl rfl rfl rfl (S_nil rfl) ?_
    refine VD_still rfl rfl rfl rfl (S_field (k := 2) Try.underlying92 rfl rfl ti90 rfl rfl) ?_
    first | refine VD_still rfl rfl rfl rfl (S_load Try.underlying90 rfl rfl (Cell.trk (by repeat (first | exact Has.here | apply Has.there)) rfl)) ?_ | refine VD_still rfl rfl rfl rfl (S_load Try.underlying90 rfl rfl (Cell.known (by first | assumption | exact (by assumption : Sub _ _) _ _ (by assumption) | exact (Sub.trans (by assumption) (by assumption)) _ _ (by assumption)) rfl)) ?_
    refine VD_still rfl rfl rfl rfl (S_move rfl) ?_
    refine VD_still rfl rfl rfl rfl (X_at (ub ks k) Try.underlying90 tx83 rfl rfl hib) ?_
    refine VD_still rfl rfl rfl rfl (S_load Try.underlying83 rfl rfl hcc.1.mem) ?_
    refine VD_still rfl rfl rfl rfl (S_move rfl) ?_
    first | refine VD_still rfl rfl rfl rfl (S_loads Try.underlying34 rfl ti34 rfl rfl (Cells.known (by first | assumption | exact (by assumption : Sub _ _) _ _ (by assumption) | exact (Sub.trans (by assumption) (by assumption)) _ _ (by assumption)))) ?_ | refine VD_still rfl rfl rfl rfl (S_loads Try.underlying34 rfl ti34 rfl rfl (Cells.all (by repeat (first | exact Has.here | apply Has.there)))) ?_ | refine VD_still rfl rfl rfl rfl (S_loads Try.underlying34 rfl ti34 rfl rfl (Cells.trk (by repeat (first | exact Has.here | apply Has.there)) (by repeat (first | exact TakeR.here (by repeat (first | exact HeadR.nil | apply HeadR.cons)) | apply TakeR.there)))) ?_
    refine VD_eff rfl rfl (E_call rfl rfl rfl Try.call43 (ih bi _ _ _ h hRi hIx hKx.2.2 hKx.2.1) (by repeat (first | exact Split.nil | exact Pick.here | apply Pick.there | apply Split.cons))) ?_
    rintro _ hh78 _ ⟨v78, nb78, ⟨rfl, hP⟩, hs78, rfl, rfl⟩
    obtain ⟨b1, s', o', rfl, hR1, ho⟩ := hP.form
    have hA1 := (hA.mono (fun a b r => Rp.sub hs78 r)).set (ub ks k) hR1
    refine ⟨⟨(by first | exact Sub.refl _ | assumption | exact Sub.trans (by assumption) (by assumption)), (by repeat (first | exact SubB.nil | exact Pick.here | apply Pick.there | apply SubB.emp | apply SubB.cons))⟩, ?_⟩
    refine VD_still rfl rfl rfl rfl (S_move rfl) ?_
    refine VD_still rfl rfl rfl rfl (S_extract rfl rfl) ?_
    refine VD_still rfl rfl rfl rfl (S_extract rfl rfl) ?_
    refine VD_still rfl rfl rfl rfl (S_extract rfl rfl) ?_
    refine VD_still rfl rfl rfl rfl (S_assign rfl) ?_
    refine VD_still rfl rfl rfl rfl (S_assign rfl) ?_
    refine VD_still rfl rfl rfl rfl (S_assign rfl) ?_
    refine VD_nil ?_
    refine VQ_then ?_
    refine V_seq ?_
    refine V_region ?_
    refine VL_still rfl rfl rfl (S_move rfl) ?_
    refine VL_still rfl rfl rfl (S_nil rfl) ?_
    refine VL_still rfl rfl rfl (S_field (k := 2) Try.underlying92 rfl rfl ti90 rfl rfl) ?_
    first | refine VL_still rfl rfl rfl (S_load Try.underlying90 rfl rfl (Cell.trk (by repeat (first | exact Has.here | apply Has.there)) rfl)) ?_ | refine VL_still rfl rfl rfl (S_load Try.underlying90 rfl rfl (Cell.known (by first | assumption | exact (by assumption : Sub _ _) _ _ (by assumption) | exact (Sub.trans (by assumption) (by assumption)) _ _ (by assumption)) rfl)) ?_
    refine VL_still rfl rfl rfl (S_move rfl) ?_
    refine VL_still rfl rfl rfl (S_move rfl) ?_
    refine VL_still rfl rfl rfl (X_at (ub ks k) Try.underlying90 tx83 rfl rfl hib) ?_
    refine VL_eff rfl (E_store ti83 rfl rfl rfl rfl rfl (by repeat (first | exact Has.here | apply Has.there)) (PutR.encd pcE hib b1 spc) (by repeat (first | exact UpdG.here | apply UpdG.there))) ?_
    rintro _ _ _ ⟨rfl, rfl, rfl⟩
    have hBc' : BC (.slice (some ⟨bc, 0, none⟩) bs.length capc) (bs.set (ub ks k) b1) [(bc, .cells (List.toArray ((bs.set (ub ks k) b1).flatMap pc ++ spc)) 83 (0, 0))] := Buf.set pcE _ b1 rfl l1 l2 hl2
    refine VL_nil ?_
    refine VQ_then ?_
    refine V_seq ?_
    refine V_seq ?_
    refine V_region ?_
    refine VL_still rfl rfl rfl (S_move rfl) ?_
    refine VL_still rfl rfl rfl (S_pnenil Try.underlying83 rfl rfl) ?_
    refine VL_nil ?_
    refine VQ_then ?_
    refine V_cond rfl (fun hc90 => ?_) (fun hc90 => ?_)
    · skip
      obtain ⟨b2, m, rfl, hq2, hR2⟩ : ∃ b2 m, o' = some ⟨b2, 0, none⟩ ∧ (putT d ts[ub ks k] k (s, n)).2 = some (s', m) ∧ Rp hh78 d b2 m := by
        rcases ho with ⟨rfl, _⟩ | ho
        · simp at hc90
        · exact ho
      refine V_drawX _ [GN bo (.slice Ak ks.length ck) (.slice Av ([] : List Ext).length cvv) (.slice (some ⟨bc, 0, none⟩) bs.length capc)] 19268352 8224 131840 6 Try.mixed (by kernel_rfl) (Sub.refl _) (by repeat (first | exact SubB.nil | exact Pick.here | apply Pick.there | apply SubB.emp | apply SubB.cons)) [0, 1, 2, 3, 4, 5, 6, 7, 8, 9, 10, 11, 12, 13, 14, 15, 16, 17, 18, 19, 20, 21, 22, 23, 24] rfl ?_
      refine VB_pick2 (j1 := 8) (p1 := [7, 8]) (r1 := [0, 1, 2, 3, 4, 5, 6, 9, 10, 11, 12, 13, 14, 15, 16, 17, 18, 19, 20, 21, 22, 23, 24]) (j2 := 17) (p2 := [16, 17]) (r2 := [0, 1, 2, 3, 4, 5, 6, 7, 8, 9, 10, 11, 12, 13, 14, 15, 18, 19, 20, 21, 22, 23, 24]) rfl (by kernel_rfl) (by kernel_rfl) (by kernel_rfl) (by kernel_rfl) (by kernel_rfl) ?_ ?_
      · skip
        refine VX_pure rfl rfl rfl rfl rfl rfl (S_move rfl) ?_
        refine VX_eff rfl rfl rfl rfl rfl (E_bs1 rfl Try.underlying88 ti23 rfl rfl rfl rfl rfl rfl) ?_
        rintro _ _ _ ⟨b99, hb99, rfl, rfl, rfl⟩
        refine ⟨⟨(by first | exact Sub.refl _ | assumption | exact Sub.trans (by assumption) (by assumption)), (by repeat (first | exact SubB.nil | exact Pick.here | apply Pick.there | apply SubB.emp | apply SubB.cons))⟩, ?_⟩
        refine VX_more ?_
        refine VB_pick2 (j1 := 9) (p1 := [2, 3, 4, 5, 6, 9]) (r1 := [0, 1, 10, 11, 12, 13, 14, 15, 16, 17, 18, 19, 20, 21, 22, 23, 24]) (j2 := 17) (p2 := [16, 17]) (r2 := [0, 1, 2, 3, 4, 5, 6, 9, 10, 11, 12, 13, 14, 15, 18, 19, 20, 21, 22, 23, 24]) rfl (by kernel_rfl) (by kernel_rfl) (by kernel_rfl) (by kernel_rfl) (by kernel_rfl) ?_ ?_
        · skip
          refine VX_pure rfl rfl rfl rfl rfl rfl (S_move rfl) ?_
          refine VX_pure rfl rfl rfl rfl rfl rfl (S_nil rfl) ?_
          refine VX_pure rfl rfl rfl rfl rfl rfl (S_field (k := 0) Try.underlying92 rfl rfl ti88 rfl rfl) ?_
          first | refine VX_still rfl rfl rfl rfl rfl rfl (S_load Try.underlying88 rfl rfl (Cell.trk (by repeat (first | exact Has.here | apply Has.there)) rfl)) ?_ | refine VX_still rfl rfl rfl rfl rfl rfl (S_load Try.underlying88 rfl rfl (Cell.known (by first | assumption | exact (by assumption : Sub _ _) _ _ (by assumption) | exact (Sub.trans (by assumption) (by assumption)) _ _ (by assumption)) rfl)) ?_
          refine VX_pure rfl rfl rfl rfl rfl rfl (S_move rfl) ?_
          refine VX_eff rfl rfl rfl rfl rfl (E_call rfl rfl rfl Try.call61 (k_insert _ ks.length (ub ks k) b99 (kcs ks) [.int .u64 s'] hh78 Gk hBk (kcE.flat_one _) rfl rfl hil (by omega)) (by repeat (first | exact Split.nil | exact Pick.here | apply Pick.there | apply Split.cons))) ?_
          rintro _ hh100 _ ⟨v100, nb100, ⟨rfl, G100, hB100, rfl⟩, hs100, rfl, rfl⟩
          replace hB100 := hB100.ins kcE (a := s') hil
          obtain ⟨A100, c100, rfl, _, _⟩ := Buf.form hB100
          refine ⟨⟨(by first | exact Sub.refl _ | assumption | exact Sub.trans (by assumption) (by assumption)), (by repeat (first | exact SubB.nil | exact Pick.here | apply Pick.there | apply SubB.emp | apply SubB.cons))⟩, ?_⟩
          refine VX_more ?_
          refine VB_pick1 (j := 17) (p := [16, 17]) (r := [0, 1, 10, 11, 12, 13, 14, 15, 18, 19, 20, 21, 22, 23, 24]) rfl (by kernel_rfl) (by kernel_rfl) (by kernel_rfl) ?_
          refine VX_pure rfl rfl rfl rfl rfl rfl (S_move rfl) ?_
          refine VX_eff rfl rfl rfl rfl rfl (E_bs1 rfl Try.underlying90 ti83 rfl rfl rfl rfl rfl rfl) ?_
          rintro _ _ _ ⟨b108, hb108, rfl, rfl, rfl⟩
          refine ⟨⟨(by first | exact Sub.refl _ | assumption | exact Sub.trans (by assumption) (by assumption)), (by repeat (first | exact SubB.nil | exact Pick.here | apply Pick.there | apply SubB.emp | apply SubB.cons))⟩, ?_⟩
          refine VX_more ?_
          refine VB_pick1 (j := 18) (p := [10, 11, 12, 13, 14, 15, 18]) (r := [0, 1, 19, 20, 21, 22, 23, 24]) rfl (by kernel_rfl) (by kernel_rfl) (by kernel_rfl) ?_
          refine VX_pure rfl rfl rfl rfl rfl rfl (S_move rfl) ?_
          refine VX_pure rfl rfl rfl rfl rfl rfl (S_nil rfl) ?_
          refine VX_pure rfl rfl rfl rfl rfl rfl (S_field (k := 2) Try.underlying92 rfl rfl ti90 rfl rfl) ?_
          first | refine VX_still rfl rfl rfl rfl rfl rfl (S_load Try.underlying90 rfl rfl (Cell.trk (by repeat (first | exact Has.here | apply Has.there)) rfl)) ?_ | refine VX_still rfl rfl rfl rfl rfl rfl (S_load Try.underlying90 rfl rfl (Cell.known (by first | assumption | exact (by assumption : Sub _ _) _ _ (by assumption) | exact (Sub.trans (by assumption) (by assumption)) _ _ (by assumption)) rfl)) ?_
          refine VX_pure rfl rfl rfl rfl rfl rfl (S_move rfl) ?_
          refine VX_pure rfl rfl rfl rfl rfl rfl (S_addn (ub ks k) 1 rfl rfl (by omega)) ?_
          refine VX_effT rfl rfl rfl rfl rfl (E_call rfl rfl rfl Try.call64 (n_insert _ (bs.set (ub ks k) b1).length (ub ks k + 1) b108 (pcs (bs.set (ub ks k) b1)) [ptr b2] hh78 [(bc, .cells (List.toArray ((bs.set (ub ks k) b1).flatMap pc ++ spc)) 83 (0, 0))] hBc' (pcE.flat_one _) rfl rfl (by rw [List.length_set]; omega) (by rw [List.length_set]; omega)) (by repeat (first | exact Split.nil | exact Pick.here | apply Pick.there | apply Split.cons))) ?_
          rintro _ hh109 _ ⟨v109, nb109, ⟨rfl, G109, hB109, rfl⟩, hs109, rfl, rfl⟩
          replace hB109 := hB109.ins pcE (a := b2) (by rw [List.length_set]; omega)
          obtain ⟨A109, c109, rfl, _, _⟩ := Buf.form hB109
          refine VX_more ?_
          refine VB_pick1 (j := 21) (p := [0, 19, 20, 21]) (r := [1, 22, 23, 24]) rfl (by kernel_rfl) (by kernel_rfl) (by kernel_rfl) ?_
          refine VX_pure rfl rfl rfl rfl rfl rfl (S_move rfl) ?_
          refine VX_pure rfl rfl rfl rfl rfl rfl (S_nil rfl) ?_
          refine VX_pure rfl rfl rfl rfl rfl rfl (S_field (k := 0) Try.underlying92 rfl rfl ti88 rfl rfl) ?_
          refine VX_effT rfl rfl rfl rfl rfl (E_store ti88 rfl rfl rfl rfl rfl (by repeat (first | exact Has.here | apply Has.there)) (by repeat (first | exact PutR.nil | exact SetL.here | apply SetL.there | apply PutR.cons)) (by repeat (first | exact UpdG.here | apply UpdG.there))) ?_
          rintro _ _ _ ⟨rfl, rfl, rfl⟩
          refine VX_more ?_
          refine VB_pick1 (j := 24) (p := [1, 22, 23, 24]) (r := []) rfl (by kernel_rfl) (by kernel_rfl) (by kernel_rfl) ?_
          refine VX_pure rfl rfl rfl rfl rfl rfl (S_move rfl) ?_
          refine VX_pure rfl rfl rfl rfl rfl rfl (S_nil rfl) ?_
          refine VX_pure rfl rfl rfl rfl rfl rfl (S_field (k := 2) Try.underlying92 rfl rfl ti90 rfl rfl) ?_
          refine VX_effT rfl rfl rfl rfl rfl (E_store ti90 rfl rfl rfl rfl rfl (by repeat (first | exact Has.here | apply Has.there)) (by repeat (first | exact PutR.nil | exact SetL.here | apply SetL.there | apply PutR.cons)) (by repeat (first | exact UpdG.here | apply UpdG.there))) ?_
          rintro _ _ _ ⟨rfl, rfl, rfl⟩
          refine VX_more ?_
          refine VB_end rfl ?_
          refine VX_nil ?_
          refine VQ_then ?_
          refine V_seq ?_
          refine V_region ?_
          refine VL_still rfl rfl rfl (S_move rfl) ?_
          refine VL_keeps (blA := [GN bo (.slice A100 (ks.take (ub ks k) ++ s' :: ks.drop (ub ks k)).length c100) (.slice Av ([] : List Ext).length cvv) (.slice A109 ((bs.set (ub ks k) b1).take (ub ks k + 1) ++ b2 :: (bs.set (ub ks k) b1).drop (ub ks k + 1)).length c109), G100, Gv, G109]) (by repeat (first | exact Split.nil | exact Pick.here | apply Pick.there | apply Split.cons)) (fun h1 sh1 kh1 => ?_)
          obtain ⟨q1, q2, q3, q4, _⟩ := kh1
          have hR : Rp h1 (d + 1) bo (.node (ks.take (ub ks k) ++ s' :: ks.drop (ub ks k)) ((ts.set (ub ks k) (putT d ts[ub ks k] k (s, n)).1).take (ub ks k + 1) ++ m :: (ts.set (ub ks k) (putT d ts[ub ks k] k (s, n)).1).drop (ub ks k + 1))) :=
            ⟨_, NodeAt.own q1 q2 q3 q4 hB100 hBv hB109, ((hA1.take _).app (.cons hR2 (hA1.drop _))).mono fun a b r => Rp.sub sh1 r⟩
          refine VL_eff rfl (E_call rfl rfl rfl Try.call63 (splitT_con (d + 1) bo _ h1 hR (by show (ks.take _ ++ _ :: ks.drop _).length ≤ 1000; simp; omega) (fun d' ks' ts' e1 e2 => by cases e2; simp; omega)) (by repeat (first | exact Split.nil | exact Pick.here | apply Pick.there | apply Split.cons))) ?_
          rintro _ hh115 _ ⟨v115, nb115, ⟨rfl, hP2⟩, hs115, rfl, rfl⟩
          replace hP2 := hP2 hs115
          obtain ⟨b1', s2, o2, rfl, _⟩ := hP2.form
          refine VL_still rfl rfl rfl (S_extract rfl rfl) ?_
          refine VL_still rfl rfl rfl (S_extract rfl rfl) ?_
          refine VL_still rfl rfl rfl (S_extract rfl rfl) ?_
          refine VL_still rfl rfl rfl (S_assign rfl) ?_
          refine VL_still rfl rfl rfl (S_assign rfl) ?_
          refine VL_still rfl rfl rfl (S_assign rfl) ?_
          refine VL_nil ?_
          refine VQ_then ?_
          refine V_ret ?_
          refine VQ_fin3 (nb := []) (by first | exact .inl rfl | exact .inr rfl) rfl (RV_tmp rfl) (RV_tmp rfl) (RV_tmp rfl) ?sb ?po
          case po =>
            refine ⟨rfl, ?_⟩
            rw [putT_s]
            simp only [List.getElem?_eq_getElem hit, hq2]
            exact hP2
          case sb => exact (by repeat (first | exact SubB.nil | exact Pick.here | apply Pick.there | apply SubB.emp | apply SubB.cons))
        · skip
          refine VX_pure rfl rfl rfl rfl rfl rfl (S_move rfl) ?_
          refine VX_eff rfl rfl rfl rfl rfl (E_bs1 rfl Try.underlying90 ti83 rfl rfl rfl rfl rfl rfl) ?_
          rintro _ _ _ ⟨b108, hb108, rfl, rfl, rfl⟩
          refine ⟨⟨(by first | exact Sub.refl _ | assumption | exact Sub.trans (by assumption) (by assumption)), (by repeat (first | exact SubB.nil | exact Pick.here | apply Pick.there | apply SubB.emp | apply SubB.cons))⟩, ?_⟩
          refine VX_more ?_
          refine VB_pick1 (j := 9) (p := [2, 3, 4, 5, 6, 9]) (r := [0, 1, 10, 11, 12, 13, 14, 15, 18, 19, 20, 21, 22, 23, 24]) rfl (by kernel_rfl) (by kernel_rfl) (by kernel_rfl) ?_
          refine VX_pure rfl rfl rfl rfl rfl rfl (S_move rfl) ?_
          refine VX_pure rfl rfl rfl rfl rfl rfl (S_nil rfl) ?_
          refine VX_pure rfl rfl rfl rfl rfl rfl (S_field (k := 0) Try.underlying92 rfl rfl ti88 rfl rfl) ?_
          first | refine VX_still rfl rfl rfl rfl rfl rfl (S_load Try.underlying88 rfl rfl (Cell.trk (by repeat (first | exact Has.here | apply Has.there)) rfl)) ?_ | refine VX_still rfl rfl rfl rfl rfl rfl (S_load Try.underlying88 rfl rfl (Cell.known (by first | assumption | exact (by assumption : Sub _ _) _ _ (by assumption) | exact (Sub.trans (by assumption) (by assumption)) _ _ (by assumption)) rfl)) ?_
          refine VX_pure rfl rfl rfl rfl rfl rfl (S_move rfl) ?_
          refine VX_eff rfl rfl rfl rfl rfl (E_call rfl rfl rfl Try.call61 (k_insert _ ks.length (ub ks k) b99 (kcs ks) [.int .u64 s'] hh78 Gk hBk (kcE.flat_one _) rfl rfl hil (by omega)) (by repeat (first | exact Split.nil | exact Pick.here | apply Pick.there | apply Split.cons))) ?_
          rintro _ hh100 _ ⟨v100, nb100, ⟨rfl, G100, hB100, rfl⟩, hs100, rfl, rfl⟩
          replace hB100 := hB100.ins kcE (a := s') hil
          obtain ⟨A100, c100, rfl, _, _⟩ := Buf.form hB100
          refine ⟨⟨(by first | exact Sub.refl _ | assumption | exact Sub.trans (by assumption) (by assumption)), (by repeat (first | exact SubB.nil | exact Pick.here | apply Pick.there | apply SubB.emp | apply SubB.cons))⟩, ?_⟩
          refine VX_more ?_
          refine VB_pick1 (j := 18) (p := [10, 11, 12, 13, 14, 15, 18]) (r := [0, 1, 19, 20, 21, 22, 23, 24]) rfl (by kernel_rfl) (by kernel_rfl) (by kernel_rfl) ?_
          refine VX_pure rfl rfl rfl rfl rfl rfl (S_move rfl) ?_
          refine VX_pure rfl rfl rfl rfl rfl rfl (S_nil rfl) ?_
          refine VX_pure rfl rfl rfl rfl rfl rfl (S_field (k := 2) Try.underlying92 rfl rfl ti90 rfl rfl) ?_
          first | refine VX_still rfl rfl rfl rfl rfl rfl (S_load Try.underlying90 rfl rfl (Cell.trk (by repeat (first | exact Has.here | apply Has.there)) rfl)) ?_ | refine VX_still rfl rfl rfl rfl rfl rfl (S_load Try.underlying90 rfl rfl (Cell.known (by first | assumption | exact (by assumption : Sub _ _) _ _ (by assumption) | exact (Sub.trans (by assumption) (by assumption)) _ _ (by assumption)) rfl)) ?_
          refine VX_pure rfl rfl rfl rfl rfl rfl (S_move rfl) ?_
          refine VX_pure rfl rfl rfl rfl rfl rfl (S_addn (ub ks k) 1 rfl rfl (by omega)) ?_
          refine VX_effT rfl rfl rfl rfl rfl (E_call rfl rfl rfl Try.call64 (n_insert _ (bs.set (ub ks k) b1).length (ub ks k + 1) b108 (pcs (bs.set (ub ks k) b1)) [ptr b2] hh78 [(bc, .cells (List.toArray ((bs.set (ub ks k) b1).flatMap pc ++ spc)) 83 (0, 0))] hBc' (pcE.flat_one _) rfl rfl (by rw [List.length_set]; omega) (by rw [List.length_set]; omega)) (by repeat (first | exact Split.nil | exact Pick.here | apply Pick.there | apply Split.cons))) ?_
          rintro _ hh109 _ ⟨v109, nb109, ⟨rfl, G109, hB109, rfl⟩, hs109, rfl, rfl⟩
          replace hB109 := hB109.ins pcE (a := b2) (by rw [List.length_set]; omega)
          obtain ⟨A109, c109, rfl, _, _⟩ := Buf.form hB109
          refine VX_more ?_
          refine VB_pick1 (j := 21) (p := [0, 19, 20, 21]) (r := [1, 22, 23, 24]) rfl (by kernel_rfl) (by kernel_rfl) (by kernel_rfl) ?_
          refine VX_pure rfl rfl rfl rfl rfl rfl (S_move rfl) ?_
          refine VX_pure rfl rfl rfl rfl rfl rfl (S_nil rfl) ?_
          refine VX_pure rfl rfl rfl rfl rfl rfl (S_field (k := 0) Try.underlying92 rfl rfl ti88 rfl rfl) ?_
          refine VX_effT rfl rfl rfl rfl rfl (E_store ti88 rfl rfl rfl rfl rfl (by repeat (first | exact Has.here | apply Has.there)) (by repeat (first | exact PutR.nil | exact SetL.here | apply SetL.there | apply PutR.cons)) (by repeat (first | exact UpdG.here | apply UpdG.there))) ?_
          rintro _ _ _ ⟨rfl, rfl, rfl⟩
          refine VX_more ?_
          refine VB_pick1 (j := 24) (p := [1, 22, 23, 24]) (r := []) rfl (by kernel_rfl) (by kernel_rfl) (by kernel_rfl) ?_
          refine VX_pure rfl rfl rfl rfl rfl rfl (S_move rfl) ?_
          refine VX_pure rfl rfl rfl rfl rfl rfl (S_nil rfl) ?_
          refine VX_pure rfl rfl rfl rfl rfl rfl (S_field (k := 2) Try.underlying92 rfl rfl ti90 rfl rfl) ?_
          refine VX_effT rfl rfl rfl rfl rfl (E_store ti90 rfl rfl rfl rfl rfl (by repeat (first | exact Has.here | apply Has.there)) (by repeat (first | exact PutR.nil | exact SetL.here | apply SetL.there | apply PutR.cons)) (by repeat (first | exact UpdG.here | apply UpdG.there))) ?_
          rintro _ _ _ ⟨rfl, rfl, rfl⟩
          refine VX_more ?_
          refine VB_end rfl ?_
          refine VX_nil ?_
          refine VQ_then ?_
          refine V_seq ?_
          refine V_region ?_
          refine VL_still rfl rfl rfl (S_move rfl) ?_
          refine VL_keeps (blA := [GN bo (.slice A100 (ks.take (ub ks k) ++ s' :: ks.drop (ub ks k)).length c100) (.slice Av ([] : List Ext).length cvv) (.slice A109 ((bs.set (ub ks k) b1).take (ub ks k + 1) ++ b2 :: (bs.set (ub ks k) b1).drop (ub ks k + 1)).length c109), G100, Gv, G109]) (by repeat (first | exact Split.nil | exact Pick.here | apply Pick.there | apply Split.cons)) (fun h1 sh1 kh1 => ?_)
          obtain ⟨q1, q2, q3, q4, _⟩ := kh1
          have hR : Rp h1 (d + 1) bo (.node (ks.take (ub ks k) ++ s' :: ks.drop (ub ks k)) ((ts.set (ub ks k) (putT d ts[ub ks k] k (s, n)).1).take (ub ks k + 1) ++ m :: (ts.set (ub ks k) (putT d ts[ub ks k] k (s, n)).1).drop (ub ks k + 1))) :=
            ⟨_, NodeAt.own q1 q2 q3 q4 hB100 hBv hB109, ((hA1.take _).app (.cons hR2 (hA1.drop _))).mono fun a b r => Rp.sub sh1 r⟩
          refine VL_eff rfl (E_call rfl rfl rfl Try.call63 (splitT_con (d + 1) bo _ h1 hR (by show (ks.take _ ++ _ :: ks.drop _).length ≤ 1000; simp; omega) (fun d' ks' ts' e1 e2 => by cases e2; simp; omega)) (by repeat (first | exact Split.nil | exact Pick.here | apply Pick.there | apply Split.cons))) ?_
          rintro _ hh115 _ ⟨v115, nb115, ⟨rfl, hP2⟩, hs115, rfl, rfl⟩
          replace hP2 := hP2 hs115
          obtain ⟨b1', s2, o2, rfl, _⟩ := hP2.form
          refine VL_still rfl rfl rfl (S_extract rfl rfl) ?_
          refine VL_still rfl rfl rfl (S_extract rfl rfl) ?_
          refine VL_still rfl rfl rfl (S_extract rfl rfl) ?_
          refine VL_still rfl rfl rfl (S_assign rfl) ?_
          refine VL_still rfl rfl rfl (S_assign rfl) ?_
          refine VL_still rfl rfl rfl (S_assign rfl) ?_
          refine VL_nil ?_
          refine VQ_then ?_
          refine V_ret ?_
          refine VQ_fin3 (nb := []) (by first | exact .inl rfl | exact .inr rfl) rfl (RV_tmp rfl) (RV_tmp rfl) (RV_tmp rfl) ?sb ?po
          case po =>
            refine ⟨rfl, ?_⟩
            rw [putT_s]
            simp only [List.getElem?_eq_getElem hit, hq2]
            exact hP2
          case sb => exact (by repeat (first | exact SubB.nil | exact Pick.here | apply Pick.there | apply SubB.emp | apply SubB.cons))
      · skip
        refine VX_pure rfl rfl rfl rfl rfl rfl (S_move rfl) ?_
        refine VX_eff rfl rfl rfl rfl rfl (E_bs1 rfl Try.underlying90 ti83 rfl rfl rfl rfl rfl rfl) ?_
        rintro _ _ _ ⟨b108, hb108, rfl, rfl, rfl⟩
        refine ⟨⟨(by first | exact Sub.refl _ | assumption | exact Sub.trans (by assumption) (by assumption)), (by repeat (first | exact SubB.nil | exact Pick.here | apply Pick.there | apply SubB.emp | apply SubB.cons))⟩, ?_⟩
        refine VX_more ?_
        refine VB_pick1 (j := 8) (p := [7, 8]) (r := [0, 1, 2, 3, 4, 5, 6, 9, 10, 11, 12, 13, 14, 15, 18, 19, 20, 21, 22, 23, 24]) rfl (by kernel_rfl) (by kernel_rfl) (by kernel_rfl) ?_
        refine VX_pure rfl rfl rfl rfl rfl rfl (S_move rfl) ?_
        refine VX_eff rfl rfl rfl rfl rfl (E_bs1 rfl Try.underlying88 ti23 rfl rfl rfl rfl rfl rfl) ?_
        rintro _ _ _ ⟨b99, hb99, rfl, rfl, rfl⟩
        refine ⟨⟨(by first | exact Sub.refl _ | assumption | exact Sub.trans (by assumption) (by assumption)), (by repeat (first | exact SubB.nil | exact Pick.here | apply Pick.there | apply SubB.emp | apply SubB.cons))⟩, ?_⟩
        refine VX_more ?_
        refine VB_pick1 (j := 9) (p := [2, 3, 4, 5, 6, 9]) (r := [0, 1, 10, 11, 12, 13, 14, 15, 18, 19, 20, 21, 22, 23, 24]) rfl (by kernel_rfl) (by kernel_rfl) (by kernel_rfl) ?_
        refine VX_pure rfl rfl rfl rfl rfl rfl (S_move rfl) ?_
        refine VX_pure rfl rfl rfl rfl rfl rfl (S_nil rfl) ?_
        refine VX_pure rfl rfl rfl rfl rfl rfl (S_field (k := 0) Try.underlying92 rfl rfl ti88 rfl rfl) ?_
        first | refine VX_still rfl rfl rfl rfl rfl rfl (S_load Try.underlying88 rfl rfl (Cell.trk (by repeat (first | exact Has.here | apply Has.there)) rfl)) ?_ | refine VX_still rfl rfl rfl rfl rfl rfl (S_load Try.underlying88 rfl rfl (Cell.known (by first | assumption | exact (by assumption : Sub _ _) _ _ (by assumption) | exact (Sub.trans (by assumption) (by assumption)) _ _ (by assumption)) rfl)) ?_
        refine VX_pure rfl rfl rfl rfl rfl rfl (S_move rfl) ?_
        refine VX_eff rfl rfl rfl rfl rfl (E_call rfl rfl rfl Try.call61 (k_insert _ ks.length (ub ks k) b99 (kcs ks) [.int .u64 s'] hh78 Gk hBk (kcE.flat_one _) rfl rfl hil (by omega)) (by repeat (first | exact Split.nil | exact Pick.here | apply Pick.there | apply Split.cons))) ?_
        rintro _ hh100 _ ⟨v100, nb100, ⟨rfl, G100, hB100, rfl⟩, hs100, rfl, rfl⟩
        replace hB100 := hB100.ins kcE (a := s') hil
        obtain ⟨A100, c100, rfl, _, _⟩ := Buf.form hB100
        refine ⟨⟨(by first | exact Sub.refl _ | assumption | exact Sub.trans (by assumption) (by assumption)), (by repeat (first | exact SubB.nil | exact Pick.here | apply Pick.there | apply SubB.emp | apply SubB.cons))⟩, ?_⟩
        refine VX_more ?_
        refine VB_pick1 (j := 18) (p := [10, 11, 12, 13, 14, 15, 18]) (r := [0, 1, 19, 20, 21, 22, 23, 24]) rfl (by kernel_rfl) (by kernel_rfl) (by kernel_rfl) ?_
        refine VX_pure rfl rfl rfl rfl rfl rfl (S_move rfl) ?_
        refine VX_pure rfl rfl rfl rfl rfl rfl (S_nil rfl) ?_
        refine VX_pure rfl rfl rfl rfl rfl rfl (S_field (k := 2) Try.underlying92 rfl rfl ti90 rfl rfl) ?_
        first | refine VX_still rfl rfl rfl rfl rfl rfl (S_load Try.underlying90 rfl rfl (Cell.trk (by repeat (first | exact Has.here | apply Has.there)) rfl)) ?_ | refine VX_still rfl rfl rfl rfl rfl rfl (S_load Try.underlying90 rfl rfl (Cell.known (by first | assumption | exact (by assumption : Sub _ _) _ _ (by assumption) | exact (Sub.trans (by assumption) (by assumption)) _ _ (by assumption)) rfl)) ?_
        refine VX_pure rfl rfl rfl rfl rfl rfl (S_move rfl) ?_
        refine VX_pure rfl rfl rfl rfl rfl rfl (S_addn (ub ks k) 1 rfl rfl (by omega)) ?_
        refine VX_effT rfl rfl rfl rfl rfl (E_call rfl rfl rfl Try.call64 (n_insert _ (bs.set (ub ks k) b1).length (ub ks k + 1) b108 (pcs (bs.set (ub ks k) b1)) [ptr b2] hh78 [(bc, .cells (List.toArray ((bs.set (ub ks k) b1).flatMap pc ++ spc)) 83 (0, 0))] hBc' (pcE.flat_one _) rfl rfl (by rw [List.length_set]; omega) (by rw [List.length_set]; omega)) (by repeat (first | exact Split.nil | exact Pick.here | apply Pick.there | apply Split.cons))) ?_
        rintro _ hh109 _ ⟨v109, nb109, ⟨rfl, G109, hB109, rfl⟩, hs109, rfl, rfl⟩
        replace hB109 := hB109.ins pcE (a := b2) (by rw [List.length_set]; omega)
        obtain ⟨A109, c109, rfl, _, _⟩ := Buf.form hB109
        refine VX_more ?_
        refine VB_pick1 (j := 21) (p := [0, 19, 20, 21]) (r := [1, 22, 23, 24]) rfl (by kernel_rfl) (by kernel_rfl) (by kernel_rfl) ?_
        refine VX_pure rfl rfl rfl rfl rfl rfl (S_move rfl) ?_
        refine VX_pure rfl rfl rfl rfl rfl rfl (S_nil rfl) ?_
        refine VX_pure rfl rfl rfl rfl rfl rfl (S_field (k := 0) Try.underlying92 rfl rfl ti88 rfl rfl) ?_
        refine VX_effT rfl rfl rfl rfl rfl (E_store ti88 rfl rfl rfl rfl rfl (by repeat (first | exact Has.here | apply Has.there)) (by repeat (first | exact PutR.nil | exact SetL.here | apply SetL.there | apply PutR.cons)) (by repeat (first | exact UpdG.here | apply UpdG.there))) ?_
        rintro _ _ _ ⟨rfl, rfl, rfl⟩
        refine VX_more ?_
        refine VB_pick1 (j := 24) (p := [1, 22, 23, 24]) (r := []) rfl (by kernel_rfl) (by kernel_rfl) (by kernel_rfl) ?_
        refine VX_pure rfl rfl rfl rfl rfl rfl (S_move rfl) ?_
        refine VX_pure rfl rfl rfl rfl rfl rfl (S_nil rfl) ?_
        refine VX_pure rfl rfl rfl rfl rfl rfl (S_field (k := 2) Try.underlying92 rfl rfl ti90 rfl rfl) ?_
        refine VX_effT rfl rfl rfl rfl rfl (E_store ti90 rfl rfl rfl rfl rfl (by repeat (first | exact Has.here | apply Has.there)) (by repeat (first | exact PutR.nil | exact SetL.here | apply SetL.there | apply PutR.cons)) (by repeat (first | exact UpdG.here | apply UpdG.there))) ?_
        rintro _ _ _ ⟨rfl, rfl, rfl⟩
        refine VX_more ?_
        refine VB_end rfl ?_
        refine VX_nil ?_
        refine VQ_then ?_
        refine V_seq ?_
        refine V_region ?_
        refine VL_still rfl rfl rfl (S_move rfl) ?_
        refine VL_keeps (blA := [GN bo (.slice A100 (ks.take (ub ks k) ++ s' :: ks.drop (ub ks k)).length c100) (.slice Av ([] : List Ext).length cvv) (.slice A109 ((bs.set (ub ks k) b1).take (ub ks k + 1) ++ b2 :: (bs.set (ub ks k) b1).drop (ub ks k + 1)).length c109), G100, Gv, G109]) (by repeat (first | exact Split.nil | exact Pick.here | apply Pick.there | apply Split.cons)) (fun h1 sh1 kh1 => ?_)
        obtain ⟨q1, q2, q3, q4, _⟩ := kh1
        have hR : Rp h1 (d + 1) bo (.node (ks.take (ub ks k) ++ s' :: ks.drop (ub ks k)) ((ts.set (ub ks k) (putT d ts[ub ks k] k (s, n)).1).take (ub ks k + 1) ++ m :: (ts.set (ub ks k) (putT d ts[ub ks k] k (s, n)).1).drop (ub ks k + 1))) :=
          ⟨_, NodeAt.own q1 q2 q3 q4 hB100 hBv hB109, ((hA1.take _).app (.cons hR2 (hA1.drop _))).mono fun a b r => Rp.sub sh1 r⟩
        refine VL_eff rfl (E_call rfl rfl rfl Try.call63 (splitT_con (d + 1) bo _ h1 hR (by show (ks.take _ ++ _ :: ks.drop _).length ≤ 1000; simp; omega) (fun d' ks' ts' e1 e2 => by cases e2; simp; omega)) (by repeat (first | exact Split.nil | exact Pick.here | apply Pick.there | apply Split.cons))) ?_
        rintro _ hh115 _ ⟨v115, nb115, ⟨rfl, hP2⟩, hs115, rfl, rfl⟩
        replace hP2 := hP2 hs115
        obtain ⟨b1', s2, o2, rfl, _⟩ := hP2.form
        refine VL_still rfl rfl rfl (S_extract rfl rfl) ?_
        refine VL_still rfl rfl rfl (S_extract rfl rfl) ?_
        refine VL_still rfl rfl rfl (S_extract rfl rfl) ?_
        refine VL_still rfl rfl rfl (S_assign rfl) ?_
        refine VL_still rfl rfl rfl (S_assign rfl) ?_
        refine VL_still rfl rfl rfl (S_assign rfl) ?_
        refine VL_nil ?_
        refine VQ_then ?_
        refine V_ret ?_
        refine VQ_fin3 (nb := []) (by first | exact .inl rfl | exact .inr rfl) rfl (RV_tmp rfl) (RV_tmp rfl) (RV_tmp rfl) ?sb ?po
        case po =>
          refine ⟨rfl, ?_⟩
          rw [putT_s]
          simp only [List.getElem?_eq_getElem hit, hq2]
          exact hP2
        case sb => exact (by repeat (first | exact SubB.nil | exact Pick.here | apply Pick.there | apply SubB.emp | apply SubB.cons))
    · skip
      obtain ⟨rfl, hq2⟩ : o' = none ∧ (putT d ts[ub ks k] k (s, n)).2 = none := by
        rcases ho with ho | ⟨b2, m, rfl, _⟩
        · exact ho
        · simp at hc90
      refine V_skip ?_
      refine VQ_then ?_
      refine V_seq ?_
      refine V_region ?_
      refine VL_still rfl rfl rfl (S_move rfl) ?_
      refine VL_keeps (blA := [GN bo (.slice Ak ks.length ck) (.slice Av ([] : List Ext).length cvv) (.slice (some ⟨bc, 0, none⟩) bs.length capc), Gk, Gv, [(bc, .cells (List.toArray ((bs.set (ub ks k) b1).flatMap pc ++ spc)) 83 (0, 0))]]) (by repeat (first | exact Split.nil | exact Pick.here | apply Pick.there | apply Split.cons)) (fun h1 sh1 kh1 => ?_)
      obtain ⟨q1, q2, q3, q4, _⟩ := kh1
      have hR : Rp h1 (d + 1) bo (.node ks (ts.set (ub ks k) (putT d ts[ub ks k] k (s, n)).1)) :=
        ⟨_, NodeAt.own q1 q2 q3 q4 hBk hBv hBc', hA1.mono fun a b r => Rp.sub sh1 r⟩
      refine VL_eff rfl (E_call rfl rfl rfl Try.call63 (splitT_con (d + 1) bo _ h1 hR (by show ks.length ≤ 1000; omega) (fun d' ks' ts' e1 e2 => by cases e2; simp; omega)) (by repeat (first | exact Split.nil | exact Pick.here | apply Pick.there | apply Split.cons))) ?_
      rintro _ hh115 _ ⟨v115, nb115, ⟨rfl, hP2⟩, hs115, rfl, rfl⟩
      replace hP2 := hP2 hs115
      obtain ⟨b1', s2, o2, rfl, _⟩ := hP2.form
      refine VL_still rfl rfl rfl (S_extract rfl rfl) ?_
      refine VL_still rfl rfl rfl (S_extract rfl rfl) ?_
      refine VL_still rfl rfl rfl (S_extract rfl rfl) ?_
      refine VL_still rfl rfl rfl (S_assign rfl) ?_
      refine VL_still rfl rfl rfl (S_assign rfl) ?_
      refine VL_still rfl rfl rfl (S_assign rfl) ?_
      refine VL_nil ?_
      refine VQ_then ?_
      refine V_ret ?_
      refine VQ_fin3 (nb := []) (by first | exact .inl rfl | exact .inr rfl) rfl (RV_tmp rfl) (RV_tmp rfl) (RV_tmp rfl) ?sb ?po
      case po =>
        refine ⟨rfl, ?_⟩
        rw [putT_s]
        simp only [List.getElem?_eq_getElem hit, hq2]
        exact hP2
      case sb => exact (by repeat (first | exact SubB.nil | exact Pick.here | apply Pick.there | apply SubB.emp | apply SubB.cons))

theorem put_con : ∀ (d b : Nat) (t : Tr) (lo hi k s n : Int) (h : Hp), Rp h d b t → In d lo hi t → Kd d t → nk t ≤ 7 →
    Con Try.prog 43 [ptr b, .int .u64 k, .agg #[.int .i64 s, .int .i64 n]] h [] (fun r h' nb => nb = [] ∧ PutO h' d r (putT d t k (s, n)))
  | 0, b, .leaf l, lo, hi, k, s, n, h, hr, hi', _, hn => put_leaf b l lo hi k s n h hr hi' (by rw [← keysP_len]; exact Nat.le_trans hn (by omega))
  | d + 1, b, .node ks ts, lo, hi, k, s, n, h, ⟨bs, hN, hA⟩, hi', hk, hn => put_node d b ks ts bs lo hi k s n h hN hA hi' hk hn (fun b t lo hi h r i k' n' => put_con d b t lo hi k s n h r i k' n')

end Go.Proofs.Ytdglignjoojimaa
