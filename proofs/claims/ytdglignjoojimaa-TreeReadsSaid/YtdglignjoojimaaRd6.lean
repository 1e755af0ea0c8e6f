/- Texts of one proof, one behind the other: B26, B27, Sx25, OpN, ReadsRow. No conditions. -/
import Derived.Test.YtdglignjoojimaaRd5
import Derived.SizedLaws
/- Copy of nodes. No conditions. -/
set_option linter.unusedVariables false
set_option linter.unusedSimpArgs false
namespace Go.Proofs.Ytdglignjoojimaa

set_option maxRecDepth 100000 in
theorem copy_con (v : Value) (L : List Nd) (h : Hp) (hL : NL h v L) (nL : L.length ≤ 10000) (hsm : ∀ x ∈ L, x.keys.length * 8 ≤ 140737488351232 ∧ x.vals.length * 16 ≤ 140737488351232 ∧ x.kids.length * 8 ≤ 140737488351232) : Con Try.prog 24 [v] h [] (fun r h' nb => nb = [] ∧ NL h' r L) := by
  obtain ⟨A0, cap0, rfl, hle0, hmx0⟩ := hL.form
  refine Con_of Try.func24 rfl Try.ntmps24 (Nat.le_of_ble_eq_true rfl) (fun w0 => ?_)
  refine V_seq ?_
  refine V_region ?_
  refine VL_still rfl rfl rfl (S_assign rfl) ?_
  refine VL_nil ?_
  refine VQ_then ?_
  refine V_seq ?_
  refine V_region ?_
  refine VL_eff rfl (E_bs0 rfl Try.underlying41 ti108) ?_
  rintro _ _ _ ⟨b6, hb6, rfl, rfl, rfl⟩
  refine VL_still rfl rfl rfl (S_assign rfl) ?_
  refine VL_nil ?_
  refine VQ_then ?_
  refine V_seq ?_
  refine V_seq ?_
  refine V_region ?_
  refine VL_still rfl rfl rfl (S_move rfl) ?_
  refine VL_still rfl rfl rfl (S_len Try.underlying41 rfl) ?_
  refine VL_still rfl rfl rfl (S_move rfl) ?_
  refine VL_nil ?_
  refine VQ_then ?_
  refine V_block ?_
  refine V_loop (ι := Nat × Hp × Value × Gr × List (Sv × Sv × Sv)) (fun x => L.length - x.1) (fun (i, hh, v, G, cs) => i ≤ L.length ∧ Sub h hh ∧ BN v cs G ∧ All2 (NdR hh) cs (L.take i)) (fun (i, hh, v, G, cs) => [(3, v), (7, (.slice A0 L.length cap0)), (8, .int .i64 L.length), (9, .int .i64 i)]) (fun (i, hh, v, G, cs) => hh) (fun (i, hh, v, G, cs) => [G]) (0, h, .slice (some ⟨b6, 0, none⟩) 0 0, _, []) ⟨Nat.zero_le _, Sub.refl _, Buf.lit (n := 0) (cs := []) rfl (by omega), .nil⟩ (by repeat (first | exact trivial | refine ⟨rfl, ?_⟩)) rfl (by repeat (first | exact SubB.nil | exact Pick.here | apply Pick.there | apply SubB.emp | apply SubB.cons)) (fun ⟨i, hh, v, G, cs⟩ hi => ?_)
  obtain ⟨hi1, hs1, hB, hA⟩ := hi
  simp only at hi1 hs1 hB hA ⊢
  have hcl := hA.len
  rw [List.length_take] at hcl
  refine V_seq ?_
  refine V_region ?_
  refine VL_still rfl rfl rfl (S_lss rfl rfl) ?_
  refine VL_nil ?_
  refine VQ_then ?_
  refine V_seq ?_
  refine V_cond rfl (fun hc10 => ?_) (fun hc10 => ?_)
  · skip
    have hlt : i < L.length := by
      have := of_decide_eq_true hc10
      omega
    obtain ⟨bN, offN, capN, c, e1, hcN, hNd⟩ := hL.at_ hlt
    simp only [Value.slice.injEq] at e1
    obtain ⟨rfl, _, rfl⟩ := e1
    obtain ⟨n1, n2, n3⟩ := hsm L[i] (List.getElem_mem hlt)
    have hsn := take_snoc L i hlt
    generalize L[i] = x at hNd n1 n2 n3 hsn
    obtain ⟨A1, c1, A2, c2, A3, c3, rfl, lk, lv, lc, mk, mv, mc⟩ := NdR.form hNd
    replace hNd := NdR.sub hs1 hNd
    obtain ⟨hk, hv, hc⟩ := hNd
    replace hcN := hcN.mono (bl' := []) hs1 (fun q hq => by simp at hq)
    refine V_skip ?_
    refine VQ_then ?_
    refine V_seq ?_
    refine V_block ?_
    refine V_seq ?_
    refine V_region ?_
    refine VL_still rfl rfl rfl (X_at i Try.underlying41 tx108 rfl rfl hlt) ?_
    refine VL_still rfl rfl rfl (S_loads (vs := [.slice A1 x.keys.length c1, .slice A2 x.vals.length c2, .slice A3 x.kids.length c3]) Try.underlying108 rfl ti108 rfl rfl (hcN.mono (Sub.refl _) (fun q hq => by simp at hq))) ?_
    refine VL_eff rfl (E_alloc rfl tz108) ?_
    rintro _ _ _ ⟨b5, hb5, rfl, rfl, rfl⟩
    refine VL_eff rfl (E_store ti108 rfl rfl rfl rfl rfl (by repeat (first | exact Has.here | apply Has.there)) (by repeat (first | exact PutR.nil | exact SetL.here | apply SetL.there | apply PutR.cons)) (by repeat (first | exact UpdG.here | apply UpdG.there))) ?_
    rintro _ _ _ ⟨rfl, rfl, rfl⟩
    refine VL_nil ?_
    refine VQ_then ?_
    refine V_drawX _ [[(b5, .cells (List.toArray [.slice A1 x.keys.length c1, .slice A2 x.vals.length c2, .slice A3 x.kids.length c3]) 108 (0, 0))]] 54066 2184 818 8 Try.mixed (by kernel_rfl) (Sub.refl _) (by repeat (first | exact SubB.nil | exact Pick.here | apply Pick.there | apply SubB.emp | apply SubB.cons)) [0, 1, 2, 3, 4, 5, 6, 7, 8, 9, 10, 11, 12, 13, 14, 15, 16] rfl ?_
    refine VB_join (ι := Nat × Nat × Nat × Value × Gr × Value × Gr × Value × Gr) (fun (b14, b18, b22, v17, G17, v21, G21, v25, G25) => BK v17 x.keys G17 ∧ BV v21 x.vals G21 ∧ BI v25 x.kids G25 ∧ True) (fun (b14, b18, b22, v17, G17, v21, G21, v25, G25) => [(3, v), (5, ptr b5), (7, (.slice (some ⟨bN, offN, none⟩) L.length cap0)), (8, .int .i64 L.length), (9, .int .i64 i), (17, v17), (21, v21), (25, v25)]) (fun (b14, b18, b22, v17, G17, v21, G21, v25, G25) => [G, [(b5, .cells (List.toArray [.slice A1 x.keys.length c1, .slice A2 x.vals.length c2, .slice A3 x.kids.length c3]) 108 (0, 0))], G17, G21, G25]) false 2 [0, 13, 14, 15, 16] (fun ⟨b14, b18, b22, v17, G17, v21, G21, v25, G25⟩ hp => ?_) (fun kj_1_4_5_8_9_12 => ?_)
    · skip
      dsimp only at hp ⊢
      obtain ⟨hB17, hB21, hB25, _⟩ := hp
      refine VB_pick1 (j := 14) (p := [13, 14]) (r := [0, 15, 16]) rfl (by kernel_rfl) (by kernel_rfl) (by kernel_rfl) ?_
      obtain ⟨A17, c17, rfl, _, _⟩ := Buf.form hB17
      obtain ⟨A21, c21, rfl, _, _⟩ := Buf.form hB21
      obtain ⟨A25, c25, rfl, _, _⟩ := Buf.form hB25
      refine VX_pure rfl rfl rfl rfl rfl rfl (S_struct Try.underlying108 to108 tz108 rfl (by repeat (first | exact BuildR.nil | exact PutR.nil | exact SetL.here | apply SetL.there | apply PutR.cons | apply BuildR.cons rfl (by first | exact ti71 | exact ti88 | exact ti89) rfl rfl rfl))) ?_
      refine VX_effT rfl rfl rfl rfl rfl (E_bs1 rfl Try.underlying41 ti108 rfl rfl rfl rfl rfl rfl) ?_
      rintro _ _ _ ⟨b27, hb27, rfl, rfl, rfl⟩
      refine VX_more ?_
      refine VB_pick1 (j := 15) (p := [0, 15]) (r := [16]) rfl (by kernel_rfl) (by kernel_rfl) (by kernel_rfl) ?_
      refine VX_pure rfl rfl rfl rfl rfl rfl (S_move rfl) ?_
      refine VX_effT rfl rfl rfl rfl rfl (X_append rfl Try.underlying41 Try.underlying41 rfl tx108 rfl rfl rfl rfl hB (by repeat (first | exact Pick.here | apply Pick.there)) (Buf.reads (G := [(b27, .cells (List.toArray [.slice A17 x.keys.length c17, .slice A21 x.vals.length c21, .slice A25 x.kids.length c25]) 108 (0, 0))]) (Buf.lit (n := 1) (by rfl) (by omega)) (fun q hq => by simp at hq ⊢; try simp [hq])) rfl (by omega)) ?_
      rintro _ _ _ ⟨v28, G28, hB28, rfl, rfl, rfl⟩
      replace hB28 : BN v28 (cs ++ [((A17, x.keys.length, c17), (A21, x.vals.length, c21), (A25, x.kids.length, c25))]) G28 := Buf.snoc (enc := tri) hB28
      refine VX_more ?_
      refine VB_end rfl ?_
      refine VX_pure rfl rfl rfl rfl rfl rfl (S_assign rfl) ?_
      refine VX_nil ?_
      refine VQ_block_normal ?_
      refine VQ_then ?_
      refine V_keeps (blA := [G17, G21, G25]) (by repeat (first | exact Split.nil | exact Pick.here | apply Pick.there | apply Split.cons)) (fun h1 sh1 kh1 => ?_)
      obtain ⟨q1, q2, q3, _⟩ := kh1
      refine V_region ?_
      first | refine VL_still rfl rfl rfl (S_addi rfl rfl (by omega) (by omega)) ?_ | refine VL_still rfl rfl rfl (S_add rfl rfl) ?_
      refine VL_still rfl rfl rfl (S_move rfl) ?_
      refine VL_nil ?_
      refine VQ_mid (i + 1, h1, v28, G28, cs ++ [((A17, x.keys.length, c17), (A21, x.vals.length, c21), (A25, x.kids.length, c25))]) ⟨⟨by dsimp only; omega, hs1.trans sh1, hB28, ?_⟩, by simp only; omega⟩ (by repeat (first | exact trivial | refine ⟨rfl, ?_⟩)) rfl (by repeat (first | exact SubB.nil | exact Pick.here | apply Pick.there | apply SubB.emp | apply SubB.cons))
      rw [hsn]
      exact (hA.mono fun _ _ r => NdR.sub sh1 r).app (.cons ⟨hB17.known q1, hB21.known q2, hB25.known q3⟩ .nil)
    refine VB_join (ι := Nat × Nat × Nat × Value × Gr × Value × Gr × Value × Gr) (fun (b14, b18, b22, v17, G17, v21, G21, v25, G25) => BK v17 x.keys G17 ∧ BV v21 x.vals G21 ∧ True) (fun (b14, b18, b22, v17, G17, v21, G21, v25, G25) => [(3, v), (5, ptr b5), (7, (.slice (some ⟨bN, offN, none⟩) L.length cap0)), (8, .int .i64 L.length), (9, .int .i64 i), (17, v17), (21, v21), (22, .slice (some ⟨b22, 0, none⟩) 0 0)]) (fun (b14, b18, b22, v17, G17, v21, G21, v25, G25) => [G, [(b5, .cells (List.toArray [.slice A1 x.keys.length c1, .slice A2 x.vals.length c2, .slice A3 x.kids.length c3]) 108 (0, 0))], G17, G21, [(b22, .cells (List.toArray []) 3 (0, 0))]]) true 3 [0, 10, 11, 12, 13, 14, 15, 16] (fun ⟨b14, b18, b22, v17, G17, v21, G21, v25, G25⟩ hp => ?_) (fun kj_1_4_5_8_9 => ?_)
    · skip
      dsimp only at hp ⊢
      obtain ⟨hB17, hB21, _⟩ := hp
      refine VB_pick1 (j := 12) (p := [10, 11, 12]) (r := [0, 13, 14, 15, 16]) rfl (by kernel_rfl) (by kernel_rfl) (by kernel_rfl) ?_
      refine VX_pure rfl rfl rfl rfl rfl rfl (S_field (k := 2) Try.underlying108 rfl rfl ti71 rfl rfl) ?_
      first | refine VX_still rfl rfl rfl rfl rfl rfl (S_load Try.underlying71 rfl rfl (Cell.trk (by repeat (first | exact Has.here | apply Has.there)) rfl)) ?_ | refine VX_still rfl rfl rfl rfl rfl rfl (S_load Try.underlying71 rfl rfl (Cell.known (by first | assumption | exact (by assumption : Sub _ _) _ _ (by assumption) | exact (Sub.trans (by assumption) (by assumption)) _ _ (by assumption)) rfl)) ?_
      refine VX_effT rfl rfl rfl rfl rfl (X_append rfl Try.underlying71 Try.underlying71 rfl tx3 rfl rfl rfl rfl (Buf.lit (n := 0) (cs := []) rfl (by omega)) (by repeat (first | exact Pick.here | apply Pick.there)) (SlR.mono hc (Sub.refl _) (fun q hq => by simp at hq)) (icE.flat_one _) (by omega)) ?_
      rintro _ _ _ ⟨v25, G25, hB25, rfl, rfl, rfl⟩
      rw [Nat.zero_add, List.nil_append] at hB25
      exact VX_more (VB_weak (by repeat (first | exact trivial | refine ⟨rfl, ?_⟩)) (by repeat (first | exact SubB.nil | exact Pick.here | apply Pick.there | apply SubB.emp | apply SubB.cons)) (kj_1_4_5_8_9_12 (b14, b18, b22, v17, G17, v21, G21, v25, G25) ⟨hB17, hB21, hB25, trivial⟩))
    refine VB_join (ι := Nat × Nat × Nat × Value × Gr × Value × Gr × Value × Gr) (fun (b14, b18, b22, v17, G17, v21, G21, v25, G25) => BK v17 x.keys G17 ∧ BV v21 x.vals G21 ∧ True) (fun (b14, b18, b22, v17, G17, v21, G21, v25, G25) => [(3, v), (5, ptr b5), (7, (.slice (some ⟨bN, offN, none⟩) L.length cap0)), (8, .int .i64 L.length), (9, .int .i64 i), (17, v17), (21, v21)]) (fun (b14, b18, b22, v17, G17, v21, G21, v25, G25) => [G, [(b5, .cells (List.toArray [.slice A1 x.keys.length c1, .slice A2 x.vals.length c2, .slice A3 x.kids.length c3]) 108 (0, 0))], G17, G21]) true 4 [0, 9, 10, 11, 12, 13, 14, 15, 16] (fun ⟨b14, b18, b22, v17, G17, v21, G21, v25, G25⟩ hp => ?_) (fun kj_1_4_5_8 => ?_)
    · skip
      dsimp only at hp ⊢
      obtain ⟨hB17, hB21, _⟩ := hp
      refine VB_pick1 (j := 9) (p := [9]) (r := [0, 10, 11, 12, 13, 14, 15, 16]) rfl (by kernel_rfl) (by kernel_rfl) (by kernel_rfl) ?_
      refine VX_eff rfl rfl rfl rfl rfl (E_bs0 rfl Try.underlying71 ti3) ?_
      rintro _ _ _ ⟨b22, hb22, rfl, rfl, rfl⟩
      refine ⟨⟨(by first | exact Sub.refl _ | (first | assumption | (refine Sub.trans (by assumption) ?_; first | assumption | (refine Sub.trans (by assumption) ?_; first | assumption | (refine Sub.trans (by assumption) ?_; first | assumption | (refine Sub.trans (by assumption) ?_; first | assumption | (refine Sub.trans (by assumption) ?_; first | assumption | (refine Sub.trans (by assumption) ?_; first | assumption)))))))), (by repeat (first | exact SubB.nil | exact Pick.here | apply Pick.there | apply SubB.emp | apply SubB.cons))⟩, ?_⟩
      exact VX_more (VB_weak (by repeat (first | exact trivial | refine ⟨rfl, ?_⟩)) (by repeat (first | exact SubB.nil | exact Pick.here | apply Pick.there | apply SubB.emp | apply SubB.cons)) (kj_1_4_5_8_9 (b14, b18, b22, v17, G17, v21, G21, v25, G25) ⟨hB17, hB21, trivial⟩))
    refine VB_join (ι := Nat × Nat × Nat × Value × Gr × Value × Gr × Value × Gr) (fun (b14, b18, b22, v17, G17, v21, G21, v25, G25) => BK v17 x.keys G17 ∧ True) (fun (b14, b18, b22, v17, G17, v21, G21, v25, G25) => [(3, v), (5, ptr b5), (7, (.slice (some ⟨bN, offN, none⟩) L.length cap0)), (8, .int .i64 L.length), (9, .int .i64 i), (17, v17), (18, .slice (some ⟨b18, 0, none⟩) 0 0), (22, .slice (some ⟨b22, 0, none⟩) 0 0)]) (fun (b14, b18, b22, v17, G17, v21, G21, v25, G25) => [G, [(b5, .cells (List.toArray [.slice A1 x.keys.length c1, .slice A2 x.vals.length c2, .slice A3 x.kids.length c3]) 108 (0, 0))], G17, [(b18, .cells (List.toArray []) 34 (0, 0))], [(b22, .cells (List.toArray []) 3 (0, 0))]]) true 4 [0, 6, 7, 8, 10, 11, 12, 13, 14, 15, 16] (fun ⟨b14, b18, b22, v17, G17, v21, G21, v25, G25⟩ hp => ?_) (fun kj_1_4_5_9 => ?_)
    · skip
      dsimp only at hp ⊢
      obtain ⟨hB17, _⟩ := hp
      refine VB_pick1 (j := 8) (p := [6, 7, 8]) (r := [0, 10, 11, 12, 13, 14, 15, 16]) rfl (by kernel_rfl) (by kernel_rfl) (by kernel_rfl) ?_
      refine VX_pure rfl rfl rfl rfl rfl rfl (S_field (k := 1) Try.underlying108 rfl rfl ti89 rfl rfl) ?_
      first | refine VX_still rfl rfl rfl rfl rfl rfl (S_load Try.underlying89 rfl rfl (Cell.trk (by repeat (first | exact Has.here | apply Has.there)) rfl)) ?_ | refine VX_still rfl rfl rfl rfl rfl rfl (S_load Try.underlying89 rfl rfl (Cell.known (by first | assumption | exact (by assumption : Sub _ _) _ _ (by assumption) | exact (Sub.trans (by assumption) (by assumption)) _ _ (by assumption)) rfl)) ?_
      refine VX_eff rfl rfl rfl rfl rfl (X_append rfl Try.underlying89 Try.underlying89 rfl tx34 rfl rfl rfl rfl (Buf.lit (n := 0) (cs := []) rfl (by omega)) (by repeat (first | exact Pick.here | apply Pick.there)) (SlR.mono hv (Sub.refl _) (fun q hq => by simp at hq)) (xcE.flat_one _) (by omega)) ?_
      rintro _ _ _ ⟨v21, G21, hB21, rfl, rfl, rfl⟩
      rw [Nat.zero_add, List.nil_append] at hB21
      refine ⟨⟨(by first | exact Sub.refl _ | (first | assumption | (refine Sub.trans (by assumption) ?_; first | assumption | (refine Sub.trans (by assumption) ?_; first | assumption | (refine Sub.trans (by assumption) ?_; first | assumption | (refine Sub.trans (by assumption) ?_; first | assumption | (refine Sub.trans (by assumption) ?_; first | assumption | (refine Sub.trans (by assumption) ?_; first | assumption)))))))), (by repeat (first | exact SubB.nil | exact Pick.here | apply Pick.there | apply SubB.emp | apply SubB.cons))⟩, ?_⟩
      exact VX_more (VB_weak (by repeat (first | exact trivial | refine ⟨rfl, ?_⟩)) (by repeat (first | exact SubB.nil | exact Pick.here | apply Pick.there | apply SubB.emp | apply SubB.cons)) (kj_1_4_5_8_9 (b14, b18, b22, v17, G17, v21, G21, v25, G25) ⟨hB17, hB21, trivial⟩))
    refine VB_join (ι := Nat × Nat × Nat × Value × Gr × Value × Gr × Value × Gr) (fun (b14, b18, b22, v17, G17, v21, G21, v25, G25) => BK v17 x.keys G17 ∧ True) (fun (b14, b18, b22, v17, G17, v21, G21, v25, G25) => [(3, v), (5, ptr b5), (7, (.slice (some ⟨bN, offN, none⟩) L.length cap0)), (8, .int .i64 L.length), (9, .int .i64 i), (17, v17), (18, .slice (some ⟨b18, 0, none⟩) 0 0)]) (fun (b14, b18, b22, v17, G17, v21, G21, v25, G25) => [G, [(b5, .cells (List.toArray [.slice A1 x.keys.length c1, .slice A2 x.vals.length c2, .slice A3 x.kids.length c3]) 108 (0, 0))], G17, [(b18, .cells (List.toArray []) 34 (0, 0))]]) true 5 [0, 6, 7, 8, 9, 10, 11, 12, 13, 14, 15, 16] (fun ⟨b14, b18, b22, v17, G17, v21, G21, v25, G25⟩ hp => ?_) (fun kj_1_4_5 => ?_)
    · skip
      dsimp only at hp ⊢
      obtain ⟨hB17, _⟩ := hp
      refine VB_pick2 (j1 := 8) (p1 := [6, 7, 8]) (r1 := [0, 9, 10, 11, 12, 13, 14, 15, 16]) (j2 := 9) (p2 := [9]) (r2 := [0, 6, 7, 8, 10, 11, 12, 13, 14, 15, 16]) rfl (by kernel_rfl) (by kernel_rfl) (by kernel_rfl) (by kernel_rfl) (by kernel_rfl) ?_ ?_
      · skip
        refine VX_pure rfl rfl rfl rfl rfl rfl (S_field (k := 1) Try.underlying108 rfl rfl ti89 rfl rfl) ?_
        first | refine VX_still rfl rfl rfl rfl rfl rfl (S_load Try.underlying89 rfl rfl (Cell.trk (by repeat (first | exact Has.here | apply Has.there)) rfl)) ?_ | refine VX_still rfl rfl rfl rfl rfl rfl (S_load Try.underlying89 rfl rfl (Cell.known (by first | assumption | exact (by assumption : Sub _ _) _ _ (by assumption) | exact (Sub.trans (by assumption) (by assumption)) _ _ (by assumption)) rfl)) ?_
        refine VX_eff rfl rfl rfl rfl rfl (X_append rfl Try.underlying89 Try.underlying89 rfl tx34 rfl rfl rfl rfl (Buf.lit (n := 0) (cs := []) rfl (by omega)) (by repeat (first | exact Pick.here | apply Pick.there)) (SlR.mono hv (Sub.refl _) (fun q hq => by simp at hq)) (xcE.flat_one _) (by omega)) ?_
        rintro _ _ _ ⟨v21, G21, hB21, rfl, rfl, rfl⟩
        rw [Nat.zero_add, List.nil_append] at hB21
        refine ⟨⟨(by first | exact Sub.refl _ | (first | assumption | (refine Sub.trans (by assumption) ?_; first | assumption | (refine Sub.trans (by assumption) ?_; first | assumption | (refine Sub.trans (by assumption) ?_; first | assumption | (refine Sub.trans (by assumption) ?_; first | assumption | (refine Sub.trans (by assumption) ?_; first | assumption | (refine Sub.trans (by assumption) ?_; first | assumption)))))))), (by repeat (first | exact SubB.nil | exact Pick.here | apply Pick.there | apply SubB.emp | apply SubB.cons))⟩, ?_⟩
        exact VX_more (VB_weak (by repeat (first | exact trivial | refine ⟨rfl, ?_⟩)) (by repeat (first | exact SubB.nil | exact Pick.here | apply Pick.there | apply SubB.emp | apply SubB.cons)) (kj_1_4_5_8 (b14, b18, b22, v17, G17, v21, G21, v25, G25) ⟨hB17, hB21, trivial⟩))
      · skip
        refine VX_eff rfl rfl rfl rfl rfl (E_bs0 rfl Try.underlying71 ti3) ?_
        rintro _ _ _ ⟨b22, hb22, rfl, rfl, rfl⟩
        refine ⟨⟨(by first | exact Sub.refl _ | (first | assumption | (refine Sub.trans (by assumption) ?_; first | assumption | (refine Sub.trans (by assumption) ?_; first | assumption | (refine Sub.trans (by assumption) ?_; first | assumption | (refine Sub.trans (by assumption) ?_; first | assumption | (refine Sub.trans (by assumption) ?_; first | assumption | (refine Sub.trans (by assumption) ?_; first | assumption)))))))), (by repeat (first | exact SubB.nil | exact Pick.here | apply Pick.there | apply SubB.emp | apply SubB.cons))⟩, ?_⟩
        exact VX_more (VB_weak (by repeat (first | exact trivial | refine ⟨rfl, ?_⟩)) (by repeat (first | exact SubB.nil | exact Pick.here | apply Pick.there | apply SubB.emp | apply SubB.cons)) (kj_1_4_5_9 (b14, b18, b22, v17, G17, v21, G21, v25, G25) ⟨hB17, trivial⟩))
    refine VB_join (ι := Nat × Nat × Nat × Value × Gr × Value × Gr × Value × Gr) (fun (b14, b18, b22, v17, G17, v21, G21, v25, G25) => BK v17 x.keys G17 ∧ True) (fun (b14, b18, b22, v17, G17, v21, G21, v25, G25) => [(3, v), (5, ptr b5), (7, (.slice (some ⟨bN, offN, none⟩) L.length cap0)), (8, .int .i64 L.length), (9, .int .i64 i), (17, v17), (22, .slice (some ⟨b22, 0, none⟩) 0 0)]) (fun (b14, b18, b22, v17, G17, v21, G21, v25, G25) => [G, [(b5, .cells (List.toArray [.slice A1 x.keys.length c1, .slice A2 x.vals.length c2, .slice A3 x.kids.length c3]) 108 (0, 0))], G17, [(b22, .cells (List.toArray []) 3 (0, 0))]]) true 5 [0, 5, 6, 7, 8, 10, 11, 12, 13, 14, 15, 16] (fun ⟨b14, b18, b22, v17, G17, v21, G21, v25, G25⟩ hp => ?_) (fun kj_1_4_9 => ?_)
    · skip
      dsimp only at hp ⊢
      obtain ⟨hB17, _⟩ := hp
      refine VB_pick1 (j := 5) (p := [5]) (r := [0, 6, 7, 8, 10, 11, 12, 13, 14, 15, 16]) rfl (by kernel_rfl) (by kernel_rfl) (by kernel_rfl) ?_
      refine VX_eff rfl rfl rfl rfl rfl (E_bs0 rfl Try.underlying89 ti34) ?_
      rintro _ _ _ ⟨b18, hb18, rfl, rfl, rfl⟩
      refine ⟨⟨(by first | exact Sub.refl _ | (first | assumption | (refine Sub.trans (by assumption) ?_; first | assumption | (refine Sub.trans (by assumption) ?_; first | assumption | (refine Sub.trans (by assumption) ?_; first | assumption | (refine Sub.trans (by assumption) ?_; first | assumption | (refine Sub.trans (by assumption) ?_; first | assumption | (refine Sub.trans (by assumption) ?_; first | assumption)))))))), (by repeat (first | exact SubB.nil | exact Pick.here | apply Pick.there | apply SubB.emp | apply SubB.cons))⟩, ?_⟩
      exact VX_more (VB_weak (by repeat (first | exact trivial | refine ⟨rfl, ?_⟩)) (by repeat (first | exact SubB.nil | exact Pick.here | apply Pick.there | apply SubB.emp | apply SubB.cons)) (kj_1_4_5_9 (b14, b18, b22, v17, G17, v21, G21, v25, G25) ⟨hB17, trivial⟩))
    refine VB_join (ι := Nat × Nat × Nat × Value × Gr × Value × Gr × Value × Gr) (fun (b14, b18, b22, v17, G17, v21, G21, v25, G25) => True) (fun (b14, b18, b22, v17, G17, v21, G21, v25, G25) => [(3, v), (5, ptr b5), (7, (.slice (some ⟨bN, offN, none⟩) L.length cap0)), (8, .int .i64 L.length), (9, .int .i64 i), (14, .slice (some ⟨b14, 0, none⟩) 0 0), (18, .slice (some ⟨b18, 0, none⟩) 0 0), (22, .slice (some ⟨b22, 0, none⟩) 0 0)]) (fun (b14, b18, b22, v17, G17, v21, G21, v25, G25) => [G, [(b5, .cells (List.toArray [.slice A1 x.keys.length c1, .slice A2 x.vals.length c2, .slice A3 x.kids.length c3]) 108 (0, 0))], [(b14, .cells (List.toArray []) 23 (0, 0))], [(b18, .cells (List.toArray []) 34 (0, 0))], [(b22, .cells (List.toArray []) 3 (0, 0))]]) true 5 [0, 2, 3, 4, 6, 7, 8, 10, 11, 12, 13, 14, 15, 16] (fun ⟨b14, b18, b22, v17, G17, v21, G21, v25, G25⟩ hp => ?_) (fun kj_1_5_9 => ?_)
    · skip
      dsimp only at hp ⊢
      refine VB_pick1 (j := 4) (p := [2, 3, 4]) (r := [0, 6, 7, 8, 10, 11, 12, 13, 14, 15, 16]) rfl (by kernel_rfl) (by kernel_rfl) (by kernel_rfl) ?_
      refine VX_pure rfl rfl rfl rfl rfl rfl (S_field (k := 0) Try.underlying108 rfl rfl ti88 rfl rfl) ?_
      first | refine VX_still rfl rfl rfl rfl rfl rfl (S_load Try.underlying88 rfl rfl (Cell.trk (by repeat (first | exact Has.here | apply Has.there)) rfl)) ?_ | refine VX_still rfl rfl rfl rfl rfl rfl (S_load Try.underlying88 rfl rfl (Cell.known (by first | assumption | exact (by assumption : Sub _ _) _ _ (by assumption) | exact (Sub.trans (by assumption) (by assumption)) _ _ (by assumption)) rfl)) ?_
      refine VX_eff rfl rfl rfl rfl rfl (X_append rfl Try.underlying88 Try.underlying88 rfl tx23 rfl rfl rfl rfl (Buf.lit (n := 0) (cs := []) rfl (by omega)) (by repeat (first | exact Pick.here | apply Pick.there)) (SlR.mono hk (Sub.refl _) (fun q hq => by simp at hq)) (kcE.flat_one _) (by omega)) ?_
      rintro _ _ _ ⟨v17, G17, hB17, rfl, rfl, rfl⟩
      rw [Nat.zero_add, List.nil_append] at hB17
      refine ⟨⟨(by first | exact Sub.refl _ | (first | assumption | (refine Sub.trans (by assumption) ?_; first | assumption | (refine Sub.trans (by assumption) ?_; first | assumption | (refine Sub.trans (by assumption) ?_; first | assumption | (refine Sub.trans (by assumption) ?_; first | assumption | (refine Sub.trans (by assumption) ?_; first | assumption | (refine Sub.trans (by assumption) ?_; first | assumption)))))))), (by repeat (first | exact SubB.nil | exact Pick.here | apply Pick.there | apply SubB.emp | apply SubB.cons))⟩, ?_⟩
      exact VX_more (VB_weak (by repeat (first | exact trivial | refine ⟨rfl, ?_⟩)) (by repeat (first | exact SubB.nil | exact Pick.here | apply Pick.there | apply SubB.emp | apply SubB.cons)) (kj_1_4_5_9 (b14, b18, b22, v17, G17, v21, G21, v25, G25) ⟨hB17, trivial⟩))
    refine VB_join (ι := Nat × Nat × Nat × Value × Gr × Value × Gr × Value × Gr) (fun (b14, b18, b22, v17, G17, v21, G21, v25, G25) => BK v17 x.keys G17 ∧ True) (fun (b14, b18, b22, v17, G17, v21, G21, v25, G25) => [(3, v), (5, ptr b5), (7, (.slice (some ⟨bN, offN, none⟩) L.length cap0)), (8, .int .i64 L.length), (9, .int .i64 i), (17, v17)]) (fun (b14, b18, b22, v17, G17, v21, G21, v25, G25) => [G, [(b5, .cells (List.toArray [.slice A1 x.keys.length c1, .slice A2 x.vals.length c2, .slice A3 x.kids.length c3]) 108 (0, 0))], G17]) true 6 [0, 5, 6, 7, 8, 9, 10, 11, 12, 13, 14, 15, 16] (fun ⟨b14, b18, b22, v17, G17, v21, G21, v25, G25⟩ hp => ?_) (fun kj_1_4 => ?_)
    · skip
      dsimp only at hp ⊢
      obtain ⟨hB17, _⟩ := hp
      refine VB_pick2 (j1 := 5) (p1 := [5]) (r1 := [0, 6, 7, 8, 9, 10, 11, 12, 13, 14, 15, 16]) (j2 := 9) (p2 := [9]) (r2 := [0, 5, 6, 7, 8, 10, 11, 12, 13, 14, 15, 16]) rfl (by kernel_rfl) (by kernel_rfl) (by kernel_rfl) (by kernel_rfl) (by kernel_rfl) ?_ ?_
      · skip
        refine VX_eff rfl rfl rfl rfl rfl (E_bs0 rfl Try.underlying89 ti34) ?_
        rintro _ _ _ ⟨b18, hb18, rfl, rfl, rfl⟩
        refine ⟨⟨(by first | exact Sub.refl _ | (first | assumption | (refine Sub.trans (by assumption) ?_; first | assumption | (refine Sub.trans (by assumption) ?_; first | assumption | (refine Sub.trans (by assumption) ?_; first | assumption | (refine Sub.trans (by assumption) ?_; first | assumption | (refine Sub.trans (by assumption) ?_; first | assumption | (refine Sub.trans (by assumption) ?_; first | assumption)))))))), (by repeat (first | exact SubB.nil | exact Pick.here | apply Pick.there | apply SubB.emp | apply SubB.cons))⟩, ?_⟩
        exact VX_more (VB_weak (by repeat (first | exact trivial | refine ⟨rfl, ?_⟩)) (by repeat (first | exact SubB.nil | exact Pick.here | apply Pick.there | apply SubB.emp | apply SubB.cons)) (kj_1_4_5 (b14, b18, b22, v17, G17, v21, G21, v25, G25) ⟨hB17, trivial⟩))
      · skip
        refine VX_eff rfl rfl rfl rfl rfl (E_bs0 rfl Try.underlying71 ti3) ?_
        rintro _ _ _ ⟨b22, hb22, rfl, rfl, rfl⟩
        refine ⟨⟨(by first | exact Sub.refl _ | (first | assumption | (refine Sub.trans (by assumption) ?_; first | assumption | (refine Sub.trans (by assumption) ?_; first | assumption | (refine Sub.trans (by assumption) ?_; first | assumption | (refine Sub.trans (by assumption) ?_; first | assumption | (refine Sub.trans (by assumption) ?_; first | assumption | (refine Sub.trans (by assumption) ?_; first | assumption)))))))), (by repeat (first | exact SubB.nil | exact Pick.here | apply Pick.there | apply SubB.emp | apply SubB.cons))⟩, ?_⟩
        exact VX_more (VB_weak (by repeat (first | exact trivial | refine ⟨rfl, ?_⟩)) (by repeat (first | exact SubB.nil | exact Pick.here | apply Pick.there | apply SubB.emp | apply SubB.cons)) (kj_1_4_9 (b14, b18, b22, v17, G17, v21, G21, v25, G25) ⟨hB17, trivial⟩))
    refine VB_join (ι := Nat × Nat × Nat × Value × Gr × Value × Gr × Value × Gr) (fun (b14, b18, b22, v17, G17, v21, G21, v25, G25) => True) (fun (b14, b18, b22, v17, G17, v21, G21, v25, G25) => [(3, v), (5, ptr b5), (7, (.slice (some ⟨bN, offN, none⟩) L.length cap0)), (8, .int .i64 L.length), (9, .int .i64 i), (14, .slice (some ⟨b14, 0, none⟩) 0 0), (18, .slice (some ⟨b18, 0, none⟩) 0 0)]) (fun (b14, b18, b22, v17, G17, v21, G21, v25, G25) => [G, [(b5, .cells (List.toArray [.slice A1 x.keys.length c1, .slice A2 x.vals.length c2, .slice A3 x.kids.length c3]) 108 (0, 0))], [(b14, .cells (List.toArray []) 23 (0, 0))], [(b18, .cells (List.toArray []) 34 (0, 0))]]) true 6 [0, 2, 3, 4, 6, 7, 8, 9, 10, 11, 12, 13, 14, 15, 16] (fun ⟨b14, b18, b22, v17, G17, v21, G21, v25, G25⟩ hp => ?_) (fun kj_1_5 => ?_)
    · skip
      dsimp only at hp ⊢
      refine VB_pick2 (j1 := 4) (p1 := [2, 3, 4]) (r1 := [0, 6, 7, 8, 9, 10, 11, 12, 13, 14, 15, 16]) (j2 := 9) (p2 := [9]) (r2 := [0, 2, 3, 4, 6, 7, 8, 10, 11, 12, 13, 14, 15, 16]) rfl (by kernel_rfl) (by kernel_rfl) (by kernel_rfl) (by kernel_rfl) (by kernel_rfl) ?_ ?_
      · skip
        refine VX_pure rfl rfl rfl rfl rfl rfl (S_field (k := 0) Try.underlying108 rfl rfl ti88 rfl rfl) ?_
        first | refine VX_still rfl rfl rfl rfl rfl rfl (S_load Try.underlying88 rfl rfl (Cell.trk (by repeat (first | exact Has.here | apply Has.there)) rfl)) ?_ | refine VX_still rfl rfl rfl rfl rfl rfl (S_load Try.underlying88 rfl rfl (Cell.known (by first | assumption | exact (by assumption : Sub _ _) _ _ (by assumption) | exact (Sub.trans (by assumption) (by assumption)) _ _ (by assumption)) rfl)) ?_
        refine VX_eff rfl rfl rfl rfl rfl (X_append rfl Try.underlying88 Try.underlying88 rfl tx23 rfl rfl rfl rfl (Buf.lit (n := 0) (cs := []) rfl (by omega)) (by repeat (first | exact Pick.here | apply Pick.there)) (SlR.mono hk (Sub.refl _) (fun q hq => by simp at hq)) (kcE.flat_one _) (by omega)) ?_
        rintro _ _ _ ⟨v17, G17, hB17, rfl, rfl, rfl⟩
        rw [Nat.zero_add, List.nil_append] at hB17
        refine ⟨⟨(by first | exact Sub.refl _ | (first | assumption | (refine Sub.trans (by assumption) ?_; first | assumption | (refine Sub.trans (by assumption) ?_; first | assumption | (refine Sub.trans (by assumption) ?_; first | assumption | (refine Sub.trans (by assumption) ?_; first | assumption | (refine Sub.trans (by assumption) ?_; first | assumption | (refine Sub.trans (by assumption) ?_; first | assumption)))))))), (by repeat (first | exact SubB.nil | exact Pick.here | apply Pick.there | apply SubB.emp | apply SubB.cons))⟩, ?_⟩
        exact VX_more (VB_weak (by repeat (first | exact trivial | refine ⟨rfl, ?_⟩)) (by repeat (first | exact SubB.nil | exact Pick.here | apply Pick.there | apply SubB.emp | apply SubB.cons)) (kj_1_4_5 (b14, b18, b22, v17, G17, v21, G21, v25, G25) ⟨hB17, trivial⟩))
      · skip
        refine VX_eff rfl rfl rfl rfl rfl (E_bs0 rfl Try.underlying71 ti3) ?_
        rintro _ _ _ ⟨b22, hb22, rfl, rfl, rfl⟩
        refine ⟨⟨(by first | exact Sub.refl _ | (first | assumption | (refine Sub.trans (by assumption) ?_; first | assumption | (refine Sub.trans (by assumption) ?_; first | assumption | (refine Sub.trans (by assumption) ?_; first | assumption | (refine Sub.trans (by assumption) ?_; first | assumption | (refine Sub.trans (by assumption) ?_; first | assumption | (refine Sub.trans (by assumption) ?_; first | assumption)))))))), (by repeat (first | exact SubB.nil | exact Pick.here | apply Pick.there | apply SubB.emp | apply SubB.cons))⟩, ?_⟩
        exact VX_more (VB_weak (by repeat (first | exact trivial | refine ⟨rfl, ?_⟩)) (by repeat (first | exact SubB.nil | exact Pick.here | apply Pick.there | apply SubB.emp | apply SubB.cons)) (kj_1_5_9 (b14, b18, b22, v17, G17, v21, G21, v25, G25) trivial))
    refine VB_join (ι := Nat × Nat × Nat × Value × Gr × Value × Gr × Value × Gr) (fun (b14, b18, b22, v17, G17, v21, G21, v25, G25) => True) (fun (b14, b18, b22, v17, G17, v21, G21, v25, G25) => [(3, v), (5, ptr b5), (7, (.slice (some ⟨bN, offN, none⟩) L.length cap0)), (8, .int .i64 L.length), (9, .int .i64 i), (14, .slice (some ⟨b14, 0, none⟩) 0 0), (22, .slice (some ⟨b22, 0, none⟩) 0 0)]) (fun (b14, b18, b22, v17, G17, v21, G21, v25, G25) => [G, [(b5, .cells (List.toArray [.slice A1 x.keys.length c1, .slice A2 x.vals.length c2, .slice A3 x.kids.length c3]) 108 (0, 0))], [(b14, .cells (List.toArray []) 23 (0, 0))], [(b22, .cells (List.toArray []) 3 (0, 0))]]) true 6 [0, 2, 3, 4, 5, 6, 7, 8, 10, 11, 12, 13, 14, 15, 16] (fun ⟨b14, b18, b22, v17, G17, v21, G21, v25, G25⟩ hp => ?_) (fun kj_1_9 => ?_)
    · skip
      dsimp only at hp ⊢
      refine VB_pick2 (j1 := 4) (p1 := [2, 3, 4]) (r1 := [0, 5, 6, 7, 8, 10, 11, 12, 13, 14, 15, 16]) (j2 := 5) (p2 := [5]) (r2 := [0, 2, 3, 4, 6, 7, 8, 10, 11, 12, 13, 14, 15, 16]) rfl (by kernel_rfl) (by kernel_rfl) (by kernel_rfl) (by kernel_rfl) (by kernel_rfl) ?_ ?_
      · skip
        refine VX_pure rfl rfl rfl rfl rfl rfl (S_field (k := 0) Try.underlying108 rfl rfl ti88 rfl rfl) ?_
        first | refine VX_still rfl rfl rfl rfl rfl rfl (S_load Try.underlying88 rfl rfl (Cell.trk (by repeat (first | exact Has.here | apply Has.there)) rfl)) ?_ | refine VX_still rfl rfl rfl rfl rfl rfl (S_load Try.underlying88 rfl rfl (Cell.known (by first | assumption | exact (by assumption : Sub _ _) _ _ (by assumption) | exact (Sub.trans (by assumption) (by assumption)) _ _ (by assumption)) rfl)) ?_
        refine VX_eff rfl rfl rfl rfl rfl (X_append rfl Try.underlying88 Try.underlying88 rfl tx23 rfl rfl rfl rfl (Buf.lit (n := 0) (cs := []) rfl (by omega)) (by repeat (first | exact Pick.here | apply Pick.there)) (SlR.mono hk (Sub.refl _) (fun q hq => by simp at hq)) (kcE.flat_one _) (by omega)) ?_
        rintro _ _ _ ⟨v17, G17, hB17, rfl, rfl, rfl⟩
        rw [Nat.zero_add, List.nil_append] at hB17
        refine ⟨⟨(by first | exact Sub.refl _ | (first | assumption | (refine Sub.trans (by assumption) ?_; first | assumption | (refine Sub.trans (by assumption) ?_; first | assumption | (refine Sub.trans (by assumption) ?_; first | assumption | (refine Sub.trans (by assumption) ?_; first | assumption | (refine Sub.trans (by assumption) ?_; first | assumption | (refine Sub.trans (by assumption) ?_; first | assumption)))))))), (by repeat (first | exact SubB.nil | exact Pick.here | apply Pick.there | apply SubB.emp | apply SubB.cons))⟩, ?_⟩
        exact VX_more (VB_weak (by repeat (first | exact trivial | refine ⟨rfl, ?_⟩)) (by repeat (first | exact SubB.nil | exact Pick.here | apply Pick.there | apply SubB.emp | apply SubB.cons)) (kj_1_4_9 (b14, b18, b22, v17, G17, v21, G21, v25, G25) ⟨hB17, trivial⟩))
      · skip
        refine VX_eff rfl rfl rfl rfl rfl (E_bs0 rfl Try.underlying89 ti34) ?_
        rintro _ _ _ ⟨b18, hb18, rfl, rfl, rfl⟩
        refine ⟨⟨(by first | exact Sub.refl _ | (first | assumption | (refine Sub.trans (by assumption) ?_; first | assumption | (refine Sub.trans (by assumption) ?_; first | assumption | (refine Sub.trans (by assumption) ?_; first | assumption | (refine Sub.trans (by assumption) ?_; first | assumption | (refine Sub.trans (by assumption) ?_; first | assumption | (refine Sub.trans (by assumption) ?_; first | assumption)))))))), (by repeat (first | exact SubB.nil | exact Pick.here | apply Pick.there | apply SubB.emp | apply SubB.cons))⟩, ?_⟩
        exact VX_more (VB_weak (by repeat (first | exact trivial | refine ⟨rfl, ?_⟩)) (by repeat (first | exact SubB.nil | exact Pick.here | apply Pick.there | apply SubB.emp | apply SubB.cons)) (kj_1_5_9 (b14, b18, b22, v17, G17, v21, G21, v25, G25) trivial))
    refine VB_join (ι := Nat × Nat × Nat × Value × Gr × Value × Gr × Value × Gr) (fun (b14, b18, b22, v17, G17, v21, G21, v25, G25) => True) (fun (b14, b18, b22, v17, G17, v21, G21, v25, G25) => [(3, v), (5, ptr b5), (7, (.slice (some ⟨bN, offN, none⟩) L.length cap0)), (8, .int .i64 L.length), (9, .int .i64 i), (18, .slice (some ⟨b18, 0, none⟩) 0 0), (22, .slice (some ⟨b22, 0, none⟩) 0 0)]) (fun (b14, b18, b22, v17, G17, v21, G21, v25, G25) => [G, [(b5, .cells (List.toArray [.slice A1 x.keys.length c1, .slice A2 x.vals.length c2, .slice A3 x.kids.length c3]) 108 (0, 0))], [(b18, .cells (List.toArray []) 34 (0, 0))], [(b22, .cells (List.toArray []) 3 (0, 0))]]) true 6 [0, 1, 2, 3, 4, 6, 7, 8, 10, 11, 12, 13, 14, 15, 16] (fun ⟨b14, b18, b22, v17, G17, v21, G21, v25, G25⟩ hp => ?_) (fun kj_5_9 => ?_)
    · skip
      dsimp only at hp ⊢
      refine VB_pick1 (j := 1) (p := [1]) (r := [0, 2, 3, 4, 6, 7, 8, 10, 11, 12, 13, 14, 15, 16]) rfl (by kernel_rfl) (by kernel_rfl) (by kernel_rfl) ?_
      refine VX_eff rfl rfl rfl rfl rfl (E_bs0 rfl Try.underlying88 ti23) ?_
      rintro _ _ _ ⟨b14, hb14, rfl, rfl, rfl⟩
      refine ⟨⟨(by first | exact Sub.refl _ | (first | assumption | (refine Sub.trans (by assumption) ?_; first | assumption | (refine Sub.trans (by assumption) ?_; first | assumption | (refine Sub.trans (by assumption) ?_; first | assumption | (refine Sub.trans (by assumption) ?_; first | assumption | (refine Sub.trans (by assumption) ?_; first | assumption | (refine Sub.trans (by assumption) ?_; first | assumption)))))))), (by repeat (first | exact SubB.nil | exact Pick.here | apply Pick.there | apply SubB.emp | apply SubB.cons))⟩, ?_⟩
      exact VX_more (VB_weak (by repeat (first | exact trivial | refine ⟨rfl, ?_⟩)) (by repeat (first | exact SubB.nil | exact Pick.here | apply Pick.there | apply SubB.emp | apply SubB.cons)) (kj_1_5_9 (b14, b18, b22, v17, G17, v21, G21, v25, G25) trivial))
    refine VB_join (ι := Nat × Nat × Nat × Value × Gr × Value × Gr × Value × Gr) (fun (b14, b18, b22, v17, G17, v21, G21, v25, G25) => True) (fun (b14, b18, b22, v17, G17, v21, G21, v25, G25) => [(3, v), (5, ptr b5), (7, (.slice (some ⟨bN, offN, none⟩) L.length cap0)), (8, .int .i64 L.length), (9, .int .i64 i), (14, .slice (some ⟨b14, 0, none⟩) 0 0)]) (fun (b14, b18, b22, v17, G17, v21, G21, v25, G25) => [G, [(b5, .cells (List.toArray [.slice A1 x.keys.length c1, .slice A2 x.vals.length c2, .slice A3 x.kids.length c3]) 108 (0, 0))], [(b14, .cells (List.toArray []) 23 (0, 0))]]) true 7 [0, 2, 3, 4, 5, 6, 7, 8, 9, 10, 11, 12, 13, 14, 15, 16] (fun ⟨b14, b18, b22, v17, G17, v21, G21, v25, G25⟩ hp => ?_) (fun kj_1 => ?_)
    · skip
      dsimp only at hp ⊢
      refine VB_pick3 (j1 := 4) (p1 := [2, 3, 4]) (r1 := [0, 5, 6, 7, 8, 9, 10, 11, 12, 13, 14, 15, 16]) (j2 := 5) (p2 := [5]) (r2 := [0, 2, 3, 4, 6, 7, 8, 9, 10, 11, 12, 13, 14, 15, 16]) (j3 := 9) (p3 := [9]) (r3 := [0, 2, 3, 4, 5, 6, 7, 8, 10, 11, 12, 13, 14, 15, 16]) rfl (by kernel_rfl) (by kernel_rfl) (by kernel_rfl) (by kernel_rfl) (by kernel_rfl) (by kernel_rfl) (by kernel_rfl) ?_ ?_ ?_
      · skip
        refine VX_pure rfl rfl rfl rfl rfl rfl (S_field (k := 0) Try.underlying108 rfl rfl ti88 rfl rfl) ?_
        first | refine VX_still rfl rfl rfl rfl rfl rfl (S_load Try.underlying88 rfl rfl (Cell.trk (by repeat (first | exact Has.here | apply Has.there)) rfl)) ?_ | refine VX_still rfl rfl rfl rfl rfl rfl (S_load Try.underlying88 rfl rfl (Cell.known (by first | assumption | exact (by assumption : Sub _ _) _ _ (by assumption) | exact (Sub.trans (by assumption) (by assumption)) _ _ (by assumption)) rfl)) ?_
        refine VX_eff rfl rfl rfl rfl rfl (X_append rfl Try.underlying88 Try.underlying88 rfl tx23 rfl rfl rfl rfl (Buf.lit (n := 0) (cs := []) rfl (by omega)) (by repeat (first | exact Pick.here | apply Pick.there)) (SlR.mono hk (Sub.refl _) (fun q hq => by simp at hq)) (kcE.flat_one _) (by omega)) ?_
        rintro _ _ _ ⟨v17, G17, hB17, rfl, rfl, rfl⟩
        rw [Nat.zero_add, List.nil_append] at hB17
        refine ⟨⟨(by first | exact Sub.refl _ | (first | assumption | (refine Sub.trans (by assumption) ?_; first | assumption | (refine Sub.trans (by assumption) ?_; first | assumption | (refine Sub.trans (by assumption) ?_; first | assumption | (refine Sub.trans (by assumption) ?_; first | assumption | (refine Sub.trans (by assumption) ?_; first | assumption | (refine Sub.trans (by assumption) ?_; first | assumption)))))))), (by repeat (first | exact SubB.nil | exact Pick.here | apply Pick.there | apply SubB.emp | apply SubB.cons))⟩, ?_⟩
        exact VX_more (VB_weak (by repeat (first | exact trivial | refine ⟨rfl, ?_⟩)) (by repeat (first | exact SubB.nil | exact Pick.here | apply Pick.there | apply SubB.emp | apply SubB.cons)) (kj_1_4 (b14, b18, b22, v17, G17, v21, G21, v25, G25) ⟨hB17, trivial⟩))
      · skip
        refine VX_eff rfl rfl rfl rfl rfl (E_bs0 rfl Try.underlying89 ti34) ?_
        rintro _ _ _ ⟨b18, hb18, rfl, rfl, rfl⟩
        refine ⟨⟨(by first | exact Sub.refl _ | (first | assumption | (refine Sub.trans (by assumption) ?_; first | assumption | (refine Sub.trans (by assumption) ?_; first | assumption | (refine Sub.trans (by assumption) ?_; first | assumption | (refine Sub.trans (by assumption) ?_; first | assumption | (refine Sub.trans (by assumption) ?_; first | assumption | (refine Sub.trans (by assumption) ?_; first | assumption)))))))), (by repeat (first | exact SubB.nil | exact Pick.here | apply Pick.there | apply SubB.emp | apply SubB.cons))⟩, ?_⟩
        exact VX_more (VB_weak (by repeat (first | exact trivial | refine ⟨rfl, ?_⟩)) (by repeat (first | exact SubB.nil | exact Pick.here | apply Pick.there | apply SubB.emp | apply SubB.cons)) (kj_1_5 (b14, b18, b22, v17, G17, v21, G21, v25, G25) trivial))
      · skip
        refine VX_eff rfl rfl rfl rfl rfl (E_bs0 rfl Try.underlying71 ti3) ?_
        rintro _ _ _ ⟨b22, hb22, rfl, rfl, rfl⟩
        refine ⟨⟨(by first | exact Sub.refl _ | (first | assumption | (refine Sub.trans (by assumption) ?_; first | assumption | (refine Sub.trans (by assumption) ?_; first | assumption | (refine Sub.trans (by assumption) ?_; first | assumption | (refine Sub.trans (by assumption) ?_; first | assumption | (refine Sub.trans (by assumption) ?_; first | assumption | (refine Sub.trans (by assumption) ?_; first | assumption)))))))), (by repeat (first | exact SubB.nil | exact Pick.here | apply Pick.there | apply SubB.emp | apply SubB.cons))⟩, ?_⟩
        exact VX_more (VB_weak (by repeat (first | exact trivial | refine ⟨rfl, ?_⟩)) (by repeat (first | exact SubB.nil | exact Pick.here | apply Pick.there | apply SubB.emp | apply SubB.cons)) (kj_1_9 (b14, b18, b22, v17, G17, v21, G21, v25, G25) trivial))
    refine VB_join (ι := Nat × Nat × Nat × Value × Gr × Value × Gr × Value × Gr) (fun (b14, b18, b22, v17, G17, v21, G21, v25, G25) => True) (fun (b14, b18, b22, v17, G17, v21, G21, v25, G25) => [(3, v), (5, ptr b5), (7, (.slice (some ⟨bN, offN, none⟩) L.length cap0)), (8, .int .i64 L.length), (9, .int .i64 i), (18, .slice (some ⟨b18, 0, none⟩) 0 0)]) (fun (b14, b18, b22, v17, G17, v21, G21, v25, G25) => [G, [(b5, .cells (List.toArray [.slice A1 x.keys.length c1, .slice A2 x.vals.length c2, .slice A3 x.kids.length c3]) 108 (0, 0))], [(b18, .cells (List.toArray []) 34 (0, 0))]]) true 7 [0, 1, 2, 3, 4, 6, 7, 8, 9, 10, 11, 12, 13, 14, 15, 16] (fun ⟨b14, b18, b22, v17, G17, v21, G21, v25, G25⟩ hp => ?_) (fun kj_5 => ?_)
    · skip
      dsimp only at hp ⊢
      refine VB_pick2 (j1 := 1) (p1 := [1]) (r1 := [0, 2, 3, 4, 6, 7, 8, 9, 10, 11, 12, 13, 14, 15, 16]) (j2 := 9) (p2 := [9]) (r2 := [0, 1, 2, 3, 4, 6, 7, 8, 10, 11, 12, 13, 14, 15, 16]) rfl (by kernel_rfl) (by kernel_rfl) (by kernel_rfl) (by kernel_rfl) (by kernel_rfl) ?_ ?_
      · skip
        refine VX_eff rfl rfl rfl rfl rfl (E_bs0 rfl Try.underlying88 ti23) ?_
        rintro _ _ _ ⟨b14, hb14, rfl, rfl, rfl⟩
        refine ⟨⟨(by first | exact Sub.refl _ | (first | assumption | (refine Sub.trans (by assumption) ?_; first | assumption | (refine Sub.trans (by assumption) ?_; first | assumption | (refine Sub.trans (by assumption) ?_; first | assumption | (refine Sub.trans (by assumption) ?_; first | assumption | (refine Sub.trans (by assumption) ?_; first | assumption | (refine Sub.trans (by assumption) ?_; first | assumption)))))))), (by repeat (first | exact SubB.nil | exact Pick.here | apply Pick.there | apply SubB.emp | apply SubB.cons))⟩, ?_⟩
        exact VX_more (VB_weak (by repeat (first | exact trivial | refine ⟨rfl, ?_⟩)) (by repeat (first | exact SubB.nil | exact Pick.here | apply Pick.there | apply SubB.emp | apply SubB.cons)) (kj_1_5 (b14, b18, b22, v17, G17, v21, G21, v25, G25) trivial))
      · skip
        refine VX_eff rfl rfl rfl rfl rfl (E_bs0 rfl Try.underlying71 ti3) ?_
        rintro _ _ _ ⟨b22, hb22, rfl, rfl, rfl⟩
        refine ⟨⟨(by first | exact Sub.refl _ | (first | assumption | (refine Sub.trans (by assumption) ?_; first | assumption | (refine Sub.trans (by assumption) ?_; first | assumption | (refine Sub.trans (by assumption) ?_; first | assumption | (refine Sub.trans (by assumption) ?_; first | assumption | (refine Sub.trans (by assumption) ?_; first | assumption | (refine Sub.trans (by assumption) ?_; first | assumption)))))))), (by repeat (first | exact SubB.nil | exact Pick.here | apply Pick.there | apply SubB.emp | apply SubB.cons))⟩, ?_⟩
        exact VX_more (VB_weak (by repeat (first | exact trivial | refine ⟨rfl, ?_⟩)) (by repeat (first | exact SubB.nil | exact Pick.here | apply Pick.there | apply SubB.emp | apply SubB.cons)) (kj_5_9 (b14, b18, b22, v17, G17, v21, G21, v25, G25) trivial))
    refine VB_join (ι := Nat × Nat × Nat × Value × Gr × Value × Gr × Value × Gr) (fun (b14, b18, b22, v17, G17, v21, G21, v25, G25) => True) (fun (b14, b18, b22, v17, G17, v21, G21, v25, G25) => [(3, v), (5, ptr b5), (7, (.slice (some ⟨bN, offN, none⟩) L.length cap0)), (8, .int .i64 L.length), (9, .int .i64 i), (22, .slice (some ⟨b22, 0, none⟩) 0 0)]) (fun (b14, b18, b22, v17, G17, v21, G21, v25, G25) => [G, [(b5, .cells (List.toArray [.slice A1 x.keys.length c1, .slice A2 x.vals.length c2, .slice A3 x.kids.length c3]) 108 (0, 0))], [(b22, .cells (List.toArray []) 3 (0, 0))]]) true 7 [0, 1, 2, 3, 4, 5, 6, 7, 8, 10, 11, 12, 13, 14, 15, 16] (fun ⟨b14, b18, b22, v17, G17, v21, G21, v25, G25⟩ hp => ?_) (fun kj_9 => ?_)
    · skip
      dsimp only at hp ⊢
      refine VB_pick2 (j1 := 1) (p1 := [1]) (r1 := [0, 2, 3, 4, 5, 6, 7, 8, 10, 11, 12, 13, 14, 15, 16]) (j2 := 5) (p2 := [5]) (r2 := [0, 1, 2, 3, 4, 6, 7, 8, 10, 11, 12, 13, 14, 15, 16]) rfl (by kernel_rfl) (by kernel_rfl) (by kernel_rfl) (by kernel_rfl) (by kernel_rfl) ?_ ?_
      · skip
        refine VX_eff rfl rfl rfl rfl rfl (E_bs0 rfl Try.underlying88 ti23) ?_
        rintro _ _ _ ⟨b14, hb14, rfl, rfl, rfl⟩
        refine ⟨⟨(by first | exact Sub.refl _ | (first | assumption | (refine Sub.trans (by assumption) ?_; first | assumption | (refine Sub.trans (by assumption) ?_; first | assumption | (refine Sub.trans (by assumption) ?_; first | assumption | (refine Sub.trans (by assumption) ?_; first | assumption | (refine Sub.trans (by assumption) ?_; first | assumption | (refine Sub.trans (by assumption) ?_; first | assumption)))))))), (by repeat (first | exact SubB.nil | exact Pick.here | apply Pick.there | apply SubB.emp | apply SubB.cons))⟩, ?_⟩
        exact VX_more (VB_weak (by repeat (first | exact trivial | refine ⟨rfl, ?_⟩)) (by repeat (first | exact SubB.nil | exact Pick.here | apply Pick.there | apply SubB.emp | apply SubB.cons)) (kj_1_9 (b14, b18, b22, v17, G17, v21, G21, v25, G25) trivial))
      · skip
        refine VX_eff rfl rfl rfl rfl rfl (E_bs0 rfl Try.underlying89 ti34) ?_
        rintro _ _ _ ⟨b18, hb18, rfl, rfl, rfl⟩
        refine ⟨⟨(by first | exact Sub.refl _ | (first | assumption | (refine Sub.trans (by assumption) ?_; first | assumption | (refine Sub.trans (by assumption) ?_; first | assumption | (refine Sub.trans (by assumption) ?_; first | assumption | (refine Sub.trans (by assumption) ?_; first | assumption | (refine Sub.trans (by assumption) ?_; first | assumption | (refine Sub.trans (by assumption) ?_; first | assumption)))))))), (by repeat (first | exact SubB.nil | exact Pick.here | apply Pick.there | apply SubB.emp | apply SubB.cons))⟩, ?_⟩
        exact VX_more (VB_weak (by repeat (first | exact trivial | refine ⟨rfl, ?_⟩)) (by repeat (first | exact SubB.nil | exact Pick.here | apply Pick.there | apply SubB.emp | apply SubB.cons)) (kj_5_9 (b14, b18, b22, v17, G17, v21, G21, v25, G25) trivial))
    obtain ⟨b14, b18, b22, v17, G17, v21, G21, v25, G25⟩ : Nat × Nat × Nat × Value × Gr × Value × Gr × Value × Gr := (0, 0, 0, .slice none 0 0, [], .slice none 0 0, [], .slice none 0 0, [])
    refine VB_pick3 (j1 := 1) (p1 := [1]) (r1 := [0, 2, 3, 4, 5, 6, 7, 8, 9, 10, 11, 12, 13, 14, 15, 16]) (j2 := 5) (p2 := [5]) (r2 := [0, 1, 2, 3, 4, 6, 7, 8, 9, 10, 11, 12, 13, 14, 15, 16]) (j3 := 9) (p3 := [9]) (r3 := [0, 1, 2, 3, 4, 5, 6, 7, 8, 10, 11, 12, 13, 14, 15, 16]) rfl (by kernel_rfl) (by kernel_rfl) (by kernel_rfl) (by kernel_rfl) (by kernel_rfl) (by kernel_rfl) (by kernel_rfl) ?_ ?_ ?_
    · skip
      refine VX_eff rfl rfl rfl rfl rfl (E_bs0 rfl Try.underlying88 ti23) ?_
      rintro _ _ _ ⟨b14, hb14, rfl, rfl, rfl⟩
      refine ⟨⟨(by first | exact Sub.refl _ | (first | assumption | (refine Sub.trans (by assumption) ?_; first | assumption | (refine Sub.trans (by assumption) ?_; first | assumption | (refine Sub.trans (by assumption) ?_; first | assumption | (refine Sub.trans (by assumption) ?_; first | assumption | (refine Sub.trans (by assumption) ?_; first | assumption | (refine Sub.trans (by assumption) ?_; first | assumption)))))))), (by repeat (first | exact SubB.nil | exact Pick.here | apply Pick.there | apply SubB.emp | apply SubB.cons))⟩, ?_⟩
      exact VX_more (VB_weak (by repeat (first | exact trivial | refine ⟨rfl, ?_⟩)) (by repeat (first | exact SubB.nil | exact Pick.here | apply Pick.there | apply SubB.emp | apply SubB.cons)) (kj_1 (b14, b18, b22, v17, G17, v21, G21, v25, G25) trivial))
    · skip
      refine VX_eff rfl rfl rfl rfl rfl (E_bs0 rfl Try.underlying89 ti34) ?_
      rintro _ _ _ ⟨b18, hb18, rfl, rfl, rfl⟩
      refine ⟨⟨(by first | exact Sub.refl _ | (first | assumption | (refine Sub.trans (by assumption) ?_; first | assumption | (refine Sub.trans (by assumption) ?_; first | assumption | (refine Sub.trans (by assumption) ?_; first | assumption | (refine Sub.trans (by assumption) ?_; first | assumption | (refine Sub.trans (by assumption) ?_; first | assumption | (refine Sub.trans (by assumption) ?_; first | assumption)))))))), (by repeat (first | exact SubB.nil | exact Pick.here | apply Pick.there | apply SubB.emp | apply SubB.cons))⟩, ?_⟩
      exact VX_more (VB_weak (by repeat (first | exact trivial | refine ⟨rfl, ?_⟩)) (by repeat (first | exact SubB.nil | exact Pick.here | apply Pick.there | apply SubB.emp | apply SubB.cons)) (kj_5 (b14, b18, b22, v17, G17, v21, G21, v25, G25) trivial))
    · skip
      refine VX_eff rfl rfl rfl rfl rfl (E_bs0 rfl Try.underlying71 ti3) ?_
      rintro _ _ _ ⟨b22, hb22, rfl, rfl, rfl⟩
      refine ⟨⟨(by first | exact Sub.refl _ | (first | assumption | (refine Sub.trans (by assumption) ?_; first | assumption | (refine Sub.trans (by assumption) ?_; first | assumption | (refine Sub.trans (by assumption) ?_; first | assumption | (refine Sub.trans (by assumption) ?_; first | assumption | (refine Sub.trans (by assumption) ?_; first | assumption | (refine Sub.trans (by assumption) ?_; first | assumption)))))))), (by repeat (first | exact SubB.nil | exact Pick.here | apply Pick.there | apply SubB.emp | apply SubB.cons))⟩, ?_⟩
      exact VX_more (VB_weak (by repeat (first | exact trivial | refine ⟨rfl, ?_⟩)) (by repeat (first | exact SubB.nil | exact Pick.here | apply Pick.there | apply SubB.emp | apply SubB.cons)) (kj_9 (b14, b18, b22, v17, G17, v21, G21, v25, G25) trivial))
  · skip
    have hge : i = L.length := by
      have := of_decide_eq_false hc10
      omega
    subst hge
    rw [List.take_length] at hA
    refine V_exit ?_
    refine VQ_then_exit ?_
    refine VQ_then_exit ?_
    refine VQ_block_exit ?_
    refine VQ_then ?_
    refine V_seq ?_
    refine V_region ?_
    refine VL_still rfl rfl rfl (S_move rfl) ?_
    refine VL_still rfl rfl rfl (S_assign rfl) ?_
    refine VL_nil ?_
    refine VQ_then ?_
    refine V_ret ?_
    refine VQ_keeps (blA := [G]) (by repeat (first | exact Split.nil | exact Pick.here | apply Pick.there | apply Split.cons)) (fun h2 sh2 kh2 => ?_)
    obtain ⟨q1, _⟩ := kh2
    refine VQ_fin1 (nb := []) (by first | exact .inl rfl | exact .inr rfl) rfl (RV_tmp rfl) ?sb ?po
    case po =>
      exact ⟨rfl, BN.kn hB q1 (hA.mono fun _ _ r => NdR.sub sh2 r)⟩
    case sb => exact (by repeat (first | exact SubB.nil | exact Pick.here | apply Pick.there | apply SubB.emp | apply SubB.cons))

end Go.Proofs.Ytdglignjoojimaa

/- The law TreeReads: of any nodes a tree is made, or none. No conditions. -/
set_option linter.unusedVariables false
set_option linter.unusedSimpArgs false
namespace Go.Proofs.Ytdglignjoojimaa

theorem OfO.form {h : Hp} {r : Value} {L : List Nd} (o : OfO h r L) : ∃ (q : Option Addr) (e : Int), r = .tuple #[.pointer q, .int .i64 e] ∧
    ((∃ d t b, q = some ⟨b, 0, none⟩ ∧ e = 0 ∧ rdT (L.length + 1) L 0 = some (L.length, d, t) ∧ TreeAt h b (flat d t)) ∨ (q = none ∧ e = 81 ∧ ∀ d t, rdT (L.length + 1) L 0 ≠ some (L.length, d, t))) := by
  rcases o with ⟨d, t, b, e, rfl, p⟩ | ⟨hn, rfl⟩
  · exact ⟨_, _, rfl, .inl ⟨d, t, b, rfl, rfl, e, p⟩⟩
  · exact ⟨_, _, rfl, .inr ⟨rfl, rfl, hn⟩⟩
theorem RdO.form {h : Hp} {r : Value} {L : List Nd} (o : RdO h r L) : ∃ (A : Option Addr) (n c : Nat) (ok : Bool), r = .tuple #[.slice A n c, .bool ok] ∧
    ((∃ d t, ok = true ∧ n = (flat d t).length ∧ rdT (L.length + 1) L 0 = some (L.length, d, t) ∧ PL h (.slice A n c) (flat d t)) ∨ (ok = false ∧ ∀ d t, rdT (L.length + 1) L 0 ≠ some (L.length, d, t))) := by
  rcases o with ⟨d, t, v, e, rfl, p⟩ | ⟨hn, rfl⟩
  · obtain ⟨A, c, rfl, _, _⟩ := SlR.form p
    exact ⟨_, _, _, _, rfl, .inl ⟨d, t, rfl, rfl, e, p⟩⟩
  · exact ⟨_, _, _, _, rfl, .inr ⟨rfl, hn⟩⟩

set_option maxRecDepth 100000 in
theorem reads_con (v : Value) (L : List Nd) (k : Int) (h : Hp) (hL : NL h v L) (hkeys : ∀ x ∈ L, ∀ k ∈ x.keys, 0 ≤ k ∧ k < top) (hsm : ∀ x ∈ L, x.keys.length * 8 ≤ 140737488351232 ∧ x.vals.length * 16 ≤ 140737488351232 ∧ x.kids.length * 8 ≤ 140737488351232) (h0 : 0 ≤ k) (h1 : k < top) : Con Try.prog 7 [v, .int .u64 k] h [] (fun r h' nb => r = .bool true ∧ nb = []) := by
  obtain ⟨A0, cap0, rfl, hle0, hmx0⟩ := hL.form
  refine Con_of Try.func7 rfl Try.ntmps7 (Nat.le_of_ble_eq_true rfl) (fun w0 => ?_)
  refine V_seq ?_
  refine V_region ?_
  refine VL_still rfl rfl rfl (S_assign rfl) ?_
  refine VL_nil ?_
  refine VQ_then ?_
  refine V_seq ?_
  refine V_seq ?_
  refine V_region ?_
  refine VL_eff rfl (E_call rfl rfl rfl Try.call11 (alive_con h) (by repeat (first | exact Split.nil | exact Pick.here | apply Pick.there | apply Split.cons))) ?_
  rintro _ hh16 _ ⟨v16, nb16, ⟨rfl, rfl⟩, hs16, rfl, rfl⟩
  refine VL_still rfl rfl rfl (S_not rfl) ?_
  refine VL_nil ?_
  refine VQ_then ?_
  refine V_cond rfl (fun hc17 => ?_) (fun hc17 => ?_)
  · skip
    simp at hc17
  · skip
    refine V_skip ?_
    refine VQ_then ?_
    refine V_seq ?_
    refine V_seq ?_
    refine V_region ?_
    refine VL_still rfl rfl rfl (S_move rfl) ?_
    refine VL_still rfl rfl rfl (S_len Try.underlying41 rfl) ?_
    refine VL_still rfl rfl rfl (S_gtr rfl rfl) ?_
    refine VL_nil ?_
    refine VQ_then ?_
    refine V_cond rfl (fun hc20 => ?_) (fun hc20 => ?_)
    · skip
      refine V_seq ?_
      refine V_region ?_
      refine VL_still rfl rfl rfl (S_assign rfl) ?_
      refine VL_nil ?_
      refine VQ_then ?_
      refine V_ret ?_
      refine VQ_then_ret ?_
      refine VQ_fin1 (nb := []) (by first | exact .inl rfl | exact .inr rfl) rfl (RV_tmp rfl) ?sb ?po
      case po =>
        exact ⟨rfl, rfl⟩
      case sb => exact (by repeat (first | exact SubB.nil | exact Pick.here | apply Pick.there | apply SubB.emp | apply SubB.cons))
    · skip
      have hlen : L.length ≤ 300 := by
        have := of_decide_eq_false hc20
        omega
      refine V_skip ?_
      refine VQ_then ?_
      refine V_seq ?_
      refine V_region ?_
      refine VL_still rfl rfl rfl (S_move rfl) ?_
      refine VL_eff rfl (E_call rfl rfl rfl Try.call24 (copy_con _ L hh16 (hL.sub hs16) (by omega) hsm) (by repeat (first | exact Split.nil | exact Pick.here | apply Pick.there | apply Split.cons))) ?_
      rintro _ hh22 _ ⟨v22, nb22, ⟨rfl, hC⟩, hs22, rfl, rfl⟩
      obtain ⟨AC, cC, rfl, _, _⟩ := hC.form
      refine VL_still rfl rfl rfl (S_assign rfl) ?_
      refine VL_nil ?_
      refine VQ_then ?_
      refine V_seq ?_
      refine V_region ?_
      refine VL_still rfl rfl rfl (S_move rfl) ?_
      refine VL_eff rfl (E_call rfl rfl rfl Try.call23 (of_con _ L hh22 hC (by omega) hkeys) (by repeat (first | exact Split.nil | exact Pick.here | apply Pick.there | apply Split.cons))) ?_
      rintro _ hh25 _ ⟨v25, nb25, ⟨rfl, hOf⟩, hs25, rfl, rfl⟩
      obtain ⟨q, e, rfl, hq⟩ := hOf.form
      refine VL_still rfl rfl rfl (S_move rfl) ?_
      refine VL_still rfl rfl rfl (S_extract rfl rfl) ?_
      refine VL_still rfl rfl rfl (S_extract rfl rfl) ?_
      refine VL_still rfl rfl rfl (S_assign rfl) ?_
      refine VL_still rfl rfl rfl (S_assign rfl) ?_
      refine VL_nil ?_
      refine VQ_then ?_
      refine V_seq ?_
      refine V_region ?_
      refine VL_still rfl rfl rfl (S_move rfl) ?_
      refine VL_eff rfl (E_call rfl rfl rfl Try.call22 (rread_con _ L hh25 (hL.sub (hs16.trans (hs22.trans hs25))) (by omega)) (by repeat (first | exact Split.nil | exact Pick.here | apply Pick.there | apply Split.cons))) ?_
      rintro _ hh30 _ ⟨v30, nb30, ⟨rfl, hRd⟩, hs30, rfl, rfl⟩
      obtain ⟨Ar, nr, cr, ok, rfl, hr⟩ := hRd.form
      refine VL_still rfl rfl rfl (S_move rfl) ?_
      refine VL_still rfl rfl rfl (S_extract rfl rfl) ?_
      refine VL_still rfl rfl rfl (S_extract rfl rfl) ?_
      refine VL_still rfl rfl rfl (S_assign rfl) ?_
      refine VL_still rfl rfl rfl (S_assign rfl) ?_
      refine VL_nil ?_
      refine VQ_then ?_
      refine V_seq ?_
      refine V_seq ?_
      refine V_region ?_
      refine VL_still rfl rfl rfl (S_move rfl) ?_
      refine VL_still rfl rfl rfl (S_not rfl) ?_
      refine VL_nil ?_
      refine VQ_then ?_
      refine V_cond rfl (fun hc34 => ?_) (fun hc34 => ?_)
      · skip
        have hno : ∀ d t, rdT (L.length + 1) L 0 ≠ some (L.length, d, t) := by
          rcases hr with ⟨_, _, e1, _⟩ | ⟨_, hn⟩
          · rw [e1] at hc34; simp at hc34
          · exact hn
        obtain ⟨rfl, rfl⟩ : q = none ∧ e = 81 := by
          rcases hq with ⟨d, t, b, _, _, e3, _⟩ | ⟨e1, e2, _⟩
          · exact absurd e3 (hno d t)
          · exact ⟨e1, e2⟩
        refine V_seq ?_
        refine V_region ?_
        refine VL_still rfl rfl rfl (S_move rfl) ?_
        refine VL_still rfl rfl rfl (S_peqnil Try.underlying25 rfl rfl) ?_
        refine VL_still rfl rfl rfl (S_move rfl) ?_
        refine VL_bool 37 rfl (fun hc37 => ?_) (fun hc37 => ?_)
        · skip
          refine VL_still rfl rfl rfl (S_move rfl) ?_
          refine VL_still rfl rfl rfl (S_eql rfl rfl) ?_
          first | refine VL_still rfl rfl rfl (S_pick_t rfl rfl) ?_ | refine VL_still rfl rfl rfl (S_pick_f rfl rfl) ?_
          refine VL_still rfl rfl rfl (S_assign rfl) ?_
          refine VL_nil ?_
          refine VQ_then ?_
          refine V_ret ?_
          refine VQ_then_ret ?_
          refine VQ_fin1 (nb := []) (by first | exact .inl rfl | exact .inr rfl) rfl (RV_tmp rfl) ?sb ?po
          case po =>
            exact ⟨by simp, rfl⟩
          case sb => exact (by repeat (first | exact SubB.nil | exact Pick.here | apply Pick.there | apply SubB.emp | apply SubB.cons))
        · skip
          simp at hc37
      · skip
        obtain ⟨d, t, rfl, hrd, hPL⟩ : ∃ d t, nr = (flat d t).length ∧ rdT (L.length + 1) L 0 = some (L.length, d, t) ∧ PL hh30 (.slice Ar nr cr) (flat d t) := by
          rcases hr with ⟨d, t, _, e2, e3, e4⟩ | ⟨e1, _⟩
          · exact ⟨d, t, e2, e3, e4⟩
          · rw [e1] at hc34; simp at hc34
        obtain ⟨b, rfl, rfl, hT⟩ : ∃ b, q = some ⟨b, 0, none⟩ ∧ e = 0 ∧ TreeAt hh25 b (flat d t) := by
          rcases hq with ⟨d', t', b, e1, e2, e3, e4⟩ | ⟨_, _, hn⟩
          · rw [hrd] at e3; cases e3; exact ⟨b, e1, e2, e4⟩
          · exact absurd hrd (hn d t)
        have hup := (rd_tok hrd hkeys).up
        have hfl := rd_flat hrd
        have hdl := delP_le (flat d t) k
        have hil : (insP (flat d t) k (7, 7)).length ≤ (flat d t).length + 1 := by
          rw [insP_len hup]; split <;> omega
        refine V_skip ?_
        refine VQ_then ?_
        refine V_seq ?_
        refine V_seq ?_
        refine V_region ?_
        refine VL_still rfl rfl rfl (S_move rfl) ?_
        refine VL_still rfl rfl rfl (S_peqnil Try.underlying25 rfl rfl) ?_
        refine VL_still rfl rfl rfl (S_move rfl) ?_
        refine VL_bool 43 rfl (fun hc43 => ?_) (fun hc43 => ?_)
        · skip
          simp at hc43
        · skip
          refine VL_still rfl rfl rfl (S_move rfl) ?_
          refine VL_still rfl rfl rfl (S_neq rfl rfl) ?_
          first | refine VL_still rfl rfl rfl (S_pick_t rfl rfl) ?_ | refine VL_still rfl rfl rfl (S_pick_f rfl rfl) ?_
          refine VL_still rfl rfl rfl (S_move rfl) ?_
          refine VL_bool 47 rfl (fun hc47 => ?_) (fun hc47 => ?_)
          · skip
            simp at hc47
          · skip
            refine VL_still rfl rfl rfl (S_move rfl) ?_
            refine VL_eff rfl (E_call rfl rfl rfl Try.call13 (len_con b _ hh30 (hT.sub hs30)) (by repeat (first | exact Split.nil | exact Pick.here | apply Pick.there | apply Split.cons))) ?_
            rintro _ hh49 _ ⟨v49, nb49, ⟨rfl, rfl, rfl⟩, hs49, rfl, rfl⟩
            refine VL_still rfl rfl rfl (S_move rfl) ?_
            refine VL_still rfl rfl rfl (S_len Try.underlying26 rfl) ?_
            refine VL_still rfl rfl rfl (S_neq rfl rfl) ?_
            first | refine VL_still rfl rfl rfl (S_pick_t rfl rfl) ?_ | refine VL_still rfl rfl rfl (S_pick_f rfl rfl) ?_
            refine VL_still rfl rfl rfl (S_move rfl) ?_
            refine VL_bool 54 rfl (fun hc54 => ?_) (fun hc54 => ?_)
            · skip
              simp at hc54
            · skip
              refine VL_still rfl rfl rfl (S_move rfl) ?_
              refine VL_eff rfl (E_call rfl rfl rfl Try.call15 (range_k b _ 0 18446744073709551615 hh30 (hT.sub hs30) (by omega)) (by repeat (first | exact Split.nil | exact Pick.here | apply Pick.there | apply Split.cons))) ?_
              rintro _ hh56 _ ⟨v56, nb56, ⟨rfl, hR1⟩, hs56, rfl, rfl⟩
              rw [rangeP_all hup] at hR1
              refine VL_still rfl rfl rfl (S_move rfl) ?_
              refine VL_eff rfl (E_call rfl rfl rfl Try.call14 (same_con _ _ _ _ hh56 hR1 (hPL.sub hs56) (by omega) (by omega)) (by repeat (first | exact Split.nil | exact Pick.here | apply Pick.there | apply Split.cons))) ?_
              rintro _ hh58 _ ⟨v58, nb58, ⟨rfl, rfl, rfl⟩, hs58, rfl, rfl⟩
              rw [show decide (flat d t = flat d t) = true from decide_eq_true rfl]
              refine VL_still rfl rfl rfl (S_not rfl) ?_
              first | refine VL_still rfl rfl rfl (S_pick_t rfl rfl) ?_ | refine VL_still rfl rfl rfl (S_pick_f rfl rfl) ?_
              refine VL_nil ?_
              refine VQ_then ?_
              refine V_cond rfl (fun hc60 => ?_) (fun hc60 => ?_)
              · skip
                simp at hc60
              · skip
                refine V_skip ?_
                refine VQ_then ?_
                refine V_seq ?_
                refine V_region ?_
                refine VL_still rfl rfl rfl (S_move rfl) ?_
                refine VL_still rfl rfl rfl (S_move rfl) ?_
                refine VL_still rfl rfl rfl (S_struct Try.underlying34 to34 tz34 rfl (by repeat (first | exact BuildR.nil | exact PutR.nil | exact SetL.here | apply SetL.there | apply PutR.cons | apply BuildR.cons rfl (by first | exact ti3) rfl rfl rfl))) ?_
                refine VL_eff rfl (E_call rfl rfl rfl Try.call20 (tput_con b _ hh56 (hT.sub (hs30.trans hs56)) k 7 7 h0 h1 (by omega)) (by repeat (first | exact Split.nil | exact Pick.here | apply Pick.there | apply Split.cons))) ?_
                rintro _ hh64 _ ⟨v64, nb64, ⟨rfl, b1, rfl, hT1⟩, hs64, rfl, rfl⟩
                refine VL_still rfl rfl rfl (S_move rfl) ?_
                refine VL_still rfl rfl rfl (S_move rfl) ?_
                refine VL_eff rfl (E_call rfl rfl rfl Try.call21 (tdel_con b _ hh64 (hT.sub (hs30.trans (hs56.trans hs64))) k h0 h1 (by omega)) (by repeat (first | exact Split.nil | exact Pick.here | apply Pick.there | apply Split.cons))) ?_
                rintro _ hh67 _ ⟨v67, nb67, ⟨rfl, b2, rfl, hT2⟩, hs67, rfl, rfl⟩
                refine VL_still rfl rfl rfl (S_assign rfl) ?_
                refine VL_still rfl rfl rfl (S_assign rfl) ?_
                refine VL_nil ?_
                refine VQ_then ?_
                refine V_seq ?_
                obtain ⟨d1, t1, rb1, hb1, hR1, hO1⟩ := hT1
                obtain ⟨d2, t2, rb2, hb2, hR2, hO2⟩ := hT2
                have hc1 := hO1.count 0
                have hc2 := hO2.count 0
                refine V_region ?_
                refine VL_still rfl rfl rfl (S_move rfl) ?_
                refine VL_eff rfl (E_call rfl rfl rfl Try.call19 (nodes_k d1 b1 rb1 t1 _ hh67 (hs67 _ _ hb1) (Rp.sub hs67 hR1) hO1 (by omega)) (by repeat (first | exact Split.nil | exact Pick.here | apply Pick.there | apply Split.cons))) ?_
                rintro _ hh70 _ ⟨v70, nb70, ⟨rfl, hN1⟩, hs70, rfl, rfl⟩
                obtain ⟨AN, cN, rfl, _, _⟩ := hN1.form
                refine VL_eff rfl (E_call rfl rfl rfl Try.call22 (rread_con _ _ hh70 hN1 (by omega)) (by repeat (first | exact Split.nil | exact Pick.here | apply Pick.there | apply Split.cons))) ?_
                rintro _ hh71 _ ⟨v71, nb71, ⟨rfl, hRd1⟩, hs71, rfl, rfl⟩
                obtain ⟨Ar1, cr1, rfl, hL1⟩ := hRd1.tok hO1
                refine VL_still rfl rfl rfl (S_move rfl) ?_
                refine VL_still rfl rfl rfl (S_extract rfl rfl) ?_
                refine VL_still rfl rfl rfl (S_extract rfl rfl) ?_
                refine VL_still rfl rfl rfl (S_assign rfl) ?_
                refine VL_still rfl rfl rfl (S_assign rfl) ?_
                refine VL_nil ?_
                refine VQ_then ?_
                refine V_seq ?_
                refine V_region ?_
                refine VL_still rfl rfl rfl (S_move rfl) ?_
                refine VL_eff rfl (E_call rfl rfl rfl Try.call19 (nodes_k d2 b2 rb2 t2 _ hh71 ((hs70.trans hs71) _ _ hb2) (Rp.sub (hs70.trans hs71) hR2) hO2 (by omega)) (by repeat (first | exact Split.nil | exact Pick.here | apply Pick.there | apply Split.cons))) ?_
                rintro _ hh76 _ ⟨v76, nb76, ⟨rfl, hN2⟩, hs76, rfl, rfl⟩
                obtain ⟨AN2, cN2, rfl, _, _⟩ := hN2.form
                refine VL_eff rfl (E_call rfl rfl rfl Try.call22 (rread_con _ _ hh76 hN2 (by omega)) (by repeat (first | exact Split.nil | exact Pick.here | apply Pick.there | apply Split.cons))) ?_
                rintro _ hh77 _ ⟨v77, nb77, ⟨rfl, hRd2⟩, hs77, rfl, rfl⟩
                obtain ⟨Ar2, cr2, rfl, hL2⟩ := hRd2.tok hO2
                refine VL_still rfl rfl rfl (S_move rfl) ?_
                refine VL_still rfl rfl rfl (S_extract rfl rfl) ?_
                refine VL_still rfl rfl rfl (S_extract rfl rfl) ?_
                refine VL_still rfl rfl rfl (S_assign rfl) ?_
                refine VL_still rfl rfl rfl (S_assign rfl) ?_
                refine VL_nil ?_
                refine VQ_then ?_
                refine V_seq ?_
                refine V_region ?_
                refine VL_still rfl rfl rfl (S_move rfl) ?_
                refine VL_still rfl rfl rfl (S_move rfl) ?_
                refine VL_bool 81 rfl (fun hc81 => ?_) (fun hc81 => ?_)
                · skip
                  refine VL_still rfl rfl rfl (S_move rfl) ?_
                  first | refine VL_still rfl rfl rfl (S_pick_t rfl rfl) ?_ | refine VL_still rfl rfl rfl (S_pick_f rfl rfl) ?_
                  refine VL_still rfl rfl rfl (S_move rfl) ?_
                  refine VL_bool 84 rfl (fun hc84 => ?_) (fun hc84 => ?_)
                  · skip
                    refine VL_still rfl rfl rfl (S_move rfl) ?_
                    refine VL_still rfl rfl rfl (S_move rfl) ?_
                    refine VL_still rfl rfl rfl (S_move rfl) ?_
                    refine VL_still rfl rfl rfl (S_struct Try.underlying34 to34 tz34 rfl (by repeat (first | exact BuildR.nil | exact PutR.nil | exact SetL.here | apply SetL.there | apply PutR.cons | apply BuildR.cons rfl (by first | exact ti3) rfl rfl rfl))) ?_
                    refine VL_eff rfl (E_call rfl rfl rfl Try.call25 (rput_k _ _ hh77 (hPL.sub (hs56.trans (hs64.trans (hs67.trans (hs70.trans (hs71.trans (hs76.trans hs77))))))) (by omega) k 7 7 0 top hup) (by repeat (first | exact Split.nil | exact Pick.here | apply Pick.there | apply Split.cons))) ?_
                    rintro _ hh89 _ ⟨v89, nb89, ⟨rfl, hP1⟩, hs89, rfl, rfl⟩
                    refine VL_eff rfl (E_call rfl rfl rfl Try.call14 (same_con _ _ _ _ hh89 (hL1.sub (hs76.trans (hs77.trans hs89))) hP1 (by omega) (by omega)) (by repeat (first | exact Split.nil | exact Pick.here | apply Pick.there | apply Split.cons))) ?_
                    rintro _ hh90 _ ⟨v90, nb90, ⟨rfl, rfl, rfl⟩, hs90, rfl, rfl⟩
                    rw [show decide (insP (flat d t) k (7, 7) = insP (flat d t) k (7, 7)) = true from decide_eq_true rfl]
                    first | refine VL_still rfl rfl rfl (S_pick_t rfl rfl) ?_ | refine VL_still rfl rfl rfl (S_pick_f rfl rfl) ?_
                    refine VL_still rfl rfl rfl (S_move rfl) ?_
                    refine VL_bool 92 rfl (fun hc92 => ?_) (fun hc92 => ?_)
                    · skip
                      refine VL_still rfl rfl rfl (S_move rfl) ?_
                      refine VL_still rfl rfl rfl (S_move rfl) ?_
                      refine VL_still rfl rfl rfl (S_move rfl) ?_
                      refine VL_eff rfl (E_call rfl rfl rfl Try.call26 (rdel_k _ _ hh89 (hPL.sub (hs56.trans (hs64.trans (hs67.trans (hs70.trans (hs71.trans (hs76.trans (hs77.trans hs89)))))))) (by omega) k) (by repeat (first | exact Split.nil | exact Pick.here | apply Pick.there | apply Split.cons))) ?_
                      rintro _ hh96 _ ⟨v96, nb96, ⟨rfl, hP2⟩, hs96, rfl, rfl⟩
                      refine VL_eff rfl (E_call rfl rfl rfl Try.call14 (same_con _ _ _ _ hh96 (hL2.sub (hs89.trans hs96)) hP2 (by omega) (by omega)) (by repeat (first | exact Split.nil | exact Pick.here | apply Pick.there | apply Split.cons))) ?_
                      rintro _ hh97 _ ⟨v97, nb97, ⟨rfl, rfl, rfl⟩, hs97, rfl, rfl⟩
                      rw [show decide (delP (flat d t) k = delP (flat d t) k) = true from decide_eq_true rfl]
                      first | refine VL_still rfl rfl rfl (S_pick_t rfl rfl) ?_ | refine VL_still rfl rfl rfl (S_pick_f rfl rfl) ?_
                      refine VL_still rfl rfl rfl (S_assign rfl) ?_
                      refine VL_nil ?_
                      refine VQ_then ?_
                      refine V_ret ?_
                      refine VQ_fin1 (nb := []) (by first | exact .inl rfl | exact .inr rfl) rfl (RV_tmp rfl) ?sb ?po
                      case po =>
                        exact ⟨by simp, rfl⟩
                      case sb => exact (by repeat (first | exact SubB.nil | exact Pick.here | apply Pick.there | apply SubB.emp | apply SubB.cons))
                    · skip
                      simp at hc92
                  · skip
                    simp at hc84
                · skip
                  simp at hc81

end Go.Proofs.Ytdglignjoojimaa

/- From a reading to the cells, with what is known of sizes; slices within structs. No conditions. -/
set_option linter.unusedVariables false
namespace Go.Proofs.Ytdglignjoojimaa
section
variable {H : Type} {enc : TypeId × Value → H} {P : Program}
theorem weights_all {e : TypeId} : ∀ {l : List (DataW H)} {i : Nat} {d : DataW H}, l[i]? = some d → ∀ w ∈ d.weights P e, w ∈ DataW.weightsAll P e l
  | d0 :: l, 0, d, h, w, hw => by
    simp only [List.getElem?_cons_zero, Option.some.injEq] at h
    subst h
    simp only [DataW.weightsAll, List.mem_append]
    exact .inl hw
  | d0 :: l, i + 1, d, h, w, hw => by
    simp only [List.getElem?_cons_succ] at h
    simp only [DataW.weightsAll, List.mem_append]
    exact .inr (weights_all h w hw)
  | [], _, _, h, _, _ => by simp at h
open Go.ChangeShapes Go.WideShapes in
/-- The elements of a slice that is read, each of at most such a weight. -/
theorem open_encW {α : Type} {en : α → List Value} {sz : Nat} (E : Enc en sz) (hz : 0 < sz) {W : World} {sp : Nat → Bool} {held : Bool} {t e : TypeId} {v : Value} {fuel Bd : Nat} {x : DataW H × List MemPlace}
    (ht : P.underlying t = some (.slice e)) (hsz : P.cellsOf e = sz) (hf : DataW.trod enc P W 0 sp held fuel t [v] = some x) (hB : ∀ w ∈ x.1.weights P t, w ≤ Bd)
    (hd : ∀ n cs y, DataW.trod enc P W 0 sp held n e cs = some y → (∀ w ∈ y.1.weights P e, w ≤ Bd) → ∃ a, cs = en a) : ∃ l : List α, SlR (hpW W) [] v l.length (l.flatMap en) sz ∧ l.length * P.bytesOf e ≤ Bd := by
  rcases DataW.trod_slice ht hf with ⟨h0, _⟩ | ⟨a, n, cap, elems, rest, n', _, h0, hx, hb, hl, hm, hlen, hel, _, _⟩
  · simp only [List.cons.injEq, and_true] at h0
    subst h0
    exact ⟨[], ⟨none, 0, rfl, Nat.le_refl _, by omega, by simp, fun h => absurd h (by simp)⟩, by simp⟩
  · simp only [List.cons.injEq, and_true] at h0
    subst h0
    have each : ∀ i, i < n → ∃ x : α, W.cells? 0 (a.add (i * sz)) sz = some (en x) := fun i hi => by
      have h1 := hel i hi
      have hi' : i < elems.length := by omega
      rw [hsz, List.getElem?_eq_getElem hi', Option.bind_eq_some_iff] at h1
      obtain ⟨cs, h1, h2⟩ := h1
      obtain ⟨x, rfl⟩ := hd _ _ _ h2 (fun w hw => hB w (by
        rw [hx]
        simp only [DataW.weights, ht, List.mem_cons, List.mem_append]
        exact .inr (.inl (weights_all (i := i) (d := elems[i].1) (by rw [List.getElem?_map, List.getElem?_eq_getElem hi']; rfl) w hw))))
      exact ⟨x, h1⟩
    have build : ∀ m, m ≤ n → ∃ l : List α, l.length = m ∧ ∀ i (hi : i < l.length), W.cells? 0 (a.add (i * sz)) sz = some (en l[i]) := by
      intro m
      induction m with
      | zero => exact fun _ => ⟨[], rfl, fun i hi => by simp at hi⟩
      | succ m ih =>
        intro hm
        obtain ⟨l, hl, hc⟩ := ih (by omega)
        obtain ⟨x, hx⟩ := each m (by omega)
        refine ⟨l ++ [x], by simp [hl], fun i hi => ?_⟩
        rcases Nat.lt_or_ge i l.length with h' | h'
        · rw [List.getElem_append_left h']; exact hc i h'
        · obtain rfl : i = l.length := by simp at hi; omega
          rw [List.getElem_append_right (Nat.le_refl _)]
          simp only [Nat.sub_self, List.getElem_cons_zero]
          rw [hl]; exact hx
    obtain ⟨l, hln, hc⟩ := build n (Nat.le_refl _)
    refine ⟨l, ⟨some a, cap, by rw [hln], by omega, hm, E.flat_len l, fun hpos => ?_⟩, ?_⟩
    rotate_left
    · refine Nat.le_trans (Nat.mul_le_mul_right _ ?_) (hB _ (by rw [hx]; simp only [DataW.weights, ht, List.mem_cons]; exact .inl rfl))
      rw [List.length_map, hlen, hln]; exact Nat.le_add_right _ _
    have addn : ∀ (b o m : Nat), (⟨b, o, none⟩ : Addr).add m = ⟨b, o + m, none⟩ := fun b o m => by
      unfold Addr.add
      split
      · rename_i h; subst h; rfl
      · rfl
    have hsp : a.spot = none := by
      have h1 := (World.cells?_some (hc 0 hpos)).2.2 0 hz
      rw [List.getElem?_eq_getElem (by rw [E.len]; exact hz), Nat.zero_mul] at h1
      have e0 : (a.add 0).add 0 = a := rfl
      rw [e0] at h1
      unfold World.cell? at h1
      split at h1
      · cases hs : a.spot with
        | none => rfl
        | some q => rw [hs] at h1; simp at h1
      · simp at h1
    obtain ⟨ab, ao, as'⟩ := a
    simp only at hsp
    subst hsp
    refine ⟨ab, ao, rfl, cellsW fun k u hk => ?_⟩
    have hkl : k < l.length * sz := by
      have := (List.getElem?_eq_some_iff.1 hk).1
      rwa [E.flat_len] at this
    have hi : k / sz < l.length := Nat.div_lt_of_lt_mul (by rwa [Nat.mul_comm] at hkl)
    have hr : k % sz < sz := Nat.mod_lt _ hz
    have h1 := (World.cells?_some (hc (k / sz) hi)).2.2 (k % sz) hr
    have h2 := E.flat_at l (k / sz) hi
    have h3 : (en l[k / sz])[k % sz]? = some u := by
      rw [← h2, List.getElem?_take_of_lt hr, List.getElem?_drop, Nat.div_add_mod' k sz]
      exact hk
    rw [h3, addn, addn, Nat.add_assoc, Nat.div_add_mod' k sz] at h1
    exact h1
end
end Go.Proofs.Ytdglignjoojimaa

/- What the nodes that come in read. No conditions. -/
set_option linter.unusedVariables false
set_option linter.unusedSimpArgs false
namespace Go.Proofs.Ytdglignjoojimaa

open Go.ChangeShapes Go.WideShapes Go.ChangeAt Go.RowKit
theorem Try.cellsNode : Try.prog.cellsOf 108 = 3 := by kernel_rfl
theorem Try.cellsSK : Try.prog.cellsOf 88 = 1 := by kernel_rfl
theorem Try.cellsSX : Try.prog.cellsOf 89 = 1 := by kernel_rfl
theorem Try.cellsSI : Try.prog.cellsOf 71 = 1 := by kernel_rfl
theorem Try.bytesU : Try.prog.bytesOf 23 = 8 := by kernel_rfl
theorem Try.bytesX : Try.prog.bytesOf 34 = 16 := by kernel_rfl
theorem Try.bytesI : Try.prog.bytesOf 3 = 8 := by kernel_rfl
abbrev KeyO := {k : Int // 0 ≤ k ∧ k < top}
def kco (a : KeyO) : List Value := kc a.1
theorem kcoE : Enc kco 1 := ⟨fun _ => rfl, fun _ => rfl⟩
/-- A node that came in. -/
def NodeOk (W : World) (c : Sv × Sv × Sv) : Prop := ∃ x : Nd, NdR (hpW W) c x ∧ (∀ k ∈ x.keys, 0 ≤ k ∧ k < top) ∧ x.keys.length * 8 ≤ 140737488351232 ∧ x.vals.length * 16 ≤ 140737488351232 ∧ x.kids.length * 8 ≤ 140737488351232
abbrev NodeO (W : World) := {c : Sv × Sv × Sv // NodeOk W c}
def ndo {W : World} (a : NodeO W) : List Value := tri a.1
theorem ndoE {W : World} : Enc (ndo (W := W)) 3 := ⟨fun _ => rfl, fun _ => rfl⟩
section
variable {H : Type} {enc : TypeId × Value → H} {W : World} {sp : Nat → Bool} {held : Bool}
set_option maxRecDepth 100000 in
theorem ext_cells {n : Nat} {cs : List Value} {x : DataW H × List MemPlace} (h : DataW.trod enc Try.prog W 0 sp held n 34 cs = some x) : ∃ a : Ext, cs = xc a := by
  obtain ⟨ys, m', _, _, hl', hx', hf'⟩ := DataW.trod_struct Try.underlying34 h
  rw [Try.cellsExt] at hl'
  match cs, hl' with
  | [c0, c1], _ =>
  obtain ⟨a, b, rfl, rfl⟩ := ext_at h
  exact ⟨(a, b), rfl⟩
set_option maxRecDepth 100000 in
theorem node_at {n : Nat} {cs : List Value} {y : DataW H × List MemPlace} (h : DataW.trod enc Try.prog W 0 sp held n 108 cs = some y) (hB : ∀ w ∈ y.1.weights Try.prog 108, w ≤ 140737488351232) : ∃ a : NodeO W, cs = ndo a := by
  obtain ⟨xs, m, _, hxe, hl, hx, hf⟩ := DataW.trod_struct Try.underlying108 h
  rw [Try.cellsNode] at hl
  match cs, hl with
  | [c0, c1, c2], _ =>
  have g0 : DataW.trod enc Try.prog W 0 sp held m 88 (List.take (Try.prog.cellsOf 88) (List.drop 0 [c0, c1, c2])) = xs[0]? := hf 0 _ rfl
  have g1 : DataW.trod enc Try.prog W 0 sp held m 89 (List.take (Try.prog.cellsOf 89) (List.drop 1 [c0, c1, c2])) = xs[1]? := hf 1 _ rfl
  have g2 : DataW.trod enc Try.prog W 0 sp held m 71 (List.take (Try.prog.cellsOf 71) (List.drop 2 [c0, c1, c2])) = xs[2]? := hf 2 _ rfl
  obtain ⟨y0, h0⟩ := some_of g0 (by rw [hx]; decide)
  obtain ⟨y1, h1⟩ := some_of g1 (by rw [hx]; decide)
  obtain ⟨y2, h2⟩ := some_of g2 (by rw [hx]; decide)
  have e0 : (xs.map (·.1))[0]? = some y0.1 := by rw [List.getElem?_map, ← g0, h0]; rfl
  have e1 : (xs.map (·.1))[1]? = some y1.1 := by rw [List.getElem?_map, ← g1, h1]; rfl
  have e2 : (xs.map (·.1))[2]? = some y2.1 := by rw [List.getElem?_map, ← g2, h2]; rfl
  have w0 : ∀ w ∈ y0.1.weights Try.prog 88, w ≤ 140737488351232 := fun w hw => hB w (by rw [hxe]; simp only [DataW.weights, Try.underlying108]; exact DataW.weights_mem_each (j := 0) rfl e0 w hw)
  have w1 : ∀ w ∈ y1.1.weights Try.prog 89, w ≤ 140737488351232 := fun w hw => hB w (by rw [hxe]; simp only [DataW.weights, Try.underlying108]; exact DataW.weights_mem_each (j := 1) rfl e1 w hw)
  have w2 : ∀ w ∈ y2.1.weights Try.prog 71, w ≤ 140737488351232 := fun w hw => hB w (by rw [hxe]; simp only [DataW.weights, Try.underlying108]; exact DataW.weights_mem_each (j := 2) rfl e2 w hw)
  simp only [Try.cellsSK, Try.cellsSX, Try.cellsSI, List.drop_zero, List.drop_succ_cons, List.take_succ_cons, List.take_zero] at h0 h1 h2
  obtain ⟨l0, s0, b0⟩ := open_encW (en := kco) kcoE (by decide) Try.underlying88 Try.cellsU h0 w0 (fun n cs y h _ => let ⟨a, e, w⟩ := u64_at h; ⟨⟨a, w⟩, e⟩)
  obtain ⟨l1, s1, b1⟩ := open_encW (en := xc) xcE (by decide) Try.underlying89 Try.cellsExt h1 w1 (fun n cs y h _ => ext_cells h)
  obtain ⟨l2, s2, b2⟩ := open_encW (en := ic) icE (by decide) Try.underlying71 Try.cellsInt h2 w2 (fun n cs y h _ => int_at h)
  rw [Try.bytesU] at b0
  rw [Try.bytesX] at b1
  rw [Try.bytesI] at b2
  obtain ⟨A0, q0, rfl, _, _⟩ := SlR.form s0
  obtain ⟨A1, q1, rfl, _, _⟩ := SlR.form s1
  obtain ⟨A2, q2, rfl, _, _⟩ := SlR.form s2
  refine ⟨⟨((A0, l0.length, q0), (A1, l1.length, q1), (A2, l2.length, q2)), ⟨l0.map (fun a => a.1), l1, l2⟩, ⟨?_, s1, s2⟩, ?_, by rw [List.length_map]; exact b0, b1, b2⟩, rfl⟩
  · show SlR (hpW W) [] (.slice A0 l0.length q0) (l0.map (fun a => a.1)).length ((l0.map (fun a => a.1)).flatMap kc) 1
    rw [List.length_map, List.flatMap_map]
    exact s0
  · intro k hk
    obtain ⟨x, _, rfl⟩ := List.mem_map.1 hk
    exact x.2
/-- The nodes that came in. -/
theorem nodes_of {v : Value} {l : List (NodeO W)} (s : SlR (hpW W) [] v l.length (l.flatMap ndo) 3) : ∃ L : List Nd, NL (hpW W) v L ∧ (∀ x ∈ L, ∀ k ∈ x.keys, 0 ≤ k ∧ k < top) ∧
    (∀ x ∈ L, x.keys.length * 8 ≤ 140737488351232 ∧ x.vals.length * 16 ≤ 140737488351232 ∧ x.kids.length * 8 ≤ 140737488351232) := by
  have hA : ∀ l : List (NodeO W), All2 (NdR (hpW W)) (l.map (fun a => a.1)) (l.map (fun a => Classical.choose a.2)) := by
    intro l
    induction l with
    | nil => exact .nil
    | cons a l ih => exact .cons (Classical.choose_spec a.2).1 ih
  refine ⟨l.map (fun a => Classical.choose a.2), ⟨l.map (fun a => a.1), ?_, hA l⟩, fun x hx => ?_, fun x hx => ?_⟩
  · show SlR (hpW W) [] v (l.map (fun a => Classical.choose a.2)).length ((l.map (fun a => a.1)).flatMap tri) 3
    rw [List.length_map, List.flatMap_map]
    exact s
  · obtain ⟨a, _, rfl⟩ := List.mem_map.1 hx
    exact (Classical.choose_spec a.2).2.1
  · obtain ⟨a, _, rfl⟩ := List.mem_map.1 hx
    exact (Classical.choose_spec a.2).2.2
set_option maxRecDepth 100000 in
theorem open_nodes {r : Reach} {b0 : Nat} {v : Value} {d : DataW H} {ps : List MemPlace} (hval : Value.okWide Try.prog W r b0 41 v) (h : DataW.Trod enc Try.prog W 0 sp held 41 v d ps) (hB : ∀ w ∈ d.weights Try.prog 41, w ≤ 140737488351232) :
    ∃ L : List Nd, NL (hpW W) v L ∧ (∀ x ∈ L, ∀ k ∈ x.keys, 0 ≤ k ∧ k < top) ∧ (∀ x ∈ L, x.keys.length * 8 ≤ 140737488351232 ∧ x.vals.length * 16 ≤ 140737488351232 ∧ x.kids.length * 8 ≤ 140737488351232) := by
  obtain ⟨A, n, cap, rfl⟩ : ∃ A n cap, v = .slice A n cap := okWide_slice Try.underlying41 hval
  obtain ⟨fuel, hf⟩ := h
  obtain ⟨l, s, _⟩ := open_encW (en := ndo (W := W)) ndoE (by decide) Try.underlying41 Try.cellsNode (v := .slice A n cap) hf hB (fun n cs y h w => node_at h w)
  exact nodes_of s
end

end Go.Proofs.Ytdglignjoojimaa

/- The row TreeReads, proved. No conditions. -/
set_option linter.unusedVariables false
set_option linter.unusedSimpArgs false
namespace Go.Proofs.Ytdglignjoojimaa

open Go.ChangeShapes Go.WideShapes Go.ChangeAt Go.RowKit

set_option maxRecDepth 100000 in
theorem reads_lifted (os : Os) (started : os.Started) (H : Type) (enc : TypeId × Value → H) :
    ReturnsInHanded {} Try.checked os 7 .any (Rows.treeReadsSpec.pre6 enc Try.prog Try.f7 Rows.treeReadsRow.domain false) (Rows.treeReadsSpec.post enc Try.prog Try.f7 false true false false) := by
  refine returnsInHanded_of_change_sized (C := Try.checked) Try.own started (by kernel_rfl) Try.func7
    (ChangeSpec.witness6 (enc := enc) (C := Try.checked) false ⟨#[], #[.slice none 0 0, .int .u64 0], []⟩ 8 (by kernel_rfl) (by kernel_rfl) (by kernel_rfl) (by kernel_rfl)) ?_
  intro W base args ds gs before hval0 hW hcnd hsz _
  have hval : ∀ (j : Nat) t v, Try.f7.params[j]? = some t → args[j]? = some v → Value.okWide Try.prog W .any base t v := hval0
  have hW' := hW
  obtain ⟨p, q, hA0, hV, rfl, hfz, hnd⟩ := hW
  have hA : DataW.TrodAll enc Try.prog W 0 (fun _ => true) true Try.f7.params.toList args.toList ds p := hA0
  have hAk := hA
  rw [Try.params7] at hA hval hsz
  obtain ⟨v0, v1, d0, d1, p0, p1, rfl, rfl, rfl, h0, h1⟩ := trodAll_two hA
  obtain ⟨rfl, rfl⟩ := trodVars_none hV
  obtain ⟨a, rfl, rfl, rfl, wa⟩ := open_int Try.underlying23 (hval 1 _ v1 rfl rfl) h1
  obtain ⟨L, hL, hkeys, hsm⟩ := open_nodes (hval 0 _ v0 rfl rfl) h0 (fun w hw => by have := List.all_eq_true.1 hsz _ (DataW.weights_mem_each (j := 0) rfl rfl w hw); exact Nat.le_trans (of_decide_eq_true this) (by decide))
  clear hA0 hval0
  simp only [List.append_nil, List.nil_append] at hW' hAk
  refine (Con.at_world (reads_con v0 L a (hpW W) hL hkeys hsm (u64_wf wa).1 (u64_wf wa).2)).mono fun e W' ⟨v, h', nb, he, hS, hv, _⟩ => ?_
  subst hv
  refine ⟨_, he, post_read (p := p0) hW' hAk Try.kids Try.full (by rw [Try.params7]; decide) hS ?_ rfl (fun _ => rfl)⟩
  exact trodAll_mk1 (shut_bool Try.underlying4 true)
theorem reads_holds : Rows.TreeReadsSaid :=
  OpenClaim.holds_of_wide 7 Try.f7 rfl rfl rfl rfl rfl rfl rfl ⟨rfl, rfl, rfl, rfl, rfl⟩ rfl rfl rfl rfl rfl (by kernel_rfl) Try.func7 (by kernel_rfl)
    (of_decide_eq_true (by kernel_rfl)) (by unfold Func.isWrapper; first | (rw [if_pos (by decide +kernel)]; kernel_rfl) | (rw [if_neg (by decide +kernel)]; exact ⟨rfl, rfl⟩))
    (fun os started H enc _ => reads_lifted os started H enc)

end Go.Proofs.Ytdglignjoojimaa
