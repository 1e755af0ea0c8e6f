/- Contracts of package extent, part 6: the map's larger methods. No conditions. -/
import Derived.Test.YtgnjocnbohbfaaaRA6
set_option linter.unusedVariables false
set_option linter.unusedSimpArgs false
namespace Go.Proofs.YtgnjocnbohbfaaaR

def AllocP (n : Int) (f : List Ex) (e : Ex) (er : Int) (f' : List Ex) : Prop :=
  (n < 1 ∧ e = (0, 0) ∧ er = 72 ∧ f' = f) ∨ (1 ≤ n ∧ f = [] ∧ e = (0, 0) ∧ er = 73 ∧ f' = f) ∨
  (1 ≤ n ∧ er = 0 ∧ ∃ x ∈ f, ((∀ y ∈ f, y.2 ≤ x.2) ∨ n ≤ x.2) ∧ e = (x.1, if n < x.2 then n else x.2) ∧ f' = cutL e f)
def sumL (l : List Ex) : Int := (l.map (fun e => e.2)).sum
theorem sumL_snoc (l : List Ex) (i : Nat) (hi : i < l.length) : sumL (l.take (i + 1)) = sumL (l.take i) + l[i].2 := by
  rw [List.take_succ_eq_append_getElem hi]
  unfold sumL
  rw [List.map_append, List.sum_append_int]
  simp
theorem sumL_bd : ∀ {l : List Ex}, (∀ x ∈ l, OkE x) → 0 ≤ sumL l ∧ sumL l ≤ 1024 * l.length
  | [], _ => by simp [sumL]
  | x :: l, h => by
    have ih := sumL_bd (l := l) (fun y hy => h y (List.mem_cons_of_mem _ hy))
    have h0 := h x (by simp)
    unfold OkE at h0
    simp only [sumL, List.map_cons, List.sum_cons, List.length_cons] at ih ⊢
    omega

set_option maxRecDepth 100000 in
theorem count_con (g : Nat) (t : Int) (vf vl : Value) (f l : List Ex) (Gf Gl : Gr) (h : Hp) (hf : BX vf f Gf) (nf : f.length ≤ 10000) (hX : ∀ x ∈ f, OkE x) : Con Try.prog 10 [.pointer (some ⟨g, 0, none⟩)] h [GM g t vf vl, Gf, Gl] (fun r h' nb => r = .int .i64 (sumL f) ∧ h = h' ∧ nb = [GM g t vf vl, Gf, Gl]) := by
  obtain ⟨A, cap, rfl, hle, hmx⟩ := (hf.rd h).form
  refine Con_of Try.func10 rfl Try.ntmps10 (Nat.le_of_ble_eq_true rfl) (fun w0 => ?_)
  refine V_seq ?_
  refine V_region ?_
  refine VL_still rfl rfl rfl (S_assign rfl) ?_
  refine VL_nil ?_
  refine VQ_then ?_
  refine V_seq ?_
  refine V_region ?_
  refine VL_still rfl rfl rfl (S_assign rfl) ?_
  refine VL_nil ?_
  refine VQ_then ?_
  refine V_seq ?_
  refine V_seq ?_
  refine V_region ?_
  refine VL_still rfl rfl rfl (S_move rfl) ?_
  refine VL_still rfl rfl rfl (S_nil rfl) ?_
  refine VL_still rfl rfl rfl (S_field (k := 1) Try.underlying43 rfl rfl ti35 rfl rfl) ?_
  refine VL_still rfl rfl rfl (S_load Try.underlying35 rfl rfl (Cell.trk (by repeat (first | exact Has.here | apply Has.there)) rfl)) ?_
  refine VL_still rfl rfl rfl (S_len Try.underlying35 rfl) ?_
  refine VL_still rfl rfl rfl (S_move rfl) ?_
  refine VL_nil ?_
  refine VQ_then ?_
  refine V_block ?_
  refine V_loop (ι := Nat) (fun i => f.length - i) (fun i => i ≤ f.length) (fun i => [(3, .int .i64 (sumL (f.take i))), (9, .slice A f.length cap), (10, .int .i64 f.length), (11, .int .i64 i)]) (fun _ => h) (fun i => [GM g t (.slice A f.length cap) vl, Gf, Gl]) 0 (Nat.zero_le _) (by repeat (first | exact trivial | refine ⟨rfl, ?_⟩)) rfl (by repeat (first | exact SubB.nil | exact Pick.here | apply Pick.there | apply SubB.emp | apply SubB.cons)) (fun i hi => ?_)
  refine V_seq ?_
  refine V_region ?_
  refine VL_still rfl rfl rfl (S_lss rfl rfl) ?_
  refine VL_nil ?_
  refine VQ_then ?_
  refine V_seq ?_
  refine V_cond rfl (fun hc12 => ?_) (fun hc12 => ?_)
  · skip
    have hlt : i < f.length := by
      have := of_decide_eq_true hc12
      omega
    obtain ⟨bb, off, cap', e1, hc⟩ := (hf.rd h).at_ xcE rfl hlt
    cases e1
    have hx := hX f[i] (List.getElem_mem hlt)
    have hb := sumL_bd (l := f.take i) (fun x hx => hX x (List.mem_of_mem_take hx))
    have hl' : (f.take i).length ≤ f.length := by rw [List.length_take]; omega
    unfold OkE at hx
    refine V_skip ?_
    refine VQ_then ?_
    refine V_seq ?_
    refine V_block ?_
    refine V_seq ?_
    refine V_region ?_
    refine VL_still rfl rfl rfl (X_at i Try.underlying35 tx27 rfl rfl hlt) ?_
    refine VL_still rfl rfl rfl (S_loads (vs := xc f[i]) Try.underlying27 rfl ti27 rfl rfl (hc.mono (Sub.refl _) (fun q hq => by simp at hq ⊢; simp [hq]))) ?_
    refine VL_eff rfl (E_alloc rfl tz27) ?_
    rintro _ _ _ ⟨b5, hb5, rfl, rfl, rfl⟩
    refine VL_eff rfl (E_store ti27 rfl rfl rfl rfl rfl (by repeat (first | exact Has.here | apply Has.there)) (by repeat (first | exact PutR.nil | exact SetL.here | apply SetL.there | apply PutR.cons)) (by repeat (first | exact UpdG.here | apply UpdG.there))) ?_
    rintro _ _ _ ⟨rfl, rfl, rfl⟩
    refine VL_nil ?_
    refine VQ_then ?_
    refine V_region ?_
    refine VL_still rfl rfl rfl (S_move rfl) ?_
    refine VL_still rfl rfl rfl (S_field (k := 1) Try.underlying27 rfl rfl ti3 rfl rfl) ?_
    refine VL_still rfl rfl rfl (S_load Try.underlying3 rfl rfl (Cell.trk (by repeat (first | exact Has.here | apply Has.there)) rfl)) ?_
    first | refine VL_still rfl rfl rfl (S_addi rfl rfl (by omega) (by omega)) ?_ | refine VL_still rfl rfl rfl (S_add rfl rfl) ?_
    refine VL_still rfl rfl rfl (S_assign rfl) ?_
    refine VL_nil ?_
    refine VQ_block_normal ?_
    refine VQ_then ?_
    refine V_region ?_
    first | refine VL_still rfl rfl rfl (S_addi rfl rfl (by omega) (by omega)) ?_ | refine VL_still rfl rfl rfl (S_add rfl rfl) ?_
    refine VL_still rfl rfl rfl (S_move rfl) ?_
    refine VL_nil ?_
    refine VQ_mid (i + 1) ⟨by omega, by omega⟩ (by rw [sumL_snoc f i hlt]; exact (by repeat (first | exact trivial | refine ⟨rfl, ?_⟩))) rfl (by repeat (first | exact SubB.nil | exact Pick.here | apply Pick.there | apply SubB.emp | apply SubB.cons))
  · skip
    refine V_exit ?_
    refine VQ_then_exit ?_
    refine VQ_then_exit ?_
    refine VQ_block_exit ?_
    refine VQ_then ?_
    refine V_seq ?_
    refine V_region ?_
    refine VL_still rfl rfl rfl (S_move rfl) ?_
    refine VL_still rfl rfl rfl (S_assign rfl) ?_
    refine VL_nil ?_
    refine VQ_then ?_
    refine V_ret ?_
    refine VQ_fin1 (nb := [GM g t (.slice A f.length cap) vl, Gf, Gl]) (by first | exact .inl rfl | exact .inr rfl) rfl (RV_tmp rfl) ?sb ?po
    case po =>
      have hge : i = f.length := by
        have := of_decide_eq_false hc12
        omega
      subst hge
      rw [List.take_length]
      exact ⟨rfl, rfl, rfl⟩
    case sb => exact (by repeat (first | exact SubB.nil | exact Pick.here | apply Pick.there | apply SubB.emp | apply SubB.cons))

set_option maxRecDepth 100000 in
theorem alloc_con (g : Nat) (t : Int) (vf vl : Value) (f l : List Ex) (Gf Gl : Gr) (h : Hp) (hf : BX vf f Gf) (nf : f.length ≤ 10000) (n : Int) (hX : ∀ x ∈ f, OkE x) : Con Try.prog 7 [.pointer (some ⟨g, 0, none⟩), .int .i64 n] h [GM g t vf vl, Gf, Gl] (fun r h' nb => h = h' ∧ ∃ e er f' v G', r = .tuple #[xt e.1 e.2, .int .i64 er] ∧ AllocP n f e er f' ∧ BX v f' G' ∧ nb = [GM g t v vl, G', Gl]) := by
  obtain ⟨A, cap, rfl, hle, hmx⟩ := (hf.rd h).form
  refine Con_of Try.func7 rfl Try.ntmps7 (Nat.le_of_ble_eq_true rfl) (fun w0 => ?_)
  refine V_seq ?_
  refine V_region ?_
  refine VL_eff rfl (E_alloc rfl tz27) ?_
  rintro _ _ _ ⟨b4, hb4, rfl, rfl, rfl⟩
  refine VL_still rfl rfl rfl (S_assign rfl) ?_
  refine VL_nil ?_
  refine VQ_then ?_
  refine V_seq ?_
  refine V_block ?_
  refine V_seq ?_
  refine V_region ?_
  refine VL_still rfl rfl rfl (S_move rfl) ?_
  refine VL_still rfl rfl rfl (S_lss rfl rfl) ?_
  refine VL_still rfl rfl rfl (S_assign rfl) ?_
  refine VL_nil ?_
  refine VQ_then ?_
  refine V_cond rfl (fun hc9 => ?_) (fun hc9 => ?_)
  · skip
    have k := of_decide_eq_true hc9
    refine V_seq ?_
    refine V_region ?_
    refine VL_still rfl rfl rfl (S_struct Try.underlying27 to27 tz27 rfl (by repeat (first | exact BuildR.nil | exact PutR.nil | exact SetL.here | apply SetL.there | apply PutR.cons | apply BuildR.cons rfl (by first | exact ti3) rfl rfl rfl))) ?_
    refine VL_eff rfl (E_store ti27 rfl rfl rfl rfl rfl (by repeat (first | exact Has.here | apply Has.there)) (by repeat (first | exact PutR.nil | exact SetL.here | apply SetL.there | apply PutR.cons)) (by repeat (first | exact UpdG.here | apply UpdG.there))) ?_
    rintro _ _ _ ⟨rfl, rfl, rfl⟩
    refine VL_still rfl rfl rfl (S_assign rfl) ?_
    refine VL_nil ?_
    refine VQ_then ?_
    refine V_ret ?_
    refine VQ_block_ret ?_
    refine VQ_then_ret ?_
    refine VQ_fin2 (nb := [GM g t (.slice A f.length cap) vl, Gf, Gl]) (by first | exact .inl rfl | exact .inr rfl) rfl (RV_cells Try.underlying27 rfl ti27 rfl rfl (Cells.all (by repeat (first | exact Has.here | apply Has.there)))) (RV_tmp rfl) ?sb ?po
    case po =>
      exact ⟨rfl, (0, 0), 72, f, _, Gf, rfl, .inl ⟨k, rfl, rfl, rfl⟩, hf, rfl⟩
    case sb => exact (by repeat (first | exact SubB.nil | exact Pick.here | apply Pick.there | apply SubB.emp | apply SubB.cons))
  · skip
    have k := of_decide_eq_false hc9
    refine V_seq ?_
    refine V_region ?_
    refine VL_still rfl rfl rfl (S_move rfl) ?_
    refine VL_still rfl rfl rfl (S_nil rfl) ?_
    refine VL_still rfl rfl rfl (S_field (k := 1) Try.underlying43 rfl rfl ti35 rfl rfl) ?_
    refine VL_still rfl rfl rfl (S_load Try.underlying35 rfl rfl (Cell.trk (by repeat (first | exact Has.here | apply Has.there)) rfl)) ?_
    refine VL_still rfl rfl rfl (S_len Try.underlying35 rfl) ?_
    refine VL_still rfl rfl rfl (S_eql rfl rfl) ?_
    refine VL_still rfl rfl rfl (S_assign rfl) ?_
    refine VL_nil ?_
    refine VQ_then ?_
    refine V_cond rfl (fun hc13 => ?_) (fun hc13 => ?_)
    · skip
      refine V_seq ?_
      refine V_region ?_
      refine VL_still rfl rfl rfl (S_struct Try.underlying27 to27 tz27 rfl (by repeat (first | exact BuildR.nil | exact PutR.nil | exact SetL.here | apply SetL.there | apply PutR.cons | apply BuildR.cons rfl (by first | exact ti3) rfl rfl rfl))) ?_
      refine VL_eff rfl (E_store ti27 rfl rfl rfl rfl rfl (by repeat (first | exact Has.here | apply Has.there)) (by repeat (first | exact PutR.nil | exact SetL.here | apply SetL.there | apply PutR.cons)) (by repeat (first | exact UpdG.here | apply UpdG.there))) ?_
      rintro _ _ _ ⟨rfl, rfl, rfl⟩
      refine VL_still rfl rfl rfl (S_assign rfl) ?_
      refine VL_nil ?_
      refine VQ_then ?_
      refine V_ret ?_
      refine VQ_block_ret ?_
      refine VQ_then_ret ?_
      refine VQ_fin2 (nb := [GM g t (.slice A f.length cap) vl, Gf, Gl]) (by first | exact .inl rfl | exact .inr rfl) rfl (RV_cells Try.underlying27 rfl ti27 rfl rfl (Cells.all (by repeat (first | exact Has.here | apply Has.there)))) (RV_tmp rfl) ?sb ?po
      case po =>
        have k2 : f = [] := List.eq_nil_of_length_eq_zero (by
          have := of_decide_eq_true hc13
          omega)
        exact ⟨rfl, (0, 0), 73, f, _, Gf, rfl, .inr (.inl ⟨by omega, k2, rfl, rfl, rfl⟩), hf, rfl⟩
      case sb => exact (by repeat (first | exact SubB.nil | exact Pick.here | apply Pick.there | apply SubB.emp | apply SubB.cons))
    · skip
      have h0 : 0 < f.length := by
        have := of_decide_eq_false hc13
        omega
      obtain ⟨bb, off, cap', e1, hc0⟩ := (hf.rd h).at_ xcE rfl h0
      cases e1
      refine V_skip ?_
      refine VQ_block_normal ?_
      refine VQ_then ?_
      refine V_seq ?_
      refine V_region ?_
      refine VL_still rfl rfl rfl (S_move rfl) ?_
      refine VL_still rfl rfl rfl (S_nil rfl) ?_
      refine VL_still rfl rfl rfl (S_field (k := 1) Try.underlying43 rfl rfl ti35 rfl rfl) ?_
      refine VL_still rfl rfl rfl (S_load Try.underlying35 rfl rfl (Cell.trk (by repeat (first | exact Has.here | apply Has.there)) rfl)) ?_
      refine VL_still rfl rfl rfl (X_at 0 Try.underlying35 tx27 rfl rfl h0) ?_
      refine VL_still rfl rfl rfl (S_loads (vs := xc f[0]) Try.underlying27 rfl ti27 rfl rfl (hc0.mono (Sub.refl _) (fun q hq => by simp at hq ⊢; simp [hq]))) ?_
      refine VL_eff rfl (E_alloc rfl tz27) ?_
      rintro _ _ _ ⟨b6, hb6, rfl, rfl, rfl⟩
      refine VL_eff rfl (E_store ti27 rfl rfl rfl rfl rfl (by repeat (first | exact Has.here | apply Has.there)) (by repeat (first | exact PutR.nil | exact SetL.here | apply SetL.there | apply PutR.cons)) (by repeat (first | exact UpdG.here | apply UpdG.there))) ?_
      rintro _ _ _ ⟨rfl, rfl, rfl⟩
      refine VL_nil ?_
      refine VQ_then ?_
      refine V_seq_mid (ι := Ex) (fun x => x ∈ f ∧ ((∀ y ∈ f, y.2 ≤ x.2) ∨ n ≤ x.2)) (fun x => [(0, .pointer (some ⟨g, 0, none⟩)), (1, .int .i64 n), (4, .pointer (some ⟨b4, 0, none⟩)), (6, .pointer (some ⟨b6, 0, none⟩))]) (fun _ => h) (fun x => [GM g t (.slice (some ⟨bb, off, none⟩) f.length cap) vl, Gf, Gl, [(b4, .cells (List.toArray [.int .i64 0, .int .i64 0]) 27 (0, 0))], [(b6, .cells (List.toArray [.int .i64 x.1, .int .i64 x.2]) 27 (0, 0))]]) ?_ (fun x hx => ?_)
      · skip
        refine V_seq ?_
        refine V_region ?_
        refine VL_still rfl rfl rfl (S_move rfl) ?_
        refine VL_still rfl rfl rfl (S_nil rfl) ?_
        refine VL_still rfl rfl rfl (S_field (k := 1) Try.underlying43 rfl rfl ti35 rfl rfl) ?_
        refine VL_still rfl rfl rfl (S_load Try.underlying35 rfl rfl (Cell.trk (by repeat (first | exact Has.here | apply Has.there)) rfl)) ?_
        refine VL_still rfl rfl rfl (S_len Try.underlying35 rfl) ?_
        refine VL_still rfl rfl rfl (S_move rfl) ?_
        refine VL_nil ?_
        refine VQ_then ?_
        refine V_block ?_
        refine V_loop (ι := Nat × Ex) (fun i => f.length - i.1) (fun i => i.1 ≤ f.length ∧ i.2 ∈ f ∧ ∀ j (hj : j < f.length), j < i.1 → f[j].2 ≤ i.2.2) (fun i => [(0, .pointer (some ⟨g, 0, none⟩)), (1, .int .i64 n), (4, .pointer (some ⟨b4, 0, none⟩)), (6, .pointer (some ⟨b6, 0, none⟩)), (30, (.slice (some ⟨bb, off, none⟩) f.length cap)), (31, .int .i64 f.length), (32, .int .i64 i.1)]) (fun _ => h) (fun i => [GM g t (.slice (some ⟨bb, off, none⟩) f.length cap) vl, Gf, Gl, [(b4, .cells (List.toArray [.int .i64 0, .int .i64 0]) 27 (0, 0))], [(b6, .cells (List.toArray [.int .i64 i.2.1, .int .i64 i.2.2]) 27 (0, 0))]]) (0, f[0]) ⟨Nat.zero_le _, List.getElem_mem h0, fun j hj hj' => absurd hj' (by omega)⟩ (by repeat (first | exact trivial | refine ⟨rfl, ?_⟩)) rfl (by repeat (first | exact SubB.nil | exact Pick.here | apply Pick.there | apply SubB.emp | apply SubB.cons)) (fun ⟨i, x⟩ hi => ?_)
        obtain ⟨hi1, hx1, hi2⟩ := hi
        simp only at hi1 hx1 hi2 ⊢
        refine V_seq ?_
        refine V_region ?_
        refine VL_still rfl rfl rfl (S_lss rfl rfl) ?_
        refine VL_nil ?_
        refine VQ_then ?_
        refine V_seq ?_
        refine V_cond rfl (fun hc33 => ?_) (fun hc33 => ?_)
        · skip
          have hlt : i < f.length := by
            have := of_decide_eq_true hc33
            omega
          obtain ⟨_, _, _, e1, hc⟩ := (hf.rd h).at_ xcE rfl hlt
          cases e1
          refine V_skip ?_
          refine VQ_then ?_
          refine V_seq ?_
          refine V_block ?_
          refine V_seq ?_
          refine V_region ?_
          refine VL_still rfl rfl rfl (X_at i Try.underlying35 tx27 rfl rfl hlt) ?_
          refine VL_still rfl rfl rfl (S_loads (vs := xc f[i]) Try.underlying27 rfl ti27 rfl rfl (hc.mono (Sub.refl _) (fun q hq => by simp at hq ⊢; simp [hq]))) ?_
          refine VL_eff rfl (E_alloc rfl tz27) ?_
          rintro _ _ _ ⟨b8, hb8, rfl, rfl, rfl⟩
          refine VL_eff rfl (E_store ti27 rfl rfl rfl rfl rfl (by repeat (first | exact Has.here | apply Has.there)) (by repeat (first | exact PutR.nil | exact SetL.here | apply SetL.there | apply PutR.cons)) (by repeat (first | exact UpdG.here | apply UpdG.there))) ?_
          rintro _ _ _ ⟨rfl, rfl, rfl⟩
          refine VL_nil ?_
          refine VQ_then ?_
          refine V_seq ?_
          refine V_seq ?_
          refine V_region ?_
          refine VL_still rfl rfl rfl (S_field (k := 1) Try.underlying27 rfl rfl ti3 rfl rfl) ?_
          refine VL_still rfl rfl rfl (S_load Try.underlying3 rfl rfl (Cell.trk (by repeat (first | exact Has.here | apply Has.there)) rfl)) ?_
          refine VL_still rfl rfl rfl (S_move rfl) ?_
          refine VL_still rfl rfl rfl (S_geq rfl rfl) ?_
          refine VL_nil ?_
          refine VQ_then ?_
          refine V_cond rfl (fun hc39 => ?_) (fun hc39 => ?_)
          · skip
            refine V_exit ?_
            refine VQ_then_exit ?_
            refine VQ_block_past rfl ?_
            refine VQ_then_exit ?_
            refine VQ_then_exit ?_
            refine VQ_block_exit ?_
            refine VQ_mid x ⟨hx1, .inr ?_⟩ (by repeat (first | exact trivial | refine ⟨rfl, ?_⟩)) rfl (by repeat (first | exact SubB.nil | exact Pick.here | apply Pick.there | apply SubB.emp | apply SubB.cons))
            have := of_decide_eq_true hc39
            omega
          · skip
            refine V_skip ?_
            refine VQ_then ?_
            refine V_seq ?_
            refine V_region ?_
            refine VL_still rfl rfl rfl (S_field (k := 1) Try.underlying27 rfl rfl ti3 rfl rfl) ?_
            refine VL_still rfl rfl rfl (S_load Try.underlying3 rfl rfl (Cell.trk (by repeat (first | exact Has.here | apply Has.there)) rfl)) ?_
            refine VL_still rfl rfl rfl (S_field (k := 1) Try.underlying27 rfl rfl ti3 rfl rfl) ?_
            refine VL_still rfl rfl rfl (S_load Try.underlying3 rfl rfl (Cell.trk (by repeat (first | exact Has.here | apply Has.there)) rfl)) ?_
            refine VL_still rfl rfl rfl (S_gtr rfl rfl) ?_
            refine VL_nil ?_
            refine VQ_then ?_
            refine V_cond rfl (fun hc44 => ?_) (fun hc44 => ?_)
            · skip
              refine V_region ?_
              first | refine VL_still rfl rfl rfl (S_loads Try.underlying27 rfl ti27 rfl rfl (Cells.all (by repeat (first | exact Has.here | apply Has.there)))) ?_ | refine VL_still rfl rfl rfl (S_loads Try.underlying27 rfl ti27 rfl rfl (Cells.trk (by repeat (first | exact Has.here | apply Has.there)) (by repeat (first | exact TakeR.here (by repeat (first | exact HeadR.nil | apply HeadR.cons)) | apply TakeR.there)))) ?_
              refine VL_eff rfl (E_store ti27 rfl rfl rfl rfl rfl (by repeat (first | exact Has.here | apply Has.there)) (by repeat (first | exact PutR.nil | exact SetL.here | apply SetL.there | apply PutR.cons)) (by repeat (first | exact UpdG.here | apply UpdG.there))) ?_
              rintro _ _ _ ⟨rfl, rfl, rfl⟩
              refine VL_nil ?_
              refine VQ_block_normal ?_
              refine VQ_then ?_
              refine V_region ?_
              first | refine VL_still rfl rfl rfl (S_addi rfl rfl (by omega) (by omega)) ?_ | refine VL_still rfl rfl rfl (S_add rfl rfl) ?_
              refine VL_still rfl rfl rfl (S_move rfl) ?_
              refine VL_nil ?_
              have k4 := of_decide_eq_true hc44
              refine VQ_mid (i + 1, f[i]) ⟨⟨by omega, List.getElem_mem hlt, fun j hj hj' => ?_⟩, by simp only; omega⟩ (by repeat (first | exact trivial | refine ⟨rfl, ?_⟩)) rfl (by repeat (first | exact SubB.nil | exact Pick.here | apply Pick.there | apply SubB.emp | apply SubB.cons))
              rcases Nat.lt_or_ge j i with hlt' | hge
              · have := hi2 j hj hlt'
                simp only
                omega
              · obtain rfl : j = i := by simp only at hj'; omega
                exact Int.le_refl _
            · skip
              refine V_skip ?_
              refine VQ_block_normal ?_
              refine VQ_then ?_
              refine V_region ?_
              first | refine VL_still rfl rfl rfl (S_addi rfl rfl (by omega) (by omega)) ?_ | refine VL_still rfl rfl rfl (S_add rfl rfl) ?_
              refine VL_still rfl rfl rfl (S_move rfl) ?_
              refine VL_nil ?_
              have k4 := of_decide_eq_false hc44
              refine VQ_mid (i + 1, x) ⟨⟨by omega, hx1, fun j hj hj' => ?_⟩, by simp only; omega⟩ (by repeat (first | exact trivial | refine ⟨rfl, ?_⟩)) rfl (by repeat (first | exact SubB.nil | exact Pick.here | apply Pick.there | apply SubB.emp | apply SubB.cons))
              rcases Nat.lt_or_ge j i with hlt' | hge
              · exact hi2 j hj hlt'
              · obtain rfl : j = i := by simp only at hj'; omega
                simp only
                omega
        · skip
          refine V_exit ?_
          refine VQ_then_exit ?_
          refine VQ_then_exit ?_
          refine VQ_block_exit ?_
          have hge : i = f.length := by
            have := of_decide_eq_false hc33
            omega
          subst hge
          refine VQ_mid x ⟨hx1, .inl fun y hy => ?_⟩ (by repeat (first | exact trivial | refine ⟨rfl, ?_⟩)) rfl (by repeat (first | exact SubB.nil | exact Pick.here | apply Pick.there | apply SubB.emp | apply SubB.cons))
          obtain ⟨j, hj, rfl⟩ := List.getElem_of_mem hy
          exact hi2 j hj hj
      · skip
        obtain ⟨hx1, hx2⟩ := hx
        have hxo := hX x hx1
        unfold OkE at hxo
        have hmin : (if n < x.2 then n else x.2) ≤ x.2 ∧ 1 ≤ (if n < x.2 then n else x.2) := by split <;> omega
        generalize hgm : (if n < x.2 then n else x.2) = mm at *
        refine V_seq ?_
        refine V_region ?_
        refine VL_still rfl rfl rfl (S_field (k := 1) Try.underlying27 rfl rfl ti3 rfl rfl) ?_
        refine VL_still rfl rfl rfl (S_load Try.underlying3 rfl rfl (Cell.trk (by repeat (first | exact Has.here | apply Has.there)) rfl)) ?_
        refine VL_still rfl rfl rfl (S_move rfl) ?_
        refine VL_still rfl rfl rfl (S_min rfl rfl) ?_
        rw [hgm]
        refine VL_still rfl rfl rfl (S_field (k := 1) Try.underlying27 rfl rfl ti3 rfl rfl) ?_
        refine VL_eff rfl (E_store ti3 rfl rfl rfl rfl rfl (by repeat (first | exact Has.here | apply Has.there)) (by repeat (first | exact PutR.nil | exact SetL.here | apply SetL.there | apply PutR.cons)) (by repeat (first | exact UpdG.here | apply UpdG.there))) ?_
        rintro _ _ _ ⟨rfl, rfl, rfl⟩
        refine VL_nil ?_
        refine VQ_then ?_
        refine V_seq ?_
        refine V_drawL _ _ 576 Try.mixed (by kernel_rfl) (by kernel_rfl) (Sub.refl _) (SubB.refl _) ?_
        refine VD_still rfl rfl rfl rfl (S_move rfl) ?_
        refine VD_still rfl rfl rfl rfl (S_move rfl) ?_
        refine VD_still rfl rfl rfl rfl (S_nil rfl) ?_
        refine VD_still rfl rfl rfl rfl (S_field (k := 1) Try.underlying43 rfl rfl ti35 rfl rfl) ?_
        refine VD_still rfl rfl rfl rfl (S_load Try.underlying35 rfl rfl (Cell.trk (by repeat (first | exact Has.here | apply Has.there)) rfl)) ?_
        first | refine VD_still rfl rfl rfl rfl (S_loads Try.underlying27 rfl ti27 rfl rfl (Cells.all (by repeat (first | exact Has.here | apply Has.there)))) ?_ | refine VD_still rfl rfl rfl rfl (S_loads Try.underlying27 rfl ti27 rfl rfl (Cells.trk (by repeat (first | exact Has.here | apply Has.there)) (by repeat (first | exact TakeR.here (by repeat (first | exact HeadR.nil | apply HeadR.cons)) | apply TakeR.there)))) ?_
        refine VD_eff rfl rfl (E_call rfl rfl rfl Try.call16 (cut_con _ f x.1 mm Gf h (hf.rd h) nf hX ⟨by simp only; omega, by simp only; omega, by simp only; omega⟩) (by repeat (first | exact Split.nil | exact Pick.here | apply Pick.there | apply Split.cons))) ?_
        rintro _ _ _ ⟨v58, nb58, ⟨rfl, G58, hB58, rfl⟩, hs58, rfl, rfl⟩
        obtain ⟨A58, c58, rfl, _, _⟩ := BX.rd hB58 h
        refine ⟨⟨(by first | exact Sub.refl _ | assumption | exact Sub.trans (by assumption) (by assumption)), (by repeat (first | exact SubB.nil | exact Pick.here | apply Pick.there | apply SubB.emp | apply SubB.cons))⟩, ?_⟩
        refine VD_still rfl rfl rfl rfl (S_nil rfl) ?_
        refine VD_still rfl rfl rfl rfl (S_field (k := 1) Try.underlying43 rfl rfl ti35 rfl rfl) ?_
        refine VD_last rfl rfl (E_store ti35 rfl rfl rfl rfl rfl (by repeat (first | exact Has.here | apply Has.there)) (by repeat (first | exact PutR.nil | exact SetL.here | apply SetL.there | apply PutR.cons)) (by repeat (first | exact UpdG.here | apply UpdG.there))) ?_
        rintro _ _ _ ⟨rfl, rfl, rfl⟩
        refine VQ_then ?_
        refine V_seq ?_
        refine V_region ?_
        first | refine VL_still rfl rfl rfl (S_loads Try.underlying27 rfl ti27 rfl rfl (Cells.all (by repeat (first | exact Has.here | apply Has.there)))) ?_ | refine VL_still rfl rfl rfl (S_loads Try.underlying27 rfl ti27 rfl rfl (Cells.trk (by repeat (first | exact Has.here | apply Has.there)) (by repeat (first | exact TakeR.here (by repeat (first | exact HeadR.nil | apply HeadR.cons)) | apply TakeR.there)))) ?_
        refine VL_eff rfl (E_store ti27 rfl rfl rfl rfl rfl (by repeat (first | exact Has.here | apply Has.there)) (by repeat (first | exact PutR.nil | exact SetL.here | apply SetL.there | apply PutR.cons)) (by repeat (first | exact UpdG.here | apply UpdG.there))) ?_
        rintro _ _ _ ⟨rfl, rfl, rfl⟩
        refine VL_still rfl rfl rfl (S_assign rfl) ?_
        refine VL_nil ?_
        refine VQ_then ?_
        refine V_ret ?_
        refine VQ_fin2 (nb := [GM g t (.slice A58 (cutL (x.1, mm) f).length c58) vl, G58, Gl]) (by first | exact .inl rfl | exact .inr rfl) rfl (RV_cells Try.underlying27 rfl ti27 rfl rfl (Cells.all (by repeat (first | exact Has.here | apply Has.there)))) (RV_tmp rfl) ?sb ?po
        case po =>
          exact ⟨rfl, (x.1, mm), 0, _, _, G58, rfl, .inr (.inr ⟨by omega, rfl, x, hx1, hx2, by rw [hgm], rfl⟩), hB58, rfl⟩
        case sb => exact (by repeat (first | exact SubB.nil | exact Pick.here | apply Pick.there | apply SubB.emp | apply SubB.cons))

end Go.Proofs.YtgnjocnbohbfaaaR
