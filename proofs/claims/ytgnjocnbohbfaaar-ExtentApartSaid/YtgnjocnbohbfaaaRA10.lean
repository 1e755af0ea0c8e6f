/- The law ExtentRoom: its walk. No conditions. -/
import Derived.Test.YtgnjocnbohbfaaaRA9
import Derived.Test.YtgnjocnbohbfaaaRQ2
set_option linter.unusedVariables false
set_option linter.unusedSimpArgs false
namespace Go.Proofs.YtgnjocnbohbfaaaR

structure Ac where
  k : Int
  n : Int
  s : Int
  l : Int
def ac (a : Ac) : List Value := [.int .i64 a.k, .int .i64 a.n, .int .i64 a.s, .int .i64 a.l]
theorem acE : Enc ac 4 := ⟨fun _ => rfl, fun _ => rfl⟩
abbrev acs (l : List Ac) : List Value := l.flatMap ac
theorem clampT_ok (n : Int) : Good (newL n) := by
  have := clampT_bd n
  unfold newL
  split
  · exact ⟨fun x hx => by simp at hx; subst hx; unfold OkE; simp only; omega, by simp⟩
  · exact ⟨by simp, by simp⟩
theorem AllP.room {n er : Int} {f out f' : List Ex} (h : AllP n f er out f') (hG : Good f) :
    Good f' ∧ sumL f' = sumL f - sumL out ∧ Good f ∧ (∀ x ∈ out, OkE x) ∧ (n ≤ sumL f → er = 0 ∧ sumL out = (if 0 < n then n else 0)) ∧ (sumL f < n → er = 73 ∧ out = []) := by
  rcases h with ⟨h1, rfl, rfl, rfl⟩ | ⟨h1, rfl, n', h2, hA⟩
  · exact ⟨hG, by simp [sumL], hG, by simp, fun h => absurd h1 (by omega), fun _ => ⟨rfl, rfl⟩⟩
  · obtain ⟨a1, a2, a3, a4, a5, a6⟩ := hA.facts hG h1
    refine ⟨a1, a4, hG, ?_, fun _ => ⟨rfl, ?_⟩, fun h => absurd h1 (by omega)⟩
    · clear a1 a2 a3 a4 a5 a6 h2
      induction hA with
      | nil => simp
      | snoc hA' h3 hP ih =>
        intro x hx
        rcases List.mem_append.1 hx with hx | hx
        · exact ih x hx
        · obtain rfl := List.mem_singleton.1 hx
          obtain ⟨b1, b2, b3, b4, b5, b6⟩ := hA'.facts hG h1
          exact (hP.some b1 h3 b2).2.1
    · split
      · have := a6 (by omega)
        omega
      · obtain ⟨rfl, rfl, _⟩ := hA.neg (by omega)
        rfl
theorem AllP.outlen {n er : Int} {f out f' : List Ex} (h : AllP n f er out f') (hG : Good f) : out.length ≤ 1024 := by
  rcases h with ⟨h1, rfl, rfl, rfl⟩ | ⟨h1, rfl, n', h2, hA⟩
  · simp
  · obtain ⟨a1, a2, a3, a4, a5, a6⟩ := hA.facts hG h1
    have := hG.sum
    have := a1.sum
    omega

set_option maxRecDepth 100000 in
theorem room_con (t n : Int) (v : Value) (acts : List Ac) (h : Hp) (hs : SlR h [] v acts.length (acs acts) 4) : Con Try.prog 3 [.int .i64 t, v, .int .i64 n] h [] (fun r h' nb => r = .bool true ∧ h = h' ∧ nb = []) := by
  obtain ⟨A, cap, rfl, hle, hmx⟩ := hs.form
  refine Con_of Try.func3 rfl Try.ntmps3 (Nat.le_of_ble_eq_true rfl) (fun w0 => ?_)
  refine V_seq ?_
  refine V_region ?_
  refine VL_still rfl rfl rfl (S_assign rfl) ?_
  refine VL_nil ?_
  refine VQ_then ?_
  refine V_seq ?_
  refine V_seq ?_
  refine V_region ?_
  refine VL_eff rfl (E_call rfl rfl rfl Try.call5 (alive_con h) (by repeat (first | exact Split.nil | exact Pick.here | apply Pick.there | apply Split.cons))) ?_
  rintro _ _ _ ⟨v18, nb18, ⟨rfl, rfl, rfl⟩, hs18, rfl, rfl⟩
  refine VL_still rfl rfl rfl (S_not rfl) ?_
  refine VL_nil ?_
  refine VQ_then ?_
  refine V_cond rfl (fun hc19 => ?_) (fun hc19 => ?_)
  · skip
    simp at hc19
  · skip
    refine V_skip ?_
    refine VQ_then ?_
    refine V_seq ?_
    refine V_region ?_
    refine VL_still rfl rfl rfl (S_move rfl) ?_
    refine VL_eff rfl (E_call rfl rfl rfl Try.call6 (new_con t h) (by repeat (first | exact Split.nil | exact Pick.here | apply Pick.there | apply Split.cons))) ?_
    rintro _ _ _ ⟨v21, nb21, ⟨rfl, g, vf, Gf, rfl, hB, rfl⟩, hs21, rfl, rfl⟩
    refine VL_still rfl rfl rfl (S_assign rfl) ?_
    refine VL_nil ?_
    refine VQ_then ?_
    refine V_seq ?_
    refine V_seq ?_
    refine V_region ?_
    refine VL_still rfl rfl rfl (S_move rfl) ?_
    refine VL_still rfl rfl rfl (S_peqnil Try.underlying24 rfl rfl) ?_
    refine VL_still rfl rfl rfl (S_move rfl) ?_
    refine VL_bool 24 rfl (fun hc24 => ?_) (fun hc24 => ?_)
    · skip
      simp at hc24
    · skip
      refine VL_still rfl rfl rfl (S_move rfl) ?_
      refine VL_still rfl rfl rfl (S_len Try.underlying22 rfl) ?_
      refine VL_still rfl rfl rfl (S_gtr rfl rfl) ?_
      first | refine VL_still rfl rfl rfl (S_pick_t rfl rfl) ?_ | refine VL_still rfl rfl rfl (S_pick_f rfl rfl) ?_
      refine VL_still rfl rfl rfl (S_move rfl) ?_
      refine VL_bool 29 rfl (fun hc29 => ?_) (fun hc29 => ?_)
      · skip
        refine VL_skip rfl rfl rfl ?_
        refine VL_skip rfl rfl rfl ?_
        first | refine VL_still rfl rfl rfl (S_pick_t rfl rfl) ?_ | refine VL_still rfl rfl rfl (S_pick_f rfl rfl) ?_
        refine VL_still rfl rfl rfl (S_move rfl) ?_
        refine VL_skip rfl rfl rfl ?_
        refine VL_skip rfl rfl rfl ?_
        first | refine VL_still rfl rfl rfl (S_pick_t rfl rfl) ?_ | refine VL_still rfl rfl rfl (S_pick_f rfl rfl) ?_
        refine VL_nil ?_
        refine VQ_then ?_
        refine V_cond_true rfl ?_
        refine V_seq ?_
        refine V_region ?_
        refine VL_still rfl rfl rfl (S_move rfl) ?_
        refine VL_still rfl rfl rfl (S_pnenil Try.underlying24 rfl rfl) ?_
        refine VL_still rfl rfl rfl (S_assign rfl) ?_
        refine VL_nil ?_
        refine VQ_then ?_
        refine V_ret ?_
        refine VQ_then_ret ?_
        refine VQ_fin1 (nb := []) (by first | exact .inl rfl | exact .inr rfl) rfl (RV_tmp rfl) ?sb ?po
        case po =>
          exact ⟨rfl, rfl, rfl⟩
        case sb => exact (by repeat (first | exact SubB.nil | exact Pick.here | apply Pick.there | apply SubB.emp | apply SubB.cons))
      · skip
        have hlen := of_decide_eq_false hc29
        refine VL_still rfl rfl rfl (S_move rfl) ?_
        refine VL_still rfl rfl rfl (S_lss rfl rfl) ?_
        first | refine VL_still rfl rfl rfl (S_pick_t rfl rfl) ?_ | refine VL_still rfl rfl rfl (S_pick_f rfl rfl) ?_
        refine VL_still rfl rfl rfl (S_move rfl) ?_
        refine VL_bool 33 rfl (fun hc33 => ?_) (fun hc33 => ?_)
        · skip
          refine VL_skip rfl rfl rfl ?_
          refine VL_skip rfl rfl rfl ?_
          first | refine VL_still rfl rfl rfl (S_pick_t rfl rfl) ?_ | refine VL_still rfl rfl rfl (S_pick_f rfl rfl) ?_
          refine VL_nil ?_
          refine VQ_then ?_
          refine V_cond_true rfl ?_
          refine V_seq ?_
          refine V_region ?_
          refine VL_still rfl rfl rfl (S_move rfl) ?_
          refine VL_still rfl rfl rfl (S_pnenil Try.underlying24 rfl rfl) ?_
          refine VL_still rfl rfl rfl (S_assign rfl) ?_
          refine VL_nil ?_
          refine VQ_then ?_
          refine V_ret ?_
          refine VQ_then_ret ?_
          refine VQ_fin1 (nb := []) (by first | exact .inl rfl | exact .inr rfl) rfl (RV_tmp rfl) ?sb ?po
          case po =>
            exact ⟨rfl, rfl, rfl⟩
          case sb => exact (by repeat (first | exact SubB.nil | exact Pick.here | apply Pick.there | apply SubB.emp | apply SubB.cons))
        · skip
          refine VL_still rfl rfl rfl (S_move rfl) ?_
          refine VL_still rfl rfl rfl (S_gtr rfl rfl) ?_
          first | refine VL_still rfl rfl rfl (S_pick_t rfl rfl) ?_ | refine VL_still rfl rfl rfl (S_pick_f rfl rfl) ?_
          refine VL_nil ?_
          refine VQ_then ?_
          refine V_cond rfl (fun hc36 => ?_) (fun hc36 => ?_)
          · skip
            refine V_seq ?_
            refine V_region ?_
            refine VL_still rfl rfl rfl (S_move rfl) ?_
            refine VL_still rfl rfl rfl (S_pnenil Try.underlying24 rfl rfl) ?_
            refine VL_still rfl rfl rfl (S_assign rfl) ?_
            refine VL_nil ?_
            refine VQ_then ?_
            refine V_ret ?_
            refine VQ_then_ret ?_
            refine VQ_fin1 (nb := []) (by first | exact .inl rfl | exact .inr rfl) rfl (RV_tmp rfl) ?sb ?po
            case po =>
              exact ⟨rfl, rfl, rfl⟩
            case sb => exact (by repeat (first | exact SubB.nil | exact Pick.here | apply Pick.there | apply SubB.emp | apply SubB.cons))
          · skip
            refine V_skip ?_
            refine VQ_then ?_
            refine V_seq ?_
            refine V_seq ?_
            refine V_region ?_
            refine VL_still rfl rfl rfl (S_move rfl) ?_
            refine VL_still rfl rfl rfl (S_len Try.underlying22 rfl) ?_
            refine VL_still rfl rfl rfl (S_move rfl) ?_
            refine VL_nil ?_
            refine VQ_then ?_
            refine V_block ?_
            refine V_loop (ι := Nat × Value × List Ex × Gr) (fun i => acts.length - i.1) (fun (i, v', f', G') => i ≤ acts.length ∧ Good f' ∧ BX v' f' G') (fun (i, v', f', G') => [(0, .int .i64 t), (2, .int .i64 n), (7, .pointer (some ⟨g, 0, none⟩)), (39, (.slice A acts.length cap)), (40, .int .i64 acts.length), (41, .int .i64 i)]) (fun _ => h) (fun (i, v', f', G') => [GM g (clampT t) v' (.slice none 0 0), G', []]) (0, vf, newL t, Gf) ⟨Nat.zero_le _, clampT_ok t, hB⟩ (by repeat (first | exact trivial | refine ⟨rfl, ?_⟩)) rfl (by repeat (first | exact SubB.nil | exact Pick.here | apply Pick.there | apply SubB.emp | apply SubB.cons)) (fun ⟨i, v', f', G'⟩ hi => ?_)
            obtain ⟨hi1, hG, hB'⟩ := hi
            simp only at hi1 hG hB' ⊢
            have hfl := hG.len
            refine V_seq ?_
            refine V_region ?_
            refine VL_still rfl rfl rfl (S_lss rfl rfl) ?_
            refine VL_nil ?_
            refine VQ_then ?_
            refine V_seq ?_
            refine V_cond rfl (fun hc42 => ?_) (fun hc42 => ?_)
            · skip
              have hlt : i < acts.length := by
                have := of_decide_eq_true hc42
                omega
              obtain ⟨bb, off, cap', e1, hc⟩ := hs.at_ acE rfl hlt
              cases e1
              refine V_skip ?_
              refine VQ_then ?_
              refine V_seq ?_
              refine V_block ?_
              refine V_seq ?_
              refine V_region ?_
              refine VL_still rfl rfl rfl (X_at i Try.underlying22 tx29 rfl rfl hlt) ?_
              refine VL_still rfl rfl rfl (S_loads (vs := ac acts[i]) Try.underlying29 rfl ti29 rfl rfl (hc.mono (Sub.refl _) (fun q hq => by simp at hq))) ?_
              refine VL_eff rfl (E_alloc rfl tz29) ?_
              rintro _ _ _ ⟨b9, hb9, rfl, rfl, rfl⟩
              refine VL_eff rfl (E_store ti29 rfl rfl rfl rfl rfl (by repeat (first | exact Has.here | apply Has.there)) (by repeat (first | exact PutR.nil | exact SetL.here | apply SetL.there | apply PutR.cons)) (by repeat (first | exact UpdG.here | apply UpdG.there))) ?_
              rintro _ _ _ ⟨rfl, rfl, rfl⟩
              refine VL_nil ?_
              refine VQ_then ?_
              refine V_seq ?_
              refine V_region ?_
              refine VL_still rfl rfl rfl (S_move rfl) ?_
              refine VL_still rfl rfl rfl (S_field (k := 1) Try.underlying29 rfl rfl ti3 rfl rfl) ?_
              refine VL_still rfl rfl rfl (S_load Try.underlying3 rfl rfl (Cell.trk (by repeat (first | exact Has.here | apply Has.there)) rfl)) ?_
              refine VL_eff rfl (E_call rfl rfl rfl Try.call7 (alloc_con g (clampT t) v' (.slice none 0 0) f' [] G' [] h hB' (by omega) acts[i].n hG.ok) (by repeat (first | exact Split.nil | exact Pick.here | apply Pick.there | apply Split.cons))) ?_
              rintro _ _ _ ⟨v49, nb49, ⟨rfl, e1, er1, f1, v1, G1, rfl, hP1, hB1, rfl⟩, hs49, rfl, rfl⟩
              have hG1 := hP1.good hG
              have hl1 := hG1.len
              refine VL_still rfl rfl rfl (S_move rfl) ?_
              refine VL_still rfl rfl rfl (S_extract rfl rfl) ?_
              refine VL_still rfl rfl rfl (S_extract rfl rfl) ?_
              refine VL_eff rfl (E_alloc rfl tz27) ?_
              rintro _ _ _ ⟨b10, hb10, rfl, rfl, rfl⟩
              refine VL_eff rfl (E_store ti27 rfl rfl rfl rfl rfl (by repeat (first | exact Has.here | apply Has.there)) (by repeat (first | exact PutR.nil | exact SetL.here | apply SetL.there | apply PutR.cons)) (by repeat (first | exact UpdG.here | apply UpdG.there))) ?_
              rintro _ _ _ ⟨rfl, rfl, rfl⟩
              refine VL_still rfl rfl rfl (S_assign rfl) ?_
              refine VL_nil ?_
              refine VQ_then ?_
              refine V_seq_mid (ι := Value × List Ex × Gr) (fun (v2, f2, G2) => Good f2 ∧ BX v2 f2 G2) (fun (v2, f2, G2) => [(0, .int .i64 t), (2, .int .i64 n), (7, .pointer (some ⟨g, 0, none⟩)), (9, .pointer (some ⟨b9, 0, none⟩)), (39, .slice (some ⟨bb, off, none⟩) acts.length cap), (40, .int .i64 acts.length), (41, .int .i64 i)]) (fun _ => h) (fun (v2, f2, G2) => [GM g (clampT t) v2 (.slice none 0 0), G2, [], [(b9, .cells (List.toArray [.int .i64 acts[i].k, .int .i64 acts[i].n, .int .i64 acts[i].s, .int .i64 acts[i].l]) 29 (0, 0))]]) ?_ (fun ⟨v3, f3, G3⟩ hi3 => ?_)
              · skip
                refine V_seq ?_
                refine V_region ?_
                refine VL_still rfl rfl rfl (S_move rfl) ?_
                refine VL_still rfl rfl rfl (S_eql rfl rfl) ?_
                refine VL_still rfl rfl rfl (S_move rfl) ?_
                refine VL_bool 54 rfl (fun hc54 => ?_) (fun hc54 => ?_)
                · skip
                  refine VL_still rfl rfl rfl (S_field (k := 0) Try.underlying29 rfl rfl ti3 rfl rfl) ?_
                  refine VL_still rfl rfl rfl (S_load Try.underlying3 rfl rfl (Cell.trk (by repeat (first | exact Has.here | apply Has.there)) rfl)) ?_
                  refine VL_still rfl rfl rfl (S_geq rfl rfl) ?_
                  first | refine VL_still rfl rfl rfl (S_pick_t rfl rfl) ?_ | refine VL_still rfl rfl rfl (S_pick_f rfl rfl) ?_
                  refine VL_nil ?_
                  refine VQ_then ?_
                  refine V_cond rfl (fun hc58 => ?_) (fun hc58 => ?_)
                  · skip
                    refine V_region ?_
                    refine VL_still rfl rfl rfl (S_move rfl) ?_
                    first | refine VL_still rfl rfl rfl (S_loads Try.underlying27 rfl ti27 rfl rfl (Cells.all (by repeat (first | exact Has.here | apply Has.there)))) ?_ | refine VL_still rfl rfl rfl (S_loads Try.underlying27 rfl ti27 rfl rfl (Cells.trk (by repeat (first | exact Has.here | apply Has.there)) (by repeat (first | exact TakeR.here (by repeat (first | exact HeadR.nil | apply HeadR.cons)) | apply TakeR.there)))) ?_
                    refine VL_eff rfl (E_call rfl rfl rfl Try.call8 (free_con g (clampT t) v1 (.slice none 0 0) f1 [] G1 [] h hB1 (Buf.nil _ _) (by omega) (by simp) e1.1 e1.2 (clampT_bd t).2 hG1.ok) (by repeat (first | exact Split.nil | exact Pick.here | apply Pick.there | apply Split.cons))) ?_
                    rintro _ _ _ ⟨v61, nb61, ⟨rfl, rfl, v61, G61, hB61, rfl⟩, hs61, rfl, rfl⟩
                    refine VL_nil ?_
                    refine VQ_mid (v61, _, G61) ⟨?_, hB61⟩ (by repeat (first | exact trivial | refine ⟨rfl, ?_⟩)) rfl (by repeat (first | exact SubB.nil | exact Pick.here | apply Pick.there | apply SubB.emp | apply SubB.cons))
                    show Good (ite _ _ _)
                    split
                    · rename_i hk
                      exact hG1.put (thereB_ok (takenB_there hk) (clampT_bd t).2).1 (takenB_far hk (clampT_bd t).2 hG1.ok)
                    · exact hG1
                  · skip
                    refine V_skip ?_
                    refine VQ_mid (v1, f1, G1) ⟨?_, hB1⟩ (by repeat (first | exact trivial | refine ⟨rfl, ?_⟩)) rfl (by repeat (first | exact SubB.nil | exact Pick.here | apply Pick.there | apply SubB.emp | apply SubB.cons))
                    exact hG1
                · skip
                  refine VL_skip rfl rfl rfl ?_
                  refine VL_skip rfl rfl rfl ?_
                  refine VL_skip rfl rfl rfl ?_
                  first | refine VL_still rfl rfl rfl (S_pick_t rfl rfl) ?_ | refine VL_still rfl rfl rfl (S_pick_f rfl rfl) ?_
                  refine VL_nil ?_
                  refine VQ_then ?_
                  refine V_cond_false rfl ?_
                  refine V_skip ?_
                  refine VQ_mid (v1, f1, G1) ⟨?_, hB1⟩ (by repeat (first | exact trivial | refine ⟨rfl, ?_⟩)) rfl (by repeat (first | exact SubB.nil | exact Pick.here | apply Pick.there | apply SubB.emp | apply SubB.cons))
                  exact hG1
              · skip
                obtain ⟨hG3, hB3⟩ := hi3
                simp only at hG3 hB3 ⊢
                have hl3 := hG3.len
                refine V_region ?_
                refine VL_still rfl rfl rfl (S_move rfl) ?_
                refine VL_still rfl rfl rfl (S_field (k := 2) Try.underlying29 rfl rfl ti27 rfl rfl) ?_
                refine VL_still rfl rfl rfl (S_loads (vs := [.int .i64 acts[i].s, .int .i64 acts[i].l]) Try.underlying27 rfl ti27 rfl rfl (Cells.trk (by repeat (first | exact Has.here | apply Has.there)) (by repeat (first | exact TakeR.here (by repeat (first | exact HeadR.nil | apply HeadR.cons)) | apply TakeR.there)))) ?_
                refine VL_eff rfl (E_call rfl rfl rfl Try.call9 (take_con g (clampT t) v3 (.slice none 0 0) f3 [] G3 [] h hB3 (Buf.nil _ _) (by omega) (by simp) acts[i].s acts[i].l (clampT_bd t).2 hG3.ok) (by repeat (first | exact Split.nil | exact Pick.here | apply Pick.there | apply Split.cons))) ?_
                rintro _ _ _ ⟨v65, nb65, ⟨rfl, rfl, v65, G65, hB65, rfl⟩, hs65, rfl, rfl⟩
                refine VL_nil ?_
                refine VQ_block_normal ?_
                refine VQ_then ?_
                refine V_region ?_
                first | refine VL_still rfl rfl rfl (S_addi rfl rfl (by omega) (by omega)) ?_ | refine VL_still rfl rfl rfl (S_add rfl rfl) ?_
                refine VL_still rfl rfl rfl (S_move rfl) ?_
                refine VL_nil ?_
                obtain ⟨ho, _⟩ : True ∧ True := ⟨trivial, trivial⟩
                refine VQ_mid (i + 1, v65, _, G65) ⟨⟨by omega, ?_, hB65⟩, by simp only; omega⟩ (by repeat (first | exact trivial | refine ⟨rfl, ?_⟩)) rfl (by repeat (first | exact SubB.nil | exact Pick.here | apply Pick.there | apply SubB.emp | apply SubB.cons))
                show Good (ite _ _ _)
                split
                · rename_i hk
                  simp only [Bool.and_eq_true] at hk
                  exact hG3.cut (thereB_ok hk.1 (clampT_bd t).2).1
                · exact hG3
            · skip
              refine V_exit ?_
              refine VQ_then_exit ?_
              refine VQ_then_exit ?_
              refine VQ_block_exit ?_
              refine VQ_then ?_
              refine V_seq ?_
              refine V_region ?_
              refine VL_still rfl rfl rfl (S_move rfl) ?_
              refine VL_eff rfl (E_call rfl rfl rfl Try.call10 (count_con g (clampT t) v' (.slice none 0 0) f' [] G' [] h hB' (by omega) hG.ok) (by repeat (first | exact Split.nil | exact Pick.here | apply Pick.there | apply Split.cons))) ?_
              rintro _ _ _ ⟨v68, nb68, ⟨rfl, rfl, rfl⟩, hs68, rfl, rfl⟩
              refine VL_still rfl rfl rfl (S_assign rfl) ?_
              refine VL_nil ?_
              refine VQ_then ?_
              refine V_seq ?_
              refine V_region ?_
              refine VL_still rfl rfl rfl (S_move rfl) ?_
              refine VL_still rfl rfl rfl (S_move rfl) ?_
              refine VL_eff rfl (E_call rfl rfl rfl Try.call11 (all_con g (clampT t) v' (.slice none 0 0) f' [] G' [] h hB' n hG) (by repeat (first | exact Split.nil | exact Pick.here | apply Pick.there | apply Split.cons))) ?_
              rintro _ _ _ ⟨v72, nb72, ⟨rfl, ro, er, out, Go, f2, v2, G2, rfl, hBo, hB2, hP2, rfl⟩, hs72, rfl, rfl⟩
              obtain ⟨hG2, q1, _, q2, q3, q4⟩ := hP2.room hG
              have hl2 := hG2.len
              have ho0 := sumL_bd q2
              refine VL_still rfl rfl rfl (S_move rfl) ?_
              refine VL_still rfl rfl rfl (S_extract rfl rfl) ?_
              refine VL_still rfl rfl rfl (S_extract rfl rfl) ?_
              refine VL_still rfl rfl rfl (S_assign rfl) ?_
              refine VL_still rfl rfl rfl (S_assign rfl) ?_
              refine VL_nil ?_
              refine VQ_then ?_
              refine V_seq ?_
              refine V_seq ?_
              refine V_region ?_
              refine VL_still rfl rfl rfl (S_move rfl) ?_
              refine VL_still rfl rfl rfl (S_move rfl) ?_
              refine VL_still rfl rfl rfl (S_gtr rfl rfl) ?_
              refine VL_nil ?_
              refine VQ_then ?_
              refine V_cond rfl (fun hc77 => ?_) (fun hc77 => ?_)
              · skip
                have k77 := of_decide_eq_true hc77
                obtain ⟨rfl, rfl⟩ := q4 (by omega)
                obtain ⟨Ao, co, rfl, _, _⟩ := BX.rd hBo h
                have q1' : sumL f2 = sumL f' := by rw [q1]; simp [sumL]
                refine V_seq ?_
                refine V_region ?_
                refine VL_still rfl rfl rfl (S_move rfl) ?_
                refine VL_still rfl rfl rfl (S_eql rfl rfl) ?_
                refine VL_still rfl rfl rfl (S_move rfl) ?_
                refine VL_bool 80 rfl (fun hc80 => ?_) (fun hc80 => ?_)
                · skip
                  refine VL_still rfl rfl rfl (S_move rfl) ?_
                  refine VL_still rfl rfl rfl (S_len Try.underlying35 rfl) ?_
                  refine VL_still rfl rfl rfl (S_eql rfl rfl) ?_
                  first | refine VL_still rfl rfl rfl (S_pick_t rfl rfl) ?_ | refine VL_still rfl rfl rfl (S_pick_f rfl rfl) ?_
                  refine VL_still rfl rfl rfl (S_move rfl) ?_
                  refine VL_bool 85 rfl (fun hc85 => ?_) (fun hc85 => ?_)
                  · skip
                    refine VL_still rfl rfl rfl (S_move rfl) ?_
                    refine VL_eff rfl (E_call rfl rfl rfl Try.call10 (count_con g (clampT t) v2 (.slice none 0 0) f2 [] G2 [] h hB2 (by omega) hG2.ok) (by repeat (first | exact Split.nil | exact Pick.here | apply Pick.there | apply Split.cons))) ?_
                    rintro _ _ _ ⟨v87, nb87, ⟨rfl, rfl, rfl⟩, hs87, rfl, rfl⟩
                    refine VL_still rfl rfl rfl (S_move rfl) ?_
                    refine VL_still rfl rfl rfl (S_eql rfl rfl) ?_
                    first | refine VL_still rfl rfl rfl (S_pick_t rfl rfl) ?_ | refine VL_still rfl rfl rfl (S_pick_f rfl rfl) ?_
                    refine VL_still rfl rfl rfl (S_assign rfl) ?_
                    refine VL_nil ?_
                    refine VQ_then ?_
                    refine V_ret ?_
                    refine VQ_then_ret ?_
                    refine VQ_fin1 (nb := []) (by first | exact .inl rfl | exact .inr rfl) rfl (RV_tmp rfl) ?sb ?po
                    case po =>
                      exact ⟨by simp [q1'], rfl, rfl⟩
                    case sb => exact (by repeat (first | exact SubB.nil | exact Pick.here | apply Pick.there | apply SubB.emp | apply SubB.cons))
                  · skip
                    simp at hc85
                · skip
                  simp at hc80
              · skip
                have k77 := of_decide_eq_false hc77
                obtain ⟨rfl, q5⟩ := q3 (by omega)
                obtain ⟨Ao, co, rfl, _, _⟩ := BX.rd hBo h
                have hs0 := hG.sum
                refine V_skip ?_
                refine VQ_then ?_
                refine V_seq ?_
                refine V_region ?_
                refine VL_still rfl rfl rfl (S_assign rfl) ?_
                refine VL_nil ?_
                refine VQ_then ?_
                refine V_seq ?_
                refine V_seq ?_
                refine V_region ?_
                refine VL_still rfl rfl rfl (S_move rfl) ?_
                refine VL_still rfl rfl rfl (S_len Try.underlying35 rfl) ?_
                refine VL_still rfl rfl rfl (S_move rfl) ?_
                refine VL_nil ?_
                refine VQ_then ?_
                refine V_block ?_
                refine V_loop (ι := Nat) (fun i => out.length - i) (fun j => j ≤ out.length) (fun j => [(2, .int .i64 n), (7, .pointer (some ⟨g, 0, none⟩)), (12, .int .i64 (sumL f')), (14, .int .i64 0), (15, .int .i64 (sumL (out.take j))), (91, .slice Ao out.length co), (92, .int .i64 out.length), (93, .int .i64 j)]) (fun _ => h) (fun _ => [GM g (clampT t) v2 (.slice none 0 0), G2, [], Go]) 0 (Nat.zero_le _) (by repeat (first | exact trivial | refine ⟨rfl, ?_⟩)) rfl (by repeat (first | exact SubB.nil | exact Pick.here | apply Pick.there | apply SubB.emp | apply SubB.cons)) (fun j hj => ?_)
                refine V_seq ?_
                refine V_region ?_
                refine VL_still rfl rfl rfl (S_lss rfl rfl) ?_
                refine VL_nil ?_
                refine VQ_then ?_
                refine V_seq ?_
                refine V_cond rfl (fun hc94 => ?_) (fun hc94 => ?_)
                · skip
                  have hlt : j < out.length := by
                    have := of_decide_eq_true hc94
                    omega
                  obtain ⟨bb, off, cap', e1, hc⟩ := (hBo.rd h).at_ xcE rfl hlt
                  cases e1
                  have hx := q2 out[j] (List.getElem_mem hlt)
                  have hb := sumL_bd (l := out.take j) (fun x hx => q2 x (List.mem_of_mem_take hx))
                  have hl' : (out.take j).length ≤ out.length := by rw [List.length_take]; omega
                  have hmo := hP2.outlen hG
                  unfold OkE at hx
                  refine V_skip ?_
                  refine VQ_then ?_
                  refine V_seq ?_
                  refine V_block ?_
                  refine V_seq ?_
                  refine V_region ?_
                  refine VL_still rfl rfl rfl (X_at j Try.underlying35 tx27 rfl rfl hlt) ?_
                  refine VL_still rfl rfl rfl (S_loads (vs := xc out[j]) Try.underlying27 rfl ti27 rfl rfl (hc.mono (Sub.refl _) (fun q hq => by simp at hq ⊢; simp [hq]))) ?_
                  refine VL_eff rfl (E_alloc rfl tz27) ?_
                  rintro _ _ _ ⟨b17, hb17, rfl, rfl, rfl⟩
                  refine VL_eff rfl (E_store ti27 rfl rfl rfl rfl rfl (by repeat (first | exact Has.here | apply Has.there)) (by repeat (first | exact PutR.nil | exact SetL.here | apply SetL.there | apply PutR.cons)) (by repeat (first | exact UpdG.here | apply UpdG.there))) ?_
                  rintro _ _ _ ⟨rfl, rfl, rfl⟩
                  refine VL_nil ?_
                  refine VQ_then ?_
                  refine V_region ?_
                  refine VL_still rfl rfl rfl (S_move rfl) ?_
                  refine VL_still rfl rfl rfl (S_field (k := 1) Try.underlying27 rfl rfl ti3 rfl rfl) ?_
                  refine VL_still rfl rfl rfl (S_load Try.underlying3 rfl rfl (Cell.trk (by repeat (first | exact Has.here | apply Has.there)) rfl)) ?_
                  first | refine VL_still rfl rfl rfl (S_addi rfl rfl (by omega) (by omega)) ?_ | refine VL_still rfl rfl rfl (S_add rfl rfl) ?_
                  refine VL_still rfl rfl rfl (S_assign rfl) ?_
                  refine VL_nil ?_
                  refine VQ_block_normal ?_
                  refine VQ_then ?_
                  refine V_region ?_
                  first | refine VL_still rfl rfl rfl (S_addi rfl rfl (by omega) (by omega)) ?_ | refine VL_still rfl rfl rfl (S_add rfl rfl) ?_
                  refine VL_still rfl rfl rfl (S_move rfl) ?_
                  refine VL_nil ?_
                  refine VQ_mid (j + 1) ⟨by omega, by omega⟩ (by rw [sumL_snoc out j hlt]; exact (by repeat (first | exact trivial | refine ⟨rfl, ?_⟩))) rfl (by repeat (first | exact SubB.nil | exact Pick.here | apply Pick.there | apply SubB.emp | apply SubB.cons))
                · skip
                  have hge : j = out.length := by
                    have := of_decide_eq_false hc94
                    omega
                  subst hge
                  rw [List.take_length]
                  refine V_exit ?_
                  refine VQ_then_exit ?_
                  refine VQ_then_exit ?_
                  refine VQ_block_exit ?_
                  refine VQ_then ?_
                  refine V_seq ?_
                  refine V_region ?_
                  refine VL_still rfl rfl rfl (S_move rfl) ?_
                  refine VL_still rfl rfl rfl (S_eql rfl rfl) ?_
                  refine VL_still rfl rfl rfl (S_move rfl) ?_
                  refine VL_bool 104 rfl (fun hc104 => ?_) (fun hc104 => ?_)
                  · skip
                    refine VL_still rfl rfl rfl (S_move rfl) ?_
                    refine VL_still rfl rfl rfl (S_move rfl) ?_
                    refine VL_still rfl rfl rfl (S_max rfl rfl) ?_
                    refine VL_still rfl rfl rfl (S_eql rfl rfl) ?_
                    first | refine VL_still rfl rfl rfl (S_pick_t rfl rfl) ?_ | refine VL_still rfl rfl rfl (S_pick_f rfl rfl) ?_
                    refine VL_still rfl rfl rfl (S_move rfl) ?_
                    refine VL_bool 110 rfl (fun hc110 => ?_) (fun hc110 => ?_)
                    · skip
                      refine VL_still rfl rfl rfl (S_move rfl) ?_
                      refine VL_eff rfl (E_call rfl rfl rfl Try.call10 (count_con g (clampT t) v2 (.slice none 0 0) f2 [] G2 [] h hB2 (by omega) hG2.ok) (by repeat (first | exact Split.nil | exact Pick.here | apply Pick.there | apply Split.cons))) ?_
                      rintro _ _ _ ⟨v112, nb112, ⟨rfl, rfl, rfl⟩, hs112, rfl, rfl⟩
                      have hs2 := hG2.sum
                      refine VL_still rfl rfl rfl (S_move rfl) ?_
                      refine VL_still rfl rfl rfl (S_move rfl) ?_
                      first | refine VL_still rfl rfl rfl (S_subi rfl rfl (by omega) (by omega)) ?_ | refine VL_still rfl rfl rfl (S_sub rfl rfl) ?_
                      refine VL_still rfl rfl rfl (S_eql rfl rfl) ?_
                      first | refine VL_still rfl rfl rfl (S_pick_t rfl rfl) ?_ | refine VL_still rfl rfl rfl (S_pick_f rfl rfl) ?_
                      refine VL_still rfl rfl rfl (S_assign rfl) ?_
                      refine VL_nil ?_
                      refine VQ_then ?_
                      refine V_ret ?_
                      refine VQ_fin1 (nb := []) (by first | exact .inl rfl | exact .inr rfl) rfl (RV_tmp rfl) ?sb ?po
                      case po =>
                        exact ⟨by simp [q1], rfl, rfl⟩
                      case sb => exact (by repeat (first | exact SubB.nil | exact Pick.here | apply Pick.there | apply SubB.emp | apply SubB.cons))
                    · skip
                      simp [q5] at hc110
                  · skip
                    simp at hc104

end Go.Proofs.YtgnjocnbohbfaaaR
