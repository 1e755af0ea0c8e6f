/- Contracts of package extent, part 7: all, commit, new. No conditions. -/
import Derived.Test.YtgnjocnbohbfaaaRQ1
set_option linter.unusedVariables false
set_option linter.unusedSimpArgs false
namespace Go.Proofs.YtgnjocnbohbfaaaR

def clampT (n : Int) : Int := if 0 < (if 1024 < n then 1024 else n) then (if 1024 < n then 1024 else n) else 0
theorem clampT_bd (n : Int) : 0 ≤ clampT n ∧ clampT n ≤ 1024 := by unfold clampT; split <;> split at * <;> omega
def newL (n : Int) : List Ex := if 0 < clampT n then [(0, clampT n)] else []
def AllP (n : Int) (f : List Ex) (er : Int) (out f' : List Ex) : Prop := (sumL f < n ∧ er = 73 ∧ out = [] ∧ f' = f) ∨ (n ≤ sumL f ∧ er = 0 ∧ ∃ n', n' ≤ 0 ∧ AllS n f n' out f')
def putAll (f l : List Ex) : List Ex := l.foldl (fun f e => putL e f) f
theorem putAll_snoc (f l : List Ex) (i : Nat) (hi : i < l.length) : putAll f (l.take (i + 1)) = putL l[i] (putAll f (l.take i)) := by
  rw [List.take_succ_eq_append_getElem hi]
  unfold putAll
  rw [List.foldl_append]
  rfl

set_option maxRecDepth 100000 in
theorem new_con (n : Int) (h : Hp) : Con Try.prog 6 [.int .i64 n] h [] (fun r h' nb => h = h' ∧ ∃ g vf Gf, r = .pointer (some ⟨g, 0, none⟩) ∧ BX vf (newL n) Gf ∧ nb = [GM g (clampT n) vf (.slice none 0 0), Gf, []]) := by
  refine Con_of Try.func6 rfl Try.ntmps6 (Nat.le_of_ble_eq_true rfl) (fun w0 => ?_)
  refine V_seq ?_
  refine V_region ?_
  refine VL_still rfl rfl rfl (S_assign rfl) ?_
  refine VL_nil ?_
  refine VQ_then ?_
  refine V_seq ?_
  refine V_region ?_
  refine VL_still rfl rfl rfl (S_move rfl) ?_
  refine VL_still rfl rfl rfl (S_min rfl rfl) ?_
  refine VL_still rfl rfl rfl (S_max rfl rfl) ?_
  refine VL_still rfl rfl rfl (S_struct Try.underlying43 to43 tz43 rfl (by repeat (first | exact BuildR.nil | exact PutR.nil | exact SetL.here | apply SetL.there | apply PutR.cons | apply BuildR.cons rfl (by first | exact ti3 | exact ti35) rfl rfl rfl))) ?_
  refine VL_eff rfl (E_box rfl rfl rfl) ?_
  rintro _ _ _ ⟨b8, hb8, rfl, rfl, rfl⟩
  refine VL_still rfl rfl rfl (S_assign rfl) ?_
  refine VL_nil ?_
  refine VQ_then ?_
  refine V_seq ?_
  refine V_seq ?_
  refine V_region ?_
  refine VL_still rfl rfl rfl (S_move rfl) ?_
  refine VL_still rfl rfl rfl (S_nil rfl) ?_
  refine VL_still rfl rfl rfl (S_field (k := 0) Try.underlying43 rfl rfl ti3 rfl rfl) ?_
  refine VL_still rfl rfl rfl (S_load Try.underlying3 rfl rfl (Cell.trk (by repeat (first | exact Has.here | apply Has.there)) rfl)) ?_
  refine VL_still rfl rfl rfl (S_gtr rfl rfl) ?_
  refine VL_nil ?_
  refine VQ_then ?_
  refine V_cond rfl (fun hc13 => ?_) (fun hc13 => ?_)
  · skip
    have hN : newL n = [(0, clampT n)] := if_pos (of_decide_eq_true hc13)
    refine V_region ?_
    refine VL_still rfl rfl rfl (S_move rfl) ?_
    refine VL_still rfl rfl rfl (S_move rfl) ?_
    refine VL_still rfl rfl rfl (S_nil rfl) ?_
    refine VL_still rfl rfl rfl (S_field (k := 0) Try.underlying43 rfl rfl ti3 rfl rfl) ?_
    refine VL_still rfl rfl rfl (S_load Try.underlying3 rfl rfl (Cell.trk (by repeat (first | exact Has.here | apply Has.there)) rfl)) ?_
    refine VL_still rfl rfl rfl (S_struct Try.underlying27 to27 tz27 rfl (by repeat (first | exact BuildR.nil | exact PutR.nil | exact SetL.here | apply SetL.there | apply PutR.cons | apply BuildR.cons rfl (by first | exact ti3) rfl rfl rfl))) ?_
    refine VL_eff rfl (E_bs1 rfl Try.underlying35 ti27 rfl rfl rfl rfl rfl rfl) ?_
    rintro _ _ _ ⟨b20, hb20, rfl, rfl, rfl⟩
    refine VL_still rfl rfl rfl (S_nil rfl) ?_
    refine VL_still rfl rfl rfl (S_field (k := 1) Try.underlying43 rfl rfl ti35 rfl rfl) ?_
    refine VL_eff rfl (E_store ti35 rfl rfl rfl rfl rfl (by repeat (first | exact Has.here | apply Has.there)) (by repeat (first | exact PutR.nil | exact SetL.here | apply SetL.there | apply PutR.cons)) (by repeat (first | exact UpdG.here | apply UpdG.there))) ?_
    rintro _ _ _ ⟨rfl, rfl, rfl⟩
    refine VL_nil ?_
    refine VQ_then ?_
    refine V_seq ?_
    refine V_region ?_
    refine VL_still rfl rfl rfl (S_move rfl) ?_
    refine VL_still rfl rfl rfl (S_assign rfl) ?_
    refine VL_nil ?_
    refine VQ_then ?_
    refine V_ret ?_
    refine VQ_fin1 (nb := [GM b8 (clampT n) (.slice (some ⟨b20, 0, none⟩) 1 1) (.slice none 0 0), [(b20, .cells (List.toArray [.int .i64 0, .int .i64 (clampT n)]) 27 (0, 0))], []]) (by first | exact .inl rfl | exact .inr rfl) rfl (RV_tmp rfl) ?sb ?po
    case po =>
      exact ⟨rfl, b8, _, _, rfl, by rw [hN]; exact Buf.lit (n := 1) rfl (by omega), rfl⟩
    case sb => exact (by repeat (first | exact SubB.nil | exact Pick.here | apply Pick.there | apply SubB.emp | apply SubB.cons))
  · skip
    have hN : newL n = [] := if_neg (of_decide_eq_false hc13)
    refine V_skip ?_
    refine VQ_then ?_
    refine V_seq ?_
    refine V_region ?_
    refine VL_still rfl rfl rfl (S_move rfl) ?_
    refine VL_still rfl rfl rfl (S_assign rfl) ?_
    refine VL_nil ?_
    refine VQ_then ?_
    refine V_ret ?_
    refine VQ_fin1 (nb := [GM b8 (clampT n) (.slice none 0 0) (.slice none 0 0), [], []]) (by first | exact .inl rfl | exact .inr rfl) rfl (RV_tmp rfl) ?sb ?po
    case po =>
      exact ⟨rfl, b8, _, _, rfl, by rw [hN]; exact Buf.nil _ _, rfl⟩
    case sb => exact (by repeat (first | exact SubB.nil | exact Pick.here | apply Pick.there | apply SubB.emp | apply SubB.cons))

set_option maxRecDepth 100000 in
theorem all_con (g : Nat) (t : Int) (vf vl : Value) (f l : List Ex) (Gf Gl : Gr) (h : Hp) (hf : BX vf f Gf) (n : Int) (hG : Good f) : Con Try.prog 11 [.pointer (some ⟨g, 0, none⟩), .int .i64 n] h [GM g t vf vl, Gf, Gl] (fun r h' nb => h = h' ∧ ∃ ro er out Go f' v G', r = .tuple #[ro, .int .i64 er] ∧ BX ro out Go ∧ BX v f' G' ∧ AllP n f er out f' ∧ nb = [GM g t v vl, G', Gl, Go]) := by
  refine Con_of Try.func11 rfl Try.ntmps11 (Nat.le_of_ble_eq_true rfl) (fun w0 => ?_)
  refine V_seq ?_
  refine V_region ?_
  refine VL_still rfl rfl rfl (S_assign rfl) ?_
  refine VL_still rfl rfl rfl (S_assign rfl) ?_
  refine VL_nil ?_
  refine VQ_then ?_
  refine V_seq ?_
  refine V_seq ?_
  refine V_region ?_
  refine VL_still rfl rfl rfl (S_move rfl) ?_
  refine VL_still rfl rfl rfl (S_move rfl) ?_
  refine VL_eff rfl (E_call rfl rfl rfl Try.call10 (count_con g t vf vl f l Gf Gl h hf (by have := hG.len; omega) hG.ok) (by repeat (first | exact Split.nil | exact Pick.here | apply Pick.there | apply Split.cons))) ?_
  rintro _ _ _ ⟨v11, nb11, ⟨rfl, rfl, rfl⟩, hs11, rfl, rfl⟩
  refine VL_still rfl rfl rfl (S_gtr rfl rfl) ?_
  refine VL_nil ?_
  refine VQ_then ?_
  refine V_cond rfl (fun hc12 => ?_) (fun hc12 => ?_)
  · skip
    refine V_seq ?_
    refine V_region ?_
    refine VL_still rfl rfl rfl (S_assign rfl) ?_
    refine VL_still rfl rfl rfl (S_assign rfl) ?_
    refine VL_nil ?_
    refine VQ_then ?_
    refine V_ret ?_
    refine VQ_then_ret ?_
    refine VQ_fin2 (nb := [GM g t vf vl, Gf, Gl, []]) (by first | exact .inl rfl | exact .inr rfl) rfl (RV_tmp rfl) (RV_tmp rfl) ?sb ?po
    case po =>
      have k := of_decide_eq_true hc12
      exact ⟨rfl, _, 73, [], [], f, vf, Gf, rfl, Buf.nil _ _, hf, .inl ⟨by omega, rfl, rfl, rfl⟩, rfl⟩
    case sb => exact (by repeat (first | exact SubB.nil | exact Pick.here | apply Pick.there | apply SubB.emp | apply SubB.cons))
  · skip
    have k : n ≤ sumL f := by
      have := of_decide_eq_false hc12
      omega
    refine V_skip ?_
    refine VQ_then ?_
    refine V_seq ?_
    refine V_region ?_
    refine VL_still rfl rfl rfl (S_assign rfl) ?_
    refine VL_nil ?_
    refine VQ_then ?_
    refine V_seq ?_
    refine V_block ?_
    refine V_loop (ι := Int × Value × List Ex × Gr × Value × List Ex × Gr) (fun i => i.1.toNat) (fun (n', vo, out, Go, v', f', G') => AllS n f n' out f' ∧ BX vo out Go ∧ BX v' f' G') (fun (n', vo, out, Go, v', f', G') => [(0, .pointer (some ⟨g, 0, none⟩)), (1, .int .i64 n'), (6, vo)]) (fun _ => h) (fun (n', vo, out, Go, v', f', G') => [GM g t v' vl, G', Gl, Go]) (n, .slice none 0 0, [], [], vf, f, Gf) ⟨.nil, Buf.nil _ _, hf⟩ (by repeat (first | exact trivial | refine ⟨rfl, ?_⟩)) rfl (by repeat (first | exact SubB.nil | exact Pick.here | apply Pick.there | apply SubB.emp | apply SubB.cons)) (fun ⟨n', vo, out, Go, v', f', G'⟩ hi => ?_)
    obtain ⟨hA, hBo, hBf⟩ := hi
    simp only at hA hBo hBf ⊢
    obtain ⟨a1, a2, a3, a4, a5, a6⟩ := hA.facts hG k
    have as0 := a1.sum
    have s0 := hG.sum
    refine V_seq ?_
    refine V_seq ?_
    refine V_region ?_
    refine VL_still rfl rfl rfl (S_move rfl) ?_
    refine VL_still rfl rfl rfl (S_gtr rfl rfl) ?_
    refine VL_nil ?_
    refine VQ_then ?_
    refine V_cond rfl (fun hc14 => ?_) (fun hc14 => ?_)
    · skip
      have hn' : 1 ≤ n' := by
        have := of_decide_eq_true hc14
        omega
      refine V_skip ?_
      refine VQ_then ?_
      refine V_block ?_
      refine V_seq ?_
      refine V_region ?_
      refine VL_still rfl rfl rfl (S_move rfl) ?_
      refine VL_still rfl rfl rfl (S_move rfl) ?_
      refine VL_eff rfl (E_call rfl rfl rfl Try.call7 (alloc_con g t v' vl f' l G' Gl h hBf (by have := a1.len; omega) n' a1.ok) (by repeat (first | exact Split.nil | exact Pick.here | apply Pick.there | apply Split.cons))) ?_
      rintro _ _ _ ⟨v18, nb18, ⟨rfl, e, er, f'', v'', G'', rfl, hP, hB'', rfl⟩, hs18, rfl, rfl⟩
      obtain ⟨rfl, hO, p2, p3⟩ := hP.some a1 hn' a2
      unfold OkE at hO
      refine VL_still rfl rfl rfl (S_move rfl) ?_
      refine VL_still rfl rfl rfl (S_extract rfl rfl) ?_
      refine VL_still rfl rfl rfl (S_extract rfl rfl) ?_
      refine VL_eff rfl (E_alloc rfl tz27) ?_
      rintro _ _ _ ⟨b7, hb7, rfl, rfl, rfl⟩
      refine VL_eff rfl (E_store ti27 rfl rfl rfl rfl rfl (by repeat (first | exact Has.here | apply Has.there)) (by repeat (first | exact PutR.nil | exact SetL.here | apply SetL.there | apply PutR.cons)) (by repeat (first | exact UpdG.here | apply UpdG.there))) ?_
      rintro _ _ _ ⟨rfl, rfl, rfl⟩
      refine VL_still rfl rfl rfl (S_assign rfl) ?_
      refine VL_nil ?_
      refine VQ_then ?_
      refine V_seq ?_
      refine V_region ?_
      refine VL_still rfl rfl rfl (S_move rfl) ?_
      first | refine VL_still rfl rfl rfl (S_loads Try.underlying27 rfl ti27 rfl rfl (Cells.all (by repeat (first | exact Has.here | apply Has.there)))) ?_ | refine VL_still rfl rfl rfl (S_loads Try.underlying27 rfl ti27 rfl rfl (Cells.trk (by repeat (first | exact Has.here | apply Has.there)) (by repeat (first | exact TakeR.here (by repeat (first | exact HeadR.nil | apply HeadR.cons)) | apply TakeR.there)))) ?_
      refine VL_eff rfl (E_bs1 rfl Try.underlying35 ti27 rfl rfl rfl rfl rfl rfl) ?_
      rintro _ _ _ ⟨b23, hb23, rfl, rfl, rfl⟩
      refine VL_eff rfl (X_append rfl Try.underlying35 Try.underlying35 rfl tx27 rfl rfl rfl rfl hBo (by repeat (first | exact Pick.here | apply Pick.there)) (Buf.reads (G := [(b23, .cells (List.toArray [.int .i64 e.1, .int .i64 e.2]) 27 (0, 0))]) (Buf.lit (n := 1) (by rfl) (by omega)) (fun q hq => by simp at hq ⊢; simp [hq])) rfl (by omega)) ?_
      rintro _ _ _ ⟨v24, G24, hB24, rfl, rfl, rfl⟩
      refine VL_still rfl rfl rfl (S_assign rfl) ?_
      refine VL_nil ?_
      refine VQ_then ?_
      refine V_region ?_
      refine VL_still rfl rfl rfl (S_move rfl) ?_
      refine VL_still rfl rfl rfl (S_field (k := 1) Try.underlying27 rfl rfl ti3 rfl rfl) ?_
      refine VL_still rfl rfl rfl (S_load Try.underlying3 rfl rfl (Cell.trk (by repeat (first | exact Has.here | apply Has.there)) rfl)) ?_
      first | refine VL_still rfl rfl rfl (S_subi rfl rfl (by omega) (by omega)) ?_ | refine VL_still rfl rfl rfl (S_sub rfl rfl) ?_
      refine VL_still rfl rfl rfl (S_assign rfl) ?_
      refine VL_nil ?_
      refine VQ_block_normal ?_
      refine VQ_mid (n' - e.2, v24, out ++ [e], G24, v'', f'', G'') ⟨⟨hA.snoc hn' hP, ?_, hB''⟩, by simp only; omega⟩ (by repeat (first | exact trivial | refine ⟨rfl, ?_⟩)) rfl (by repeat (first | exact SubB.nil | exact Pick.here | apply Pick.there | apply SubB.emp | apply SubB.cons))
      show Buf 27 2 _ _ _ _
      rw [xcs_app, List.length_append]
      exact hB24
    · skip
      refine V_exit ?_
      refine VQ_then_exit ?_
      refine VQ_then_exit ?_
      refine VQ_block_exit ?_
      refine VQ_then ?_
      refine V_seq ?_
      refine V_region ?_
      refine VL_still rfl rfl rfl (S_move rfl) ?_
      refine VL_still rfl rfl rfl (S_assign rfl) ?_
      refine VL_still rfl rfl rfl (S_assign rfl) ?_
      refine VL_nil ?_
      refine VQ_then ?_
      refine V_ret ?_
      refine VQ_fin2 (nb := [GM g t v' vl, G', Gl, Go]) (by first | exact .inl rfl | exact .inr rfl) rfl (RV_tmp rfl) (RV_tmp rfl) ?sb ?po
      case po =>
        have k2 := of_decide_eq_false hc14
        exact ⟨rfl, vo, 0, out, Go, f', v', G', rfl, hBo, hBf, .inr ⟨k, rfl, n', by omega, hA⟩, rfl⟩
      case sb => exact (by repeat (first | exact SubB.nil | exact Pick.here | apply Pick.there | apply SubB.emp | apply SubB.cons))

set_option maxRecDepth 100000 in
theorem commit_con (g : Nat) (t : Int) (vf vl : Value) (f l : List Ex) (Gf Gl : Gr) (h : Hp) (hf : BX vf f Gf) (hl : BX vl l Gl) (hL : ∀ x ∈ l, OkE x) (hll : l.length ≤ 10000) (hG : ∀ i, Good (putAll f (l.take i))) : Con Try.prog 13 [.pointer (some ⟨g, 0, none⟩)] h [GM g t vf vl, Gf, Gl] (fun r h' nb => h = h' ∧ ∃ v G', BX v (putAll f l) G' ∧ nb = [GM g t v (.slice none 0 0), G', Gl]) := by
  obtain ⟨A, cap, rfl, hle, hmx⟩ := (hl.rd h).form
  refine Con_of Try.func13 rfl Try.ntmps13 (Nat.le_of_ble_eq_true rfl) (fun w0 => ?_)
  refine V_seq ?_
  refine V_seq ?_
  refine V_region ?_
  refine VL_still rfl rfl rfl (S_move rfl) ?_
  refine VL_still rfl rfl rfl (S_nil rfl) ?_
  refine VL_still rfl rfl rfl (S_field (k := 2) Try.underlying43 rfl rfl ti35 rfl rfl) ?_
  refine VL_still rfl rfl rfl (S_load Try.underlying35 rfl rfl (Cell.trk (by repeat (first | exact Has.here | apply Has.there)) rfl)) ?_
  refine VL_still rfl rfl rfl (S_len Try.underlying35 rfl) ?_
  refine VL_still rfl rfl rfl (S_move rfl) ?_
  refine VL_nil ?_
  refine VQ_then ?_
  refine V_block ?_
  refine V_loop (ι := Nat × Value × Gr) (fun i => l.length - i.1) (fun (i, v', G') => i ≤ l.length ∧ BX v' (putAll f (l.take i)) G') (fun (i, v', G') => [(0, .pointer (some ⟨g, 0, none⟩)), (7, .slice A l.length cap), (8, .int .i64 l.length), (9, .int .i64 i)]) (fun _ => h) (fun (i, v', G') => [GM g t v' (.slice A l.length cap), G', Gl]) (0, vf, Gf) ⟨Nat.zero_le _, hf⟩ (by repeat (first | exact trivial | refine ⟨rfl, ?_⟩)) rfl (by repeat (first | exact SubB.nil | exact Pick.here | apply Pick.there | apply SubB.emp | apply SubB.cons)) (fun ⟨i, v', G'⟩ hi => ?_)
  obtain ⟨hi1, hB⟩ := hi
  simp only at hi1 hB ⊢
  obtain ⟨A', c', rfl, _, _⟩ := BX.rd hB h
  refine V_seq ?_
  refine V_region ?_
  refine VL_still rfl rfl rfl (S_lss rfl rfl) ?_
  refine VL_nil ?_
  refine VQ_then ?_
  refine V_seq ?_
  refine V_cond rfl (fun hc10 => ?_) (fun hc10 => ?_)
  · skip
    have hlt : i < l.length := by
      have := of_decide_eq_true hc10
      omega
    obtain ⟨bb, off, cap', e1, hc⟩ := (hl.rd h).at_ xcE rfl hlt
    cases e1
    refine V_skip ?_
    refine VQ_then ?_
    refine V_seq ?_
    refine V_block ?_
    refine V_seq ?_
    refine V_region ?_
    refine VL_still rfl rfl rfl (X_at i Try.underlying35 tx27 rfl rfl hlt) ?_
    refine VL_still rfl rfl rfl (S_loads (vs := xc l[i]) Try.underlying27 rfl ti27 rfl rfl (hc.mono (Sub.refl _) (fun q hq => by simp at hq ⊢; simp [hq]))) ?_
    refine VL_eff rfl (E_alloc rfl tz27) ?_
    rintro _ _ _ ⟨b3, hb3, rfl, rfl, rfl⟩
    refine VL_eff rfl (E_store ti27 rfl rfl rfl rfl rfl (by repeat (first | exact Has.here | apply Has.there)) (by repeat (first | exact PutR.nil | exact SetL.here | apply SetL.there | apply PutR.cons)) (by repeat (first | exact UpdG.here | apply UpdG.there))) ?_
    rintro _ _ _ ⟨rfl, rfl, rfl⟩
    refine VL_nil ?_
    refine VQ_then ?_
    refine V_drawL _ [GM g t (.slice A' (putAll f (l.take i)).length c') (.slice (some ⟨bb, off, none⟩) l.length cap), Gl, [(b3, .cells (List.toArray [.int .i64 l[i].1, .int .i64 l[i].2]) 27 (0, 0))]] 576 Try.mixed (by kernel_rfl) (by kernel_rfl) (Sub.refl _) (by repeat (first | exact SubB.nil | exact Pick.here | apply Pick.there | apply SubB.emp | apply SubB.cons)) ?_
    refine VD_still rfl rfl rfl rfl (S_move rfl) ?_
    refine VD_still rfl rfl rfl rfl (S_move rfl) ?_
    refine VD_still rfl rfl rfl rfl (S_nil rfl) ?_
    refine VD_still rfl rfl rfl rfl (S_field (k := 1) Try.underlying43 rfl rfl ti35 rfl rfl) ?_
    refine VD_still rfl rfl rfl rfl (S_load Try.underlying35 rfl rfl (Cell.trk (by repeat (first | exact Has.here | apply Has.there)) rfl)) ?_
    first | refine VD_still rfl rfl rfl rfl (S_loads Try.underlying27 rfl ti27 rfl rfl (Cells.all (by repeat (first | exact Has.here | apply Has.there)))) ?_ | refine VD_still rfl rfl rfl rfl (S_loads Try.underlying27 rfl ti27 rfl rfl (Cells.trk (by repeat (first | exact Has.here | apply Has.there)) (by repeat (first | exact TakeR.here (by repeat (first | exact HeadR.nil | apply HeadR.cons)) | apply TakeR.there)))) ?_
    refine VD_eff rfl rfl (E_call rfl rfl rfl Try.call18 (put_con _ (putAll f (l.take i)) l[i].1 l[i].2 G' h hB (by have := (hG i).len; omega) (hG i).ok (hL l[i] (List.getElem_mem hlt))) (by repeat (first | exact Split.nil | exact Pick.here | apply Pick.there | apply Split.cons))) ?_
    rintro _ _ _ ⟨v19, nb19, ⟨rfl, G19, hB19, rfl⟩, hs19, rfl, rfl⟩
    obtain ⟨A19, c19, rfl, _, _⟩ := BX.rd hB19 h
    refine ⟨⟨(by first | exact Sub.refl _ | assumption | exact Sub.trans (by assumption) (by assumption)), (by repeat (first | exact SubB.nil | exact Pick.here | apply Pick.there | apply SubB.emp | apply SubB.cons))⟩, ?_⟩
    refine VD_still rfl rfl rfl rfl (S_nil rfl) ?_
    refine VD_still rfl rfl rfl rfl (S_field (k := 1) Try.underlying43 rfl rfl ti35 rfl rfl) ?_
    refine VD_last rfl rfl (E_store ti35 rfl rfl rfl rfl rfl (by repeat (first | exact Has.here | apply Has.there)) (by repeat (first | exact PutR.nil | exact SetL.here | apply SetL.there | apply PutR.cons)) (by repeat (first | exact UpdG.here | apply UpdG.there))) ?_
    rintro _ _ _ ⟨rfl, rfl, rfl⟩
    refine VQ_block_normal ?_
    refine VQ_then ?_
    refine V_region ?_
    first | refine VL_still rfl rfl rfl (S_addi rfl rfl (by omega) (by omega)) ?_ | refine VL_still rfl rfl rfl (S_add rfl rfl) ?_
    refine VL_still rfl rfl rfl (S_move rfl) ?_
    refine VL_nil ?_
    refine VQ_mid (i + 1, _, G19) ⟨⟨by omega, ?_⟩, by simp only; omega⟩ (by repeat (first | exact trivial | refine ⟨rfl, ?_⟩)) rfl (by repeat (first | exact SubB.nil | exact Pick.here | apply Pick.there | apply SubB.emp | apply SubB.cons))
    rw [putAll_snoc f l i hlt]
    exact hB19
  · skip
    refine V_exit ?_
    refine VQ_then_exit ?_
    refine VQ_then_exit ?_
    refine VQ_block_exit ?_
    refine VQ_then ?_
    refine V_region ?_
    refine VL_still rfl rfl rfl (S_move rfl) ?_
    refine VL_still rfl rfl rfl (S_nil rfl) ?_
    refine VL_still rfl rfl rfl (S_field (k := 2) Try.underlying43 rfl rfl ti35 rfl rfl) ?_
    refine VL_eff rfl (E_store ti35 rfl rfl rfl rfl rfl (by repeat (first | exact Has.here | apply Has.there)) (by repeat (first | exact PutR.nil | exact SetL.here | apply SetL.there | apply PutR.cons)) (by repeat (first | exact UpdG.here | apply UpdG.there))) ?_
    rintro _ _ _ ⟨rfl, rfl, rfl⟩
    refine VL_nil ?_
    refine VQ_fin0 (nb := [GM g t (.slice A' (putAll f (l.take i)).length c') (.slice none 0 0), G', Gl]) (by first | exact .inl rfl | exact .inr rfl) rfl ?sb ?po
    case po =>
      have hge : i = l.length := by
        have := of_decide_eq_false hc10
        omega
      subst hge
      rw [List.take_length] at hB ⊢
      exact ⟨rfl, _, _, hB, rfl⟩
    case sb => exact (by repeat (first | exact SubB.nil | exact Pick.here | apply Pick.there | apply SubB.emp | apply SubB.cons))

end Go.Proofs.YtgnjocnbohbfaaaR
