/- A tree's methods. No conditions. -/
import Derived.Test.YtdglignjoojimaaB9
set_option linter.unusedVariables false
set_option linter.unusedSimpArgs false
namespace Go.Proofs.Ytdglignjoojimaa

/-- A tree of some pairs, known for good. -/
def TreeAt (h : Hp) (b : Nat) (l : List Pr) : Prop :=
  ∃ d t rb, h b = some (.cells (List.toArray [ptr rb, .int .i64 (l.length : Nat)]) 85 (0, 0)) ∧ Rp h d rb t ∧ TOk d t l
theorem TreeAt.sub {h h' : Hp} {b : Nat} {l : List Pr} (t : TreeAt h b l) (s : Sub h h') : TreeAt h' b l :=
  let ⟨d, t, rb, a, r, o⟩ := t
  ⟨d, t, rb, s _ _ a, Rp.sub s r, o⟩
theorem TreeAt.up {h : Hp} {b : Nat} {l : List Pr} (t : TreeAt h b l) : Up 0 top (keysP l) := let ⟨_, _, _, _, _, o⟩ := t; o.up
abbrev xv (e : Ext) : Value := .agg #[.int .i64 e.1, .int .i64 e.2]
theorem Rp.kids {h : Hp} : ∀ {d b : Nat} {t : Tr}, Rp h d b t → d ≠ 0 → ∃ d' ks ts bs, d = d' + 1 ∧ t = .node ks ts ∧ NodeAt h b ks [] bs ∧ All2 (Rp h d') bs ts
  | 0, _, _, _, hd => absurd rfl hd
  | d + 1, b, .node ks ts, ⟨bs, n, a⟩, _ => ⟨d, ks, ts, bs, rfl, rfl, n, a⟩
theorem Rp.pairs {h : Hp} : ∀ {d b : Nat} {t : Tr}, Rp h d b t → d = 0 → ∃ l, t = .leaf l ∧ NodeAt h b (keysP l) (l.map (fun p => p.2)) []
  | 0, b, .leaf l, r, _ => ⟨l, rfl, r⟩

set_option maxRecDepth 100000 in
theorem len_con (b : Nat) (l : List Pr) (h : Hp) (hT : TreeAt h b l) : Con Try.prog 13 [ptr b] h [] (fun r h' nb => r = .int .i64 (l.length : Nat) ∧ h = h' ∧ nb = []) := by
  obtain ⟨d, t, rb, hb, hR, hO⟩ := hT
  refine Con_of Try.func13 rfl Try.ntmps13 (Nat.le_of_ble_eq_true rfl) (fun w0 => ?_)
  refine V_seq ?_
  refine V_region ?_
  refine VL_still rfl rfl rfl (S_assign rfl) ?_
  refine VL_nil ?_
  refine VQ_then ?_
  refine V_seq ?_
  refine V_region ?_
  refine VL_still rfl rfl rfl (S_move rfl) ?_
  refine VL_still rfl rfl rfl (S_nil rfl) ?_
  refine VL_still rfl rfl rfl (S_field (k := 1) Try.underlying85 rfl rfl ti3 rfl rfl) ?_
  first | refine VL_still rfl rfl rfl (S_load Try.underlying3 rfl rfl (Cell.trk (by repeat (first | exact Has.here | apply Has.there)) rfl)) ?_ | refine VL_still rfl rfl rfl (S_load Try.underlying3 rfl rfl (Cell.known (by first | assumption | exact (by assumption : Sub _ _) _ _ (by assumption) | exact (Sub.trans (by assumption) (by assumption)) _ _ (by assumption)) rfl)) ?_
  refine VL_still rfl rfl rfl (S_assign rfl) ?_
  refine VL_nil ?_
  refine VQ_then ?_
  refine V_ret ?_
  refine VQ_fin1 (nb := []) (by first | exact .inl rfl | exact .inr rfl) rfl (RV_tmp rfl) ?sb ?po
  case po =>
    exact ⟨rfl, rfl, rfl⟩
  case sb => exact (by repeat (first | exact SubB.nil | exact Pick.here | apply Pick.there | apply SubB.emp | apply SubB.cons))

set_option maxRecDepth 100000 in
theorem new_con (h : Hp) : Con Try.prog 36 [] h [] (fun r h' nb => nb = [] ∧ ∃ b, r = ptr b ∧ TreeAt h' b []) := by
  refine Con_of Try.func36 rfl Try.ntmps36 (Nat.le_of_ble_eq_true rfl) (fun w0 => ?_)
  refine V_seq ?_
  refine V_region ?_
  refine VL_still rfl rfl rfl (S_assign rfl) ?_
  refine VL_nil ?_
  refine VQ_then ?_
  refine V_seq ?_
  refine V_region ?_
  refine VL_still rfl rfl rfl (S_struct Try.underlying92 to92 tz92 rfl (by repeat (first | exact BuildR.nil | exact PutR.nil | exact SetL.here | apply SetL.there | apply PutR.cons | apply BuildR.cons rfl (by first | exact ti88 | exact ti89 | exact ti90) rfl rfl rfl))) ?_
  refine VL_eff rfl (E_box rfl rfl rfl) ?_
  rintro _ _ _ ⟨b2, hb2, rfl, rfl, rfl⟩
  refine VL_still rfl rfl rfl (S_struct Try.underlying85 to85 tz85 rfl (by repeat (first | exact BuildR.nil | exact PutR.nil | exact SetL.here | apply SetL.there | apply PutR.cons | apply BuildR.cons rfl (by first | exact ti3 | exact ti83) rfl rfl rfl))) ?_
  refine VL_eff rfl (E_box rfl rfl rfl) ?_
  rintro _ _ _ ⟨b4, hb4, rfl, rfl, rfl⟩
  refine VL_still rfl rfl rfl (S_assign rfl) ?_
  refine VL_nil ?_
  refine VQ_then ?_
  refine V_ret ?_
  refine VQ_keeps (blA := [GN b2 (.slice none 0 0) (.slice none 0 0) (.slice none 0 0), [(b4, .cells (List.toArray [ptr b2, .int .i64 0]) 85 (0, 0))]]) (by repeat (first | exact Split.nil | exact Pick.here | apply Pick.there | apply Split.cons)) (fun h1 sh1 kh1 => ?_)
  obtain ⟨q1, q2, _⟩ := kh1
  refine VQ_fin1 (nb := []) (by first | exact .inl rfl | exact .inr rfl) rfl (RV_tmp rfl) ?sb ?po
  case po =>
    exact ⟨rfl, b4, rfl, 0, .leaf [], b2, q2 (b4, .cells (List.toArray [ptr b2, .int .i64 0]) 85 (0, 0)) (by simp), NodeAt.own (Gk := []) (Gv := []) (Gc := []) q1 (fun q hq => by simp at hq) (fun q hq => by simp at hq) (fun q hq => by simp at hq) (Buf.nil _ _) (Buf.nil _ _) (Buf.nil _ _), TOk.new⟩
  case sb => exact (by repeat (first | exact SubB.nil | exact Pick.here | apply Pick.there | apply SubB.emp | apply SubB.cons))

set_option maxRecDepth 100000 in
theorem get_con (b : Nat) (l : List Pr) (h : Hp) (hT : TreeAt h b l) (k : Int) (h0 : 0 ≤ k) (h1 : k < top) : Con Try.prog 17 [ptr b, .int .u64 k] h [] (fun r h' nb => r = .tuple #[xv ((lookP l k).getD (0, 0)), .bool (lookP l k).isSome] ∧ h = h' ∧ nb = []) := by
  obtain ⟨d, t, rb, hb, hR, hO⟩ := hT
  refine Con_of Try.func17 rfl Try.ntmps17 (Nat.le_of_ble_eq_true rfl) (fun w0 => ?_)
  refine V_seq ?_
  refine V_region ?_
  refine VL_eff rfl (E_alloc rfl tz34) ?_
  rintro _ _ _ ⟨b4, hb4, rfl, rfl, rfl⟩
  refine VL_still rfl rfl rfl (S_assign rfl) ?_
  refine VL_nil ?_
  refine VQ_then ?_
  refine V_seq ?_
  refine V_region ?_
  refine VL_still rfl rfl rfl (S_move rfl) ?_
  refine VL_still rfl rfl rfl (S_nil rfl) ?_
  refine VL_still rfl rfl rfl (S_field (k := 0) Try.underlying85 rfl rfl ti83 rfl rfl) ?_
  first | refine VL_still rfl rfl rfl (S_load Try.underlying83 rfl rfl (Cell.trk (by repeat (first | exact Has.here | apply Has.there)) rfl)) ?_ | refine VL_still rfl rfl rfl (S_load Try.underlying83 rfl rfl (Cell.known (by first | assumption | exact (by assumption : Sub _ _) _ _ (by assumption) | exact (Sub.trans (by assumption) (by assumption)) _ _ (by assumption)) rfl)) ?_
  refine VL_still rfl rfl rfl (S_assign rfl) ?_
  refine VL_nil ?_
  refine VQ_then ?_
  refine V_seq ?_
  refine V_block ?_
  refine V_loop (ι := Nat × Nat × Tr × Int × Int) (fun x => x.1) (fun (d', b', t', lo', hi') => Rp h d' b' t' ∧ In d' lo' hi' t' ∧ lo' ≤ k ∧ k < hi' ∧ getT d' t' k = getT d t k ∧ Kd d' t' ∧ nk t' ≤ 7) (fun (d', b', t', lo', hi') => [(0, ptr b), (1, .int .u64 k), (4, ptr b4), (6, ptr b')]) (fun _ => h) (fun _ => [[(b4, .cells (List.toArray [.int .i64 0, .int .i64 0]) 34 (0, 0))]]) (d, rb, t, 0, top) ⟨hR, hO.in_, h0, h1, rfl, hO.kids, hO.few⟩ (by repeat (first | exact trivial | refine ⟨rfl, ?_⟩)) rfl (by repeat (first | exact SubB.nil | exact Pick.here | apply Pick.there | apply SubB.emp | apply SubB.cons)) (fun ⟨d', b', t', lo', hi'⟩ hi => ?_)
  obtain ⟨hR', hI', k0, k1, hg, hK', hn'⟩ := hi
  simp only at hR' hI' k0 k1 hg hK' hn' ⊢
  obtain ⟨vs', bs', hN', hcase⟩ := Rp.node hR' hI'.sh
  refine V_seq ?_
  refine V_seq ?_
  refine V_region ?_
  refine VL_still rfl rfl rfl (S_move rfl) ?_
  refine VL_eff rfl (E_call rfl rfl rfl Try.call39 (leaf_con b' _ _ _ h hN') (by repeat (first | exact Split.nil | exact Pick.here | apply Pick.there | apply Split.cons))) ?_
  rintro _ hh14 _ ⟨v14, nb14, ⟨rfl, rfl, rfl⟩, hs14, rfl, rfl⟩
  refine VL_still rfl rfl rfl (S_not rfl) ?_
  refine VL_nil ?_
  refine VQ_then ?_
  refine V_cond rfl (fun hc15 => ?_) (fun hc15 => ?_)
  · skip
    have hd : d' ≠ 0 := by
      rcases hcase with ⟨_, e, _⟩ | ⟨e, _⟩
      · simp [e] at hc15
      · exact e
    obtain ⟨d2, ks, ts, bs, rfl, rfl, hN2, hA2⟩ := hR'.kids hd
    have hI2 : Ch (In d2) lo' hi' ks ts := hI'
    have hlen := hI2.len
    have hbl := hA2.len
    have hil := ub_le ks k
    have hib : ub ks k < bs.length := by omega
    have hit : ub ks k < ts.length := by omega
    obtain ⟨lo2, hi2, hIx, hkx⟩ := hI2.at_key hit k0 k1
    obtain ⟨bi, hbi, hRi⟩ := hA2.get (List.getElem?_eq_getElem hit)
    have hbi' : bs[ub ks k] = bi := by rw [List.getElem?_eq_getElem hib] at hbi; exact Option.some.inj hbi
    obtain ⟨kv2, vv2, cv2, hb2, hk2, hv2, hc2⟩ := hN2
    obtain ⟨bb, off, cap', e1, hcc⟩ := hc2.at_ pcE rfl hib
    cases e1
    rw [hbi'] at hcc
    have hn2 : ks.length ≤ 7 := hn'
    have hKx := hK' ts[ub ks k] (List.getElem_mem hit)
    refine V_skip ?_
    refine VQ_then ?_
    refine V_block ?_
    refine V_draw _ [] 64 Try.mixed (by kernel_rfl) (Sub.refl _) SubB.nil ?_
    refine VD_still rfl rfl rfl rfl (S_move rfl) ?_
    refine VD_still rfl rfl rfl rfl (S_nil rfl) ?_
    refine VD_still rfl rfl rfl rfl (S_field (k := 2) Try.underlying92 rfl rfl ti90 rfl rfl) ?_
    refine VD_still rfl rfl rfl rfl (S_load Try.underlying90 rfl rfl (Cell.known hb2 rfl)) ?_
    refine VD_still rfl rfl rfl rfl (S_move rfl) ?_
    refine VD_still rfl rfl rfl rfl (S_move rfl) ?_
    refine VD_eff rfl rfl (E_call rfl rfl rfl Try.call40 (way_con b' _ _ _ h ⟨_, _, _, hb2, hk2, hv2, hc2⟩ k _ _ hI2.seps (by omega)) (by repeat (first | exact Split.nil | exact Pick.here | apply Pick.there | apply Split.cons))) ?_
    rintro _ hh22 _ ⟨v22, nb22, ⟨rfl, rfl, rfl⟩, hs22, rfl, rfl⟩
    refine ⟨⟨(by first | exact Sub.refl _ | assumption | exact Sub.trans (by assumption) (by assumption)), (by repeat (first | exact SubB.nil | exact Pick.here | apply Pick.there | apply SubB.emp | apply SubB.cons))⟩, ?_⟩
    refine VD_still rfl rfl rfl rfl (X_at (ub ks k) Try.underlying90 tx83 rfl rfl hib) ?_
    refine VD_still rfl rfl rfl rfl (S_load Try.underlying83 rfl rfl hcc.1.mem) ?_
    refine VD_still rfl rfl rfl rfl (S_assign rfl) ?_
    refine VD_nil ?_
    refine VQ_block_normal ?_
    refine VQ_mid (d2, bi, ts[ub ks k], lo2, hi2) ⟨⟨hRi, hIx, hkx.1, hkx.2, ?_, hKx.2.2, hKx.2.1⟩, by simp only; omega⟩ (by repeat (first | exact trivial | refine ⟨rfl, ?_⟩)) rfl (by repeat (first | exact SubB.nil | exact Pick.here | apply Pick.there | apply SubB.emp | apply SubB.cons))
    rw [← hg, getT_s, List.getElem?_eq_getElem hit]
  · skip
    have hd : d' = 0 := by
      rcases hcase with ⟨e, _⟩ | ⟨e, _, e2⟩
      · exact e
      · exfalso
        have : bs' = [] := by simpa using hc15
        subst this
        simp at e2
    obtain ⟨l', rfl, hN2⟩ := hR'.pairs hd
    subst hd
    have hI2 : Up lo' hi' (keysP l') := hI'
    have hn2 : (keysP l').length ≤ 7 := hn'
    have hkl := keysP_len l'
    obtain ⟨kv2, vv2, cv2, hb2, hk2, hv2, hc2⟩ := hN2
    have hgl : lookP l k = getT 0 (.leaf l') k := by rw [hg, get_ok hO.in_ h0 h1, hO.flat_]
    refine V_exit ?_
    refine VQ_then_exit ?_
    refine VQ_then_exit ?_
    refine VQ_block_exit ?_
    refine VQ_then ?_
    refine V_seq ?_
    refine V_seq ?_
    refine V_region ?_
    refine VL_still rfl rfl rfl (S_move rfl) ?_
    refine VL_still rfl rfl rfl (S_nil rfl) ?_
    refine VL_still rfl rfl rfl (S_field (k := 0) Try.underlying92 rfl rfl ti88 rfl rfl) ?_
    refine VL_still rfl rfl rfl (S_load Try.underlying88 rfl rfl (Cell.known hb2 rfl)) ?_
    refine VL_still rfl rfl rfl (S_move rfl) ?_
    refine VL_eff rfl (E_call rfl rfl rfl Try.call41 (bs_con _ (keysP l') k _ _ h hk2 hI2 (by omega)) (by repeat (first | exact Split.nil | exact Pick.here | apply Pick.there | apply Split.cons))) ?_
    rintro _ hh31 _ ⟨v31, nb31, ⟨rfl, rfl, rfl⟩, hs31, rfl, rfl⟩
    refine VL_still rfl rfl rfl (S_move rfl) ?_
    refine VL_still rfl rfl rfl (S_extract rfl rfl) ?_
    refine VL_still rfl rfl rfl (S_extract rfl rfl) ?_
    refine VL_still rfl rfl rfl (S_assign rfl) ?_
    refine VL_still rfl rfl rfl (S_assign rfl) ?_
    refine VL_nil ?_
    refine VQ_then ?_
    refine V_seq ?_
    refine V_region ?_
    refine VL_still rfl rfl rfl (S_move rfl) ?_
    refine VL_nil ?_
    refine VQ_then ?_
    refine V_cond rfl (fun hc34 => ?_) (fun hc34 => ?_)
    · skip
      have hf : (keysP l')[lb (keysP l') k]? = some k := of_decide_eq_true hc34
      have hlt : lb (keysP l') k < (l'.map (fun p => p.2)).length := by
        have := (List.getElem?_eq_some_iff.1 hf).1
        simpa [keysP] using this
      obtain ⟨bb, off, cap', e1, hcc⟩ := hv2.at_ xcE rfl hlt
      cases e1
      refine V_seq ?_
      refine V_region ?_
      refine VL_still rfl rfl rfl (S_move rfl) ?_
      refine VL_still rfl rfl rfl (S_nil rfl) ?_
      refine VL_still rfl rfl rfl (S_field (k := 1) Try.underlying92 rfl rfl ti89 rfl rfl) ?_
      refine VL_still rfl rfl rfl (S_load Try.underlying89 rfl rfl (Cell.known hb2 rfl)) ?_
      refine VL_still rfl rfl rfl (S_move rfl) ?_
      refine VL_still rfl rfl rfl (X_at (lb (keysP l') k) Try.underlying89 tx34 rfl rfl hlt) ?_
      refine VL_still rfl rfl rfl (S_loads (vs := xc (l'.map (fun p => p.2))[lb (keysP l') k]) Try.underlying34 rfl ti34 rfl rfl (hcc.mono (Sub.refl _) (fun q hq => by simp at hq))) ?_
      refine VL_eff rfl (E_store ti34 rfl rfl rfl rfl rfl (by repeat (first | exact Has.here | apply Has.there)) (by repeat (first | exact PutR.nil | exact SetL.here | apply SetL.there | apply PutR.cons)) (by repeat (first | exact UpdG.here | apply UpdG.there))) ?_
      rintro _ _ _ ⟨rfl, rfl, rfl⟩
      refine VL_still rfl rfl rfl (S_assign rfl) ?_
      refine VL_nil ?_
      refine VQ_then ?_
      refine V_ret ?_
      refine VQ_then_ret ?_
      refine VQ_fin2 (nb := []) (by first | exact .inl rfl | exact .inr rfl) rfl (RV_cells Try.underlying34 rfl ti34 rfl rfl (Cells.all (by repeat (first | exact Has.here | apply Has.there)))) (RV_tmp rfl) ?sb ?po
      case po =>
        have e : lookP l k = some (l'.map (fun p => p.2))[lb (keysP l') k] := by
          rw [hgl, getT_0, if_pos hf, ← List.getElem?_map, List.getElem?_eq_getElem hlt]
        rw [e]
        exact ⟨rfl, rfl, rfl⟩
      case sb => exact (by repeat (first | exact SubB.nil | exact Pick.here | apply Pick.there | apply SubB.emp | apply SubB.cons))
    · skip
      have hf : (keysP l')[lb (keysP l') k]? ≠ some k := of_decide_eq_false hc34
      refine V_skip ?_
      refine VQ_then ?_
      refine V_seq ?_
      refine V_region ?_
      refine VL_still rfl rfl rfl (S_struct Try.underlying34 to34 tz34 rfl (by repeat (first | exact BuildR.nil | exact PutR.nil | exact SetL.here | apply SetL.there | apply PutR.cons | apply BuildR.cons rfl (by first | exact ti3) rfl rfl rfl))) ?_
      refine VL_eff rfl (E_store ti34 rfl rfl rfl rfl rfl (by repeat (first | exact Has.here | apply Has.there)) (by repeat (first | exact PutR.nil | exact SetL.here | apply SetL.there | apply PutR.cons)) (by repeat (first | exact UpdG.here | apply UpdG.there))) ?_
      rintro _ _ _ ⟨rfl, rfl, rfl⟩
      refine VL_still rfl rfl rfl (S_assign rfl) ?_
      refine VL_nil ?_
      refine VQ_then ?_
      refine V_ret ?_
      refine VQ_fin2 (nb := []) (by first | exact .inl rfl | exact .inr rfl) rfl (RV_cells Try.underlying34 rfl ti34 rfl rfl (Cells.all (by repeat (first | exact Has.here | apply Has.there)))) (RV_tmp rfl) ?sb ?po
      case po =>
        have e : lookP l k = none := by rw [hgl, getT_0, if_neg hf]
        rw [e]
        exact ⟨rfl, rfl, rfl⟩
      case sb => exact (by repeat (first | exact SubB.nil | exact Pick.here | apply Pick.there | apply SubB.emp | apply SubB.cons))

set_option maxRecDepth 100000 in
theorem tput_con (b : Nat) (l : List Pr) (h : Hp) (hT : TreeAt h b l) (k s n : Int) (h0 : 0 ≤ k) (h1 : k < top) (hn : l.length ≤ 1000000) : Con Try.prog 20 [ptr b, .int .u64 k, .agg #[.int .i64 s, .int .i64 n]] h [] (fun r h' nb => nb = [] ∧ ∃ b', r = ptr b' ∧ TreeAt h' b' (insP l k (s, n))) := by
  obtain ⟨d, t, rb, hb, hR, hO⟩ := hT
  refine Con_of Try.func20 rfl Try.ntmps20 (Nat.le_of_ble_eq_true rfl) (fun w0 => ?_)
  refine V_seq ?_
  refine V_region ?_
  refine VL_eff rfl (E_box rfl rfl rfl) ?_
  rintro _ _ _ ⟨b5, hb5, rfl, rfl, rfl⟩
  refine VL_still rfl rfl rfl (S_assign rfl) ?_
  refine VL_nil ?_
  refine VQ_then ?_
  refine V_seq ?_
  refine V_region ?_
  refine VL_still rfl rfl rfl (S_move rfl) ?_
  refine VL_still rfl rfl rfl (S_nil rfl) ?_
  refine VL_still rfl rfl rfl (S_field (k := 1) Try.underlying85 rfl rfl ti3 rfl rfl) ?_
  first | refine VL_still rfl rfl rfl (S_load Try.underlying3 rfl rfl (Cell.trk (by repeat (first | exact Has.here | apply Has.there)) rfl)) ?_ | refine VL_still rfl rfl rfl (S_load Try.underlying3 rfl rfl (Cell.known (by first | assumption | exact (by assumption : Sub _ _) _ _ (by assumption) | exact (Sub.trans (by assumption) (by assumption)) _ _ (by assumption)) rfl)) ?_
  refine VL_still rfl rfl rfl (S_assign rfl) ?_
  refine VL_nil ?_
  refine VQ_then ?_
  refine V_seq ?_
  refine V_seq ?_
  refine V_region ?_
  refine VL_still rfl rfl rfl (S_move rfl) ?_
  refine VL_still rfl rfl rfl (S_move rfl) ?_
  refine VL_eff rfl (E_call rfl rfl rfl Try.call17 (get_con b l h ⟨d, t, rb, hb, hR, hO⟩ k h0 h1) (by repeat (first | exact Split.nil | exact Pick.here | apply Pick.there | apply Split.cons))) ?_
  rintro _ hh20 _ ⟨v20, nb20, ⟨rfl, rfl, rfl⟩, hs20, rfl, rfl⟩
  refine VL_still rfl rfl rfl (S_move rfl) ?_
  refine VL_still rfl rfl rfl (S_extract rfl rfl) ?_
  refine VL_still rfl rfl rfl (S_extract rfl rfl) ?_
  refine VL_eff rfl (E_alloc rfl tz34) ?_
  rintro _ _ _ ⟨b8, hb8, rfl, rfl, rfl⟩
  refine VL_eff rfl (E_store ti34 rfl rfl rfl rfl rfl (by repeat (first | exact Has.here | apply Has.there)) (by repeat (first | exact PutR.nil | exact SetL.here | apply SetL.there | apply PutR.cons)) (by repeat (first | exact UpdG.here | apply UpdG.there))) ?_
  rintro _ _ _ ⟨rfl, rfl, rfl⟩
  refine VL_still rfl rfl rfl (S_assign rfl) ?_
  refine VL_nil ?_
  refine VQ_then ?_
  refine V_seq ?_
  refine V_region ?_
  refine VL_still rfl rfl rfl (S_move rfl) ?_
  refine VL_still rfl rfl rfl (S_not rfl) ?_
  refine VL_nil ?_
  refine VQ_then ?_
  refine V_cond rfl (fun hc24 => ?_) (fun hc24 => ?_)
  · skip
    have hs : (lookP l k).isSome = false := by simpa using hc24
    have hil : (insP l k (s, n)).length = l.length + 1 := by rw [insP_len hO.up, if_neg (by rw [hs]; simp)]
    refine V_region ?_
    refine VL_still rfl rfl rfl (S_move rfl) ?_
    refine VL_still rfl rfl rfl (S_addn l.length 1 rfl rfl (by omega)) ?_
    refine VL_still rfl rfl rfl (S_assign rfl) ?_
    refine VL_nil ?_
    refine VQ_then ?_
    refine V_seq ?_
    refine V_draw _ [[(b5, .cells (List.toArray [.int .i64 s, .int .i64 n]) 34 (0, 0))]] 64 Try.mixed (by kernel_rfl) (Sub.refl _) (by repeat (first | exact SubB.nil | exact Pick.here | apply Pick.there | apply SubB.emp | apply SubB.cons)) ?_
    refine VD_still rfl rfl rfl rfl (S_move rfl) ?_
    refine VD_still rfl rfl rfl rfl (S_nil rfl) ?_
    refine VD_still rfl rfl rfl rfl (S_field (k := 0) Try.underlying85 rfl rfl ti83 rfl rfl) ?_
    first | refine VD_still rfl rfl rfl rfl (S_load Try.underlying83 rfl rfl (Cell.trk (by repeat (first | exact Has.here | apply Has.there)) rfl)) ?_ | refine VD_still rfl rfl rfl rfl (S_load Try.underlying83 rfl rfl (Cell.known (by first | assumption | exact (by assumption : Sub _ _) _ _ (by assumption) | exact (Sub.trans (by assumption) (by assumption)) _ _ (by assumption)) rfl)) ?_
    refine VD_still rfl rfl rfl rfl (S_move rfl) ?_
    first | refine VD_still rfl rfl rfl rfl (S_loads Try.underlying34 rfl ti34 rfl rfl (Cells.known (by first | assumption | exact (by assumption : Sub _ _) _ _ (by assumption) | exact (Sub.trans (by assumption) (by assumption)) _ _ (by assumption)))) ?_ | refine VD_still rfl rfl rfl rfl (S_loads Try.underlying34 rfl ti34 rfl rfl (Cells.all (by repeat (first | exact Has.here | apply Has.there)))) ?_ | refine VD_still rfl rfl rfl rfl (S_loads Try.underlying34 rfl ti34 rfl rfl (Cells.trk (by repeat (first | exact Has.here | apply Has.there)) (by repeat (first | exact TakeR.here (by repeat (first | exact HeadR.nil | apply HeadR.cons)) | apply TakeR.there)))) ?_
    refine VD_eff rfl rfl (E_call rfl rfl rfl Try.call43 (put_con d rb t 0 top k s n h hR hO.in_ hO.kids hO.few) (by repeat (first | exact Split.nil | exact Pick.here | apply Pick.there | apply Split.cons))) ?_
    rintro _ hh34 _ ⟨v34, nb34, ⟨rfl, hP⟩, hs34, rfl, rfl⟩
    obtain ⟨b1, s', o', rfl, hR1, ho⟩ := hP.form
    have hOp := hO.put (k := k) (v := (s, n)) h0 h1
    refine ⟨⟨(by first | exact Sub.refl _ | assumption | exact Sub.trans (by assumption) (by assumption)), (by repeat (first | exact SubB.nil | exact Pick.here | apply Pick.there | apply SubB.emp | apply SubB.cons))⟩, ?_⟩
    refine VD_still rfl rfl rfl rfl (S_move rfl) ?_
    refine VD_still rfl rfl rfl rfl (S_extract rfl rfl) ?_
    refine VD_still rfl rfl rfl rfl (S_extract rfl rfl) ?_
    refine VD_still rfl rfl rfl rfl (S_extract rfl rfl) ?_
    refine VD_still rfl rfl rfl rfl (S_assign rfl) ?_
    refine VD_still rfl rfl rfl rfl (S_assign rfl) ?_
    refine VD_still rfl rfl rfl rfl (S_assign rfl) ?_
    refine VD_nil ?_
    refine VQ_then ?_
    refine V_seq ?_
    refine V_seq ?_
    refine V_region ?_
    refine VL_still rfl rfl rfl (S_move rfl) ?_
    refine VL_still rfl rfl rfl (S_pnenil Try.underlying83 rfl rfl) ?_
    refine VL_nil ?_
    refine VQ_then ?_
    refine V_cond rfl (fun hc39 => ?_) (fun hc39 => ?_)
    · skip
      obtain ⟨b2, m, rfl, hq2, hR2⟩ : ∃ b2 m, o' = some ⟨b2, 0, none⟩ ∧ (putT d t k (s, n)).2 = some (s', m) ∧ Rp hh34 d b2 m := by
        rcases ho with ⟨rfl, _⟩ | ho
        · simp at hc39
        · exact ho
      refine V_region ?_
      refine VL_still rfl rfl rfl (S_move rfl) ?_
      refine VL_eff rfl (E_bs1 rfl Try.underlying88 ti23 rfl rfl rfl rfl rfl rfl) ?_
      rintro _ _ _ ⟨b41, hb41, rfl, rfl, rfl⟩
      refine VL_still rfl rfl rfl (S_move rfl) ?_
      refine VL_still rfl rfl rfl (S_move rfl) ?_
      refine VL_eff rfl (X_bs2 rfl Try.underlying90 tx83 rfl rfl rfl rfl rfl) ?_
      rintro _ _ _ ⟨b44, hb44, rfl, rfl, rfl⟩
      refine VL_still rfl rfl rfl (S_struct Try.underlying92 to92 tz92 rfl (by repeat (first | exact BuildR.nil | exact PutR.nil | exact SetL.here | apply SetL.there | apply PutR.cons | apply BuildR.cons rfl (by first | exact ti88 | exact ti89 | exact ti90) rfl rfl rfl))) ?_
      refine VL_eff rfl (E_box rfl rfl rfl) ?_
      rintro _ _ _ ⟨b46, hb46, rfl, rfl, rfl⟩
      refine VL_still rfl rfl rfl (S_assign rfl) ?_
      refine VL_nil ?_
      refine VQ_then ?_
      refine V_seq ?_
      refine V_region ?_
      refine VL_still rfl rfl rfl (S_move rfl) ?_
      refine VL_still rfl rfl rfl (S_move rfl) ?_
      refine VL_still rfl rfl rfl (S_struct Try.underlying85 to85 tz85 rfl (by repeat (first | exact BuildR.nil | exact PutR.nil | exact SetL.here | apply SetL.there | apply PutR.cons | apply BuildR.cons rfl (by first | exact ti3 | exact ti83) rfl rfl rfl))) ?_
      refine VL_eff rfl (E_box rfl rfl rfl) ?_
      rintro _ _ _ ⟨b50, hb50, rfl, rfl, rfl⟩
      refine VL_still rfl rfl rfl (S_assign rfl) ?_
      refine VL_nil ?_
      refine VQ_then ?_
      refine V_ret ?_
      refine VQ_keeps (blA := [GN b46 (.slice (some ⟨b41, 0, none⟩) 1 1) (.slice none 0 0) (.slice (some ⟨b44, 0, none⟩) 2 2), [(b41, .cells (List.toArray [.int .u64 s']) 23 (0, 0))], [(b44, .cells (List.toArray [ptr b1, ptr b2]) 83 (0, 0))], [(b50, .cells (List.toArray [ptr b46, .int .i64 ((l.length + 1 : Nat))]) 85 (0, 0))]]) (by repeat (first | exact Split.nil | exact Pick.here | apply Pick.there | apply Split.cons)) (fun h1 sh1 kh1 => ?_)
      obtain ⟨q1, q2, q3, q4, _⟩ := kh1
      refine VQ_fin1 (nb := []) (by first | exact .inl rfl | exact .inr rfl) rfl (RV_tmp rfl) ?sb ?po
      case po =>
        refine ⟨rfl, b50, rfl, _, _, b46, ?_, ?_, hOp⟩
        · rw [hil]; exact q4 (b50, _) (by simp)
        · have e : rootT d (putT d t k (s, n)) = (d + 1, .node [s'] [(putT d t k (s, n)).1, m]) := by
            generalize putT d t k (s, n) = q at hq2 ⊢
            obtain ⟨t', o⟩ := q
            simp only at hq2
            subst hq2; rfl
          rw [e]
          exact ⟨[b1, b2], NodeAt.own (Gv := []) q1 q2 (fun q hq => by simp at hq) q3 (Buf.lit (n := 1) (cs := [.int .u64 s']) rfl (by omega)) (Buf.nil _ _) (Buf.lit (n := 2) (cs := [ptr b1, ptr b2]) rfl (by omega)), .cons (Rp.sub sh1 hR1) (.cons (Rp.sub sh1 hR2) .nil)⟩
      case sb => exact (by repeat (first | exact SubB.nil | exact Pick.here | apply Pick.there | apply SubB.emp | apply SubB.cons))
    · skip
      obtain ⟨rfl, hq2⟩ : o' = none ∧ (putT d t k (s, n)).2 = none := by
        rcases ho with ho | ⟨b2, m, rfl, _⟩
        · exact ho
        · simp at hc39
      refine V_skip ?_
      refine VQ_then ?_
      refine V_seq ?_
      refine V_region ?_
      refine VL_still rfl rfl rfl (S_move rfl) ?_
      refine VL_still rfl rfl rfl (S_move rfl) ?_
      refine VL_still rfl rfl rfl (S_struct Try.underlying85 to85 tz85 rfl (by repeat (first | exact BuildR.nil | exact PutR.nil | exact SetL.here | apply SetL.there | apply PutR.cons | apply BuildR.cons rfl (by first | exact ti3 | exact ti83) rfl rfl rfl))) ?_
      refine VL_eff rfl (E_box rfl rfl rfl) ?_
      rintro _ _ _ ⟨b50, hb50, rfl, rfl, rfl⟩
      refine VL_still rfl rfl rfl (S_assign rfl) ?_
      refine VL_nil ?_
      refine VQ_then ?_
      refine V_ret ?_
      refine VQ_keeps (blA := [[(b50, .cells (List.toArray [ptr b1, .int .i64 ((l.length + 1 : Nat))]) 85 (0, 0))]]) (by repeat (first | exact Split.nil | exact Pick.here | apply Pick.there | apply Split.cons)) (fun h1 sh1 kh1 => ?_)
      obtain ⟨q4, _⟩ := kh1
      refine VQ_fin1 (nb := []) (by first | exact .inl rfl | exact .inr rfl) rfl (RV_tmp rfl) ?sb ?po
      case po =>
        refine ⟨rfl, b50, rfl, _, _, b1, ?_, ?_, hOp⟩
        · rw [hil]; exact q4 (b50, _) (by simp)
        · have e : rootT d (putT d t k (s, n)) = (d, (putT d t k (s, n)).1) := by
            generalize putT d t k (s, n) = q at hq2 ⊢
            obtain ⟨t', o⟩ := q
            simp only at hq2
            subst hq2; rfl
          rw [e]
          exact Rp.sub sh1 hR1
      case sb => exact (by repeat (first | exact SubB.nil | exact Pick.here | apply Pick.there | apply SubB.emp | apply SubB.cons))
  · skip
    have hs : (lookP l k).isSome = true := by simpa using hc24
    have hil : (insP l k (s, n)).length = l.length := by rw [insP_len hO.up, if_pos hs]
    refine V_skip ?_
    refine VQ_then ?_
    refine V_seq ?_
    refine V_draw _ [[(b5, .cells (List.toArray [.int .i64 s, .int .i64 n]) 34 (0, 0))]] 64 Try.mixed (by kernel_rfl) (Sub.refl _) (by repeat (first | exact SubB.nil | exact Pick.here | apply Pick.there | apply SubB.emp | apply SubB.cons)) ?_
    refine VD_still rfl rfl rfl rfl (S_move rfl) ?_
    refine VD_still rfl rfl rfl rfl (S_nil rfl) ?_
    refine VD_still rfl rfl rfl rfl (S_field (k := 0) Try.underlying85 rfl rfl ti83 rfl rfl) ?_
    first | refine VD_still rfl rfl rfl rfl (S_load Try.underlying83 rfl rfl (Cell.trk (by repeat (first | exact Has.here | apply Has.there)) rfl)) ?_ | refine VD_still rfl rfl rfl rfl (S_load Try.underlying83 rfl rfl (Cell.known (by first | assumption | exact (by assumption : Sub _ _) _ _ (by assumption) | exact (Sub.trans (by assumption) (by assumption)) _ _ (by assumption)) rfl)) ?_
    refine VD_still rfl rfl rfl rfl (S_move rfl) ?_
    first | refine VD_still rfl rfl rfl rfl (S_loads Try.underlying34 rfl ti34 rfl rfl (Cells.known (by first | assumption | exact (by assumption : Sub _ _) _ _ (by assumption) | exact (Sub.trans (by assumption) (by assumption)) _ _ (by assumption)))) ?_ | refine VD_still rfl rfl rfl rfl (S_loads Try.underlying34 rfl ti34 rfl rfl (Cells.all (by repeat (first | exact Has.here | apply Has.there)))) ?_ | refine VD_still rfl rfl rfl rfl (S_loads Try.underlying34 rfl ti34 rfl rfl (Cells.trk (by repeat (first | exact Has.here | apply Has.there)) (by repeat (first | exact TakeR.here (by repeat (first | exact HeadR.nil | apply HeadR.cons)) | apply TakeR.there)))) ?_
    refine VD_eff rfl rfl (E_call rfl rfl rfl Try.call43 (put_con d rb t 0 top k s n h hR hO.in_ hO.kids hO.few) (by repeat (first | exact Split.nil | exact Pick.here | apply Pick.there | apply Split.cons))) ?_
    rintro _ hh34 _ ⟨v34, nb34, ⟨rfl, hP⟩, hs34, rfl, rfl⟩
    obtain ⟨b1, s', o', rfl, hR1, ho⟩ := hP.form
    have hOp := hO.put (k := k) (v := (s, n)) h0 h1
    refine ⟨⟨(by first | exact Sub.refl _ | assumption | exact Sub.trans (by assumption) (by assumption)), (by repeat (first | exact SubB.nil | exact Pick.here | apply Pick.there | apply SubB.emp | apply SubB.cons))⟩, ?_⟩
    refine VD_still rfl rfl rfl rfl (S_move rfl) ?_
    refine VD_still rfl rfl rfl rfl (S_extract rfl rfl) ?_
    refine VD_still rfl rfl rfl rfl (S_extract rfl rfl) ?_
    refine VD_still rfl rfl rfl rfl (S_extract rfl rfl) ?_
    refine VD_still rfl rfl rfl rfl (S_assign rfl) ?_
    refine VD_still rfl rfl rfl rfl (S_assign rfl) ?_
    refine VD_still rfl rfl rfl rfl (S_assign rfl) ?_
    refine VD_nil ?_
    refine VQ_then ?_
    refine V_seq ?_
    refine V_seq ?_
    refine V_region ?_
    refine VL_still rfl rfl rfl (S_move rfl) ?_
    refine VL_still rfl rfl rfl (S_pnenil Try.underlying83 rfl rfl) ?_
    refine VL_nil ?_
    refine VQ_then ?_
    refine V_cond rfl (fun hc39 => ?_) (fun hc39 => ?_)
    · skip
      obtain ⟨b2, m, rfl, hq2, hR2⟩ : ∃ b2 m, o' = some ⟨b2, 0, none⟩ ∧ (putT d t k (s, n)).2 = some (s', m) ∧ Rp hh34 d b2 m := by
        rcases ho with ⟨rfl, _⟩ | ho
        · simp at hc39
        · exact ho
      refine V_region ?_
      refine VL_still rfl rfl rfl (S_move rfl) ?_
      refine VL_eff rfl (E_bs1 rfl Try.underlying88 ti23 rfl rfl rfl rfl rfl rfl) ?_
      rintro _ _ _ ⟨b41, hb41, rfl, rfl, rfl⟩
      refine VL_still rfl rfl rfl (S_move rfl) ?_
      refine VL_still rfl rfl rfl (S_move rfl) ?_
      refine VL_eff rfl (X_bs2 rfl Try.underlying90 tx83 rfl rfl rfl rfl rfl) ?_
      rintro _ _ _ ⟨b44, hb44, rfl, rfl, rfl⟩
      refine VL_still rfl rfl rfl (S_struct Try.underlying92 to92 tz92 rfl (by repeat (first | exact BuildR.nil | exact PutR.nil | exact SetL.here | apply SetL.there | apply PutR.cons | apply BuildR.cons rfl (by first | exact ti88 | exact ti89 | exact ti90) rfl rfl rfl))) ?_
      refine VL_eff rfl (E_box rfl rfl rfl) ?_
      rintro _ _ _ ⟨b46, hb46, rfl, rfl, rfl⟩
      refine VL_still rfl rfl rfl (S_assign rfl) ?_
      refine VL_nil ?_
      refine VQ_then ?_
      refine V_seq ?_
      refine V_region ?_
      refine VL_still rfl rfl rfl (S_move rfl) ?_
      refine VL_still rfl rfl rfl (S_move rfl) ?_
      refine VL_still rfl rfl rfl (S_struct Try.underlying85 to85 tz85 rfl (by repeat (first | exact BuildR.nil | exact PutR.nil | exact SetL.here | apply SetL.there | apply PutR.cons | apply BuildR.cons rfl (by first | exact ti3 | exact ti83) rfl rfl rfl))) ?_
      refine VL_eff rfl (E_box rfl rfl rfl) ?_
      rintro _ _ _ ⟨b50, hb50, rfl, rfl, rfl⟩
      refine VL_still rfl rfl rfl (S_assign rfl) ?_
      refine VL_nil ?_
      refine VQ_then ?_
      refine V_ret ?_
      refine VQ_keeps (blA := [GN b46 (.slice (some ⟨b41, 0, none⟩) 1 1) (.slice none 0 0) (.slice (some ⟨b44, 0, none⟩) 2 2), [(b41, .cells (List.toArray [.int .u64 s']) 23 (0, 0))], [(b44, .cells (List.toArray [ptr b1, ptr b2]) 83 (0, 0))], [(b50, .cells (List.toArray [ptr b46, .int .i64 ((l.length : Nat))]) 85 (0, 0))]]) (by repeat (first | exact Split.nil | exact Pick.here | apply Pick.there | apply Split.cons)) (fun h1 sh1 kh1 => ?_)
      obtain ⟨q1, q2, q3, q4, _⟩ := kh1
      refine VQ_fin1 (nb := []) (by first | exact .inl rfl | exact .inr rfl) rfl (RV_tmp rfl) ?sb ?po
      case po =>
        refine ⟨rfl, b50, rfl, _, _, b46, ?_, ?_, hOp⟩
        · rw [hil]; exact q4 (b50, _) (by simp)
        · have e : rootT d (putT d t k (s, n)) = (d + 1, .node [s'] [(putT d t k (s, n)).1, m]) := by
            generalize putT d t k (s, n) = q at hq2 ⊢
            obtain ⟨t', o⟩ := q
            simp only at hq2
            subst hq2; rfl
          rw [e]
          exact ⟨[b1, b2], NodeAt.own (Gv := []) q1 q2 (fun q hq => by simp at hq) q3 (Buf.lit (n := 1) (cs := [.int .u64 s']) rfl (by omega)) (Buf.nil _ _) (Buf.lit (n := 2) (cs := [ptr b1, ptr b2]) rfl (by omega)), .cons (Rp.sub sh1 hR1) (.cons (Rp.sub sh1 hR2) .nil)⟩
      case sb => exact (by repeat (first | exact SubB.nil | exact Pick.here | apply Pick.there | apply SubB.emp | apply SubB.cons))
    · skip
      obtain ⟨rfl, hq2⟩ : o' = none ∧ (putT d t k (s, n)).2 = none := by
        rcases ho with ho | ⟨b2, m, rfl, _⟩
        · exact ho
        · simp at hc39
      refine V_skip ?_
      refine VQ_then ?_
      refine V_seq ?_
      refine V_region ?_
      refine VL_still rfl rfl rfl (S_move rfl) ?_
      refine VL_still rfl rfl rfl (S_move rfl) ?_
      refine VL_still rfl rfl rfl (S_struct Try.underlying85 to85 tz85 rfl (by repeat (first | exact BuildR.nil | exact PutR.nil | exact SetL.here | apply SetL.there | apply PutR.cons | apply BuildR.cons rfl (by first | exact ti3 | exact ti83) rfl rfl rfl))) ?_
      refine VL_eff rfl (E_box rfl rfl rfl) ?_
      rintro _ _ _ ⟨b50, hb50, rfl, rfl, rfl⟩
      refine VL_still rfl rfl rfl (S_assign rfl) ?_
      refine VL_nil ?_
      refine VQ_then ?_
      refine V_ret ?_
      refine VQ_keeps (blA := [[(b50, .cells (List.toArray [ptr b1, .int .i64 ((l.length : Nat))]) 85 (0, 0))]]) (by repeat (first | exact Split.nil | exact Pick.here | apply Pick.there | apply Split.cons)) (fun h1 sh1 kh1 => ?_)
      obtain ⟨q4, _⟩ := kh1
      refine VQ_fin1 (nb := []) (by first | exact .inl rfl | exact .inr rfl) rfl (RV_tmp rfl) ?sb ?po
      case po =>
        refine ⟨rfl, b50, rfl, _, _, b1, ?_, ?_, hOp⟩
        · rw [hil]; exact q4 (b50, _) (by simp)
        · have e : rootT d (putT d t k (s, n)) = (d, (putT d t k (s, n)).1) := by
            generalize putT d t k (s, n) = q at hq2 ⊢
            obtain ⟨t', o⟩ := q
            simp only at hq2
            subst hq2; rfl
          rw [e]
          exact Rp.sub sh1 hR1
      case sb => exact (by repeat (first | exact SubB.nil | exact Pick.here | apply Pick.there | apply SubB.emp | apply SubB.cons))

set_option maxRecDepth 100000 in
theorem tdel_con (b : Nat) (l : List Pr) (h : Hp) (hT : TreeAt h b l) (k : Int) (h0 : 0 ≤ k) (h1 : k < top) (hn : l.length ≤ 1000000) : Con Try.prog 21 [ptr b, .int .u64 k] h [] (fun r h' nb => nb = [] ∧ ∃ b', r = ptr b' ∧ TreeAt h' b' (delP l k)) := by
  obtain ⟨d, t, rb, hb, hR, hO⟩ := hT
  refine Con_of Try.func21 rfl Try.ntmps21 (Nat.le_of_ble_eq_true rfl) (fun w0 => ?_)
  refine V_seq ?_
  refine V_region ?_
  refine VL_still rfl rfl rfl (S_assign rfl) ?_
  refine VL_nil ?_
  refine VQ_then ?_
  refine V_seq ?_
  refine V_seq ?_
  refine V_region ?_
  refine VL_still rfl rfl rfl (S_move rfl) ?_
  refine VL_still rfl rfl rfl (S_move rfl) ?_
  refine VL_eff rfl (E_call rfl rfl rfl Try.call17 (get_con b l h ⟨d, t, rb, hb, hR, hO⟩ k h0 h1) (by repeat (first | exact Split.nil | exact Pick.here | apply Pick.there | apply Split.cons))) ?_
  rintro _ hh11 _ ⟨v11, nb11, ⟨rfl, rfl, rfl⟩, hs11, rfl, rfl⟩
  refine VL_still rfl rfl rfl (S_move rfl) ?_
  refine VL_still rfl rfl rfl (S_extract rfl rfl) ?_
  refine VL_still rfl rfl rfl (S_extract rfl rfl) ?_
  refine VL_eff rfl (E_alloc rfl tz34) ?_
  rintro _ _ _ ⟨b5, hb5, rfl, rfl, rfl⟩
  refine VL_eff rfl (E_store ti34 rfl rfl rfl rfl rfl (by repeat (first | exact Has.here | apply Has.there)) (by repeat (first | exact PutR.nil | exact SetL.here | apply SetL.there | apply PutR.cons)) (by repeat (first | exact UpdG.here | apply UpdG.there))) ?_
  rintro _ _ _ ⟨rfl, rfl, rfl⟩
  refine VL_still rfl rfl rfl (S_assign rfl) ?_
  refine VL_nil ?_
  refine VQ_then ?_
  refine V_seq ?_
  refine V_region ?_
  refine VL_still rfl rfl rfl (S_move rfl) ?_
  refine VL_still rfl rfl rfl (S_not rfl) ?_
  refine VL_nil ?_
  refine VQ_then ?_
  refine V_cond rfl (fun hc15 => ?_) (fun hc15 => ?_)
  · skip
    have hs : (lookP l k).isSome = false := by simpa using hc15
    refine V_seq ?_
    refine V_region ?_
    refine VL_still rfl rfl rfl (S_move rfl) ?_
    refine VL_still rfl rfl rfl (S_assign rfl) ?_
    refine VL_nil ?_
    refine VQ_then ?_
    refine V_ret ?_
    refine VQ_then_ret ?_
    refine VQ_fin1 (nb := []) (by first | exact .inl rfl | exact .inr rfl) rfl (RV_tmp rfl) ?sb ?po
    case po =>
      rw [delP_no hs]
      exact ⟨rfl, b, rfl, d, t, rb, hb, hR, hO⟩
    case sb => exact (by repeat (first | exact SubB.nil | exact Pick.here | apply Pick.there | apply SubB.emp | apply SubB.cons))
  · skip
    have hs : (lookP l k).isSome = true := by simpa using hc15
    have hdl := delP_len hO.up hs
    refine V_skip ?_
    refine VQ_then ?_
    refine V_seq ?_
    refine V_region ?_
    refine VL_still rfl rfl rfl (S_move rfl) ?_
    refine VL_still rfl rfl rfl (S_nil rfl) ?_
    refine VL_still rfl rfl rfl (S_field (k := 0) Try.underlying85 rfl rfl ti83 rfl rfl) ?_
    first | refine VL_still rfl rfl rfl (S_load Try.underlying83 rfl rfl (Cell.trk (by repeat (first | exact Has.here | apply Has.there)) rfl)) ?_ | refine VL_still rfl rfl rfl (S_load Try.underlying83 rfl rfl (Cell.known (by first | assumption | exact (by assumption : Sub _ _) _ _ (by assumption) | exact (Sub.trans (by assumption) (by assumption)) _ _ (by assumption)) rfl)) ?_
    refine VL_still rfl rfl rfl (S_move rfl) ?_
    refine VL_eff rfl (E_call rfl rfl rfl Try.call44 (del_con d rb t 0 top k h hR hO.in_ hO.kids hO.few hO.some_ h0 h1) (by repeat (first | exact Split.nil | exact Pick.here | apply Pick.there | apply Split.cons))) ?_
    rintro _ hh22 _ ⟨v22, nb22, ⟨rfl, b1, rfl, hR1⟩, hs22, rfl, rfl⟩
    have hI1 := (del_ok hO.in_ hO.kids hO.few hO.some_ h0 h1).1
    have hOd := hO.del h0 h1
    generalize delT d t k = dt at *
    obtain ⟨vs1, bs1, hN1, hcase⟩ := Rp.node hR1 hI1.sh
    have hN1' := hN1
    obtain ⟨kv1, vv1, cv1, hb1, hk1, hv1, hc1⟩ := hN1
    obtain ⟨A7, c7, rfl, _, _⟩ := hc1.form
    refine VL_still rfl rfl rfl (S_assign rfl) ?_
    refine VL_nil ?_
    refine VQ_then ?_
    refine V_seq ?_
    refine V_seq ?_
    refine V_region ?_
    refine VL_still rfl rfl rfl (S_move rfl) ?_
    refine VL_eff rfl (E_call rfl rfl rfl Try.call39 (leaf_con b1 _ _ _ hh22 hN1') (by repeat (first | exact Split.nil | exact Pick.here | apply Pick.there | apply Split.cons))) ?_
    rintro _ hh24 _ ⟨v24, nb24, ⟨rfl, rfl, rfl⟩, hs24, rfl, rfl⟩
    refine VL_still rfl rfl rfl (S_not rfl) ?_
    refine VL_still rfl rfl rfl (S_move rfl) ?_
    refine VL_bool 26 rfl (fun hc26 => ?_) (fun hc26 => ?_)
    · skip
      have hne : bs1 ≠ [] := by simpa using hc26
      obtain ⟨hd0, hv0, hbl⟩ : d ≠ 0 ∧ vs1 = [] ∧ bs1.length = nk dt + 1 := by
        rcases hcase with ⟨_, e, _⟩ | e
        · exact absurd e hne
        · exact e
      refine VL_still rfl rfl rfl (S_move rfl) ?_
      refine VL_still rfl rfl rfl (S_nil rfl) ?_
      refine VL_still rfl rfl rfl (S_field (k := 2) Try.underlying92 rfl rfl ti90 rfl rfl) ?_
      refine VL_still rfl rfl rfl (S_load Try.underlying90 rfl rfl (Cell.known hb1 rfl)) ?_
      refine VL_still rfl rfl rfl (S_len Try.underlying90 rfl) ?_
      refine VL_still rfl rfl rfl (S_eql rfl rfl) ?_
      first | refine VL_still rfl rfl rfl (S_pick_t rfl rfl) ?_ | refine VL_still rfl rfl rfl (S_pick_f rfl rfl) ?_
      refine VL_nil ?_
      refine VQ_then ?_
      refine V_cond rfl (fun hc33 => ?_) (fun hc33 => ?_)
      · skip
        have h1k : bs1.length = 1 := by
          have := of_decide_eq_true hc33
          omega
        obtain ⟨d', x, rfl, rfl, hOk⟩ : ∃ d' x, d = d' + 1 ∧ dt = .node [] [x] ∧ TOk d' x (delP l k) := by
          rcases hOd with ⟨e | e, _⟩ | e
          · exact absurd e hd0
          · omega
          · exact e
        obtain ⟨bs2, hN2, hA2⟩ := hR1
        obtain ⟨b2, rfl⟩ : ∃ b2, bs2 = [b2] := by
          have := hA2.len
          match bs2, this with
          | [b2], _ => exact ⟨b2, rfl⟩
        obtain ⟨bi, hbi, hRi⟩ := hA2.get (i := 0) rfl
        simp only [List.getElem?_cons_zero, Option.some.injEq] at hbi
        subst hbi
        obtain ⟨kv2, vv2, cv2, hb2, hk2, hv2, hc2⟩ := hN2
        have e2 := hb2.symm.trans hb1
        simp only [Option.some.injEq, Obj.cells.injEq, Array.mk.injEq, List.cons.injEq, and_true] at e2
        obtain ⟨_, _, e2⟩ := e2
        subst e2
        obtain ⟨bb, off, cap', e1, hcc⟩ := hc2.at_ pcE rfl (i := 0) (by simp)
        simp only [Value.slice.injEq] at e1
        obtain ⟨rfl, _, rfl⟩ := e1
        refine V_region ?_
        refine VL_still rfl rfl rfl (S_move rfl) ?_
        refine VL_still rfl rfl rfl (S_nil rfl) ?_
        refine VL_still rfl rfl rfl (S_field (k := 2) Try.underlying92 rfl rfl ti90 rfl rfl) ?_
        refine VL_still rfl rfl rfl (S_load Try.underlying90 rfl rfl (Cell.known hb1 rfl)) ?_
        refine VL_still rfl rfl rfl (X_at 0 Try.underlying90 tx83 rfl rfl (by omega)) ?_
        refine VL_still rfl rfl rfl (S_load Try.underlying83 rfl rfl hcc.1.mem) ?_
        refine VL_still rfl rfl rfl (S_assign rfl) ?_
        refine VL_nil ?_
        refine VQ_then ?_
        refine V_seq ?_
        refine V_region ?_
        refine VL_still rfl rfl rfl (S_move rfl) ?_
        refine VL_still rfl rfl rfl (S_move rfl) ?_
        refine VL_still rfl rfl rfl (S_nil rfl) ?_
        refine VL_still rfl rfl rfl (S_field (k := 1) Try.underlying85 rfl rfl ti3 rfl rfl) ?_
        refine VL_still rfl rfl rfl (S_load Try.underlying3 rfl rfl (Cell.known (hs22 _ _ hb) rfl)) ?_
        refine VL_still rfl rfl rfl (S_subn l.length 1 rfl rfl (by omega) (by omega)) ?_
        refine VL_still rfl rfl rfl (S_struct Try.underlying85 to85 tz85 rfl (by repeat (first | exact BuildR.nil | exact PutR.nil | exact SetL.here | apply SetL.there | apply PutR.cons | apply BuildR.cons rfl (by first | exact ti3 | exact ti83) rfl rfl rfl))) ?_
        refine VL_eff rfl (E_box rfl rfl rfl) ?_
        rintro _ _ _ ⟨b47, hb47, rfl, rfl, rfl⟩
        refine VL_still rfl rfl rfl (S_assign rfl) ?_
        refine VL_nil ?_
        refine VQ_then ?_
        refine V_ret ?_
        refine VQ_keeps (blA := [[(b47, .cells (List.toArray [ptr b2, .int .i64 ((l.length - 1 : Nat))]) 85 (0, 0))]]) (by repeat (first | exact Split.nil | exact Pick.here | apply Pick.there | apply Split.cons)) (fun h1 sh1 kh1 => ?_)
        obtain ⟨q4, _⟩ := kh1
        refine VQ_fin1 (nb := []) (by first | exact .inl rfl | exact .inr rfl) rfl (RV_tmp rfl) ?sb ?po
        case po =>
          refine ⟨rfl, b47, rfl, _, _, b2, ?_, Rp.sub sh1 hRi, hOk⟩
          rw [show (delP l k).length = l.length - 1 by omega]; exact q4 (b47, _) (by simp)
        case sb => exact (by repeat (first | exact SubB.nil | exact Pick.here | apply Pick.there | apply SubB.emp | apply SubB.cons))
      · skip
        have h1k : bs1.length ≠ 1 := by
          have := of_decide_eq_false hc33
          omega
        have hOk : TOk d dt (delP l k) := by
          rcases hOd with ⟨_, e⟩ | ⟨d', x, rfl, rfl, _⟩
          · exact e
          · simp [nk, keysT] at hbl; omega
        refine V_skip ?_
        refine VQ_then ?_
        refine V_seq ?_
        refine V_region ?_
        refine VL_still rfl rfl rfl (S_move rfl) ?_
        refine VL_still rfl rfl rfl (S_move rfl) ?_
        refine VL_still rfl rfl rfl (S_nil rfl) ?_
        refine VL_still rfl rfl rfl (S_field (k := 1) Try.underlying85 rfl rfl ti3 rfl rfl) ?_
        refine VL_still rfl rfl rfl (S_load Try.underlying3 rfl rfl (Cell.known (hs22 _ _ hb) rfl)) ?_
        refine VL_still rfl rfl rfl (S_subn l.length 1 rfl rfl (by omega) (by omega)) ?_
        refine VL_still rfl rfl rfl (S_struct Try.underlying85 to85 tz85 rfl (by repeat (first | exact BuildR.nil | exact PutR.nil | exact SetL.here | apply SetL.there | apply PutR.cons | apply BuildR.cons rfl (by first | exact ti3 | exact ti83) rfl rfl rfl))) ?_
        refine VL_eff rfl (E_box rfl rfl rfl) ?_
        rintro _ _ _ ⟨b47, hb47, rfl, rfl, rfl⟩
        refine VL_still rfl rfl rfl (S_assign rfl) ?_
        refine VL_nil ?_
        refine VQ_then ?_
        refine V_ret ?_
        refine VQ_keeps (blA := [[(b47, .cells (List.toArray [ptr b1, .int .i64 ((l.length - 1 : Nat))]) 85 (0, 0))]]) (by repeat (first | exact Split.nil | exact Pick.here | apply Pick.there | apply Split.cons)) (fun h1 sh1 kh1 => ?_)
        obtain ⟨q4, _⟩ := kh1
        refine VQ_fin1 (nb := []) (by first | exact .inl rfl | exact .inr rfl) rfl (RV_tmp rfl) ?sb ?po
        case po =>
          refine ⟨rfl, b47, rfl, _, _, b1, ?_, Rp.sub sh1 hR1, hOk⟩
          rw [show (delP l k).length = l.length - 1 by omega]; exact q4 (b47, _) (by simp)
        case sb => exact (by repeat (first | exact SubB.nil | exact Pick.here | apply Pick.there | apply SubB.emp | apply SubB.cons))
    · skip
      have hne : bs1 = [] := by simpa using hc26
      have hd0 : d = 0 := by
        rcases hcase with ⟨e, _⟩ | ⟨_, _, e⟩
        · exact e
        · rw [hne] at e; simp at e
      have hOk : TOk d dt (delP l k) := by
        rcases hOd with ⟨_, e⟩ | ⟨d', x, rfl, _⟩
        · exact e
        · omega
      refine VL_skip rfl rfl rfl ?_
      refine VL_skip rfl rfl rfl ?_
      refine VL_skip rfl rfl rfl ?_
      refine VL_skip rfl rfl rfl ?_
      refine VL_skip rfl rfl rfl ?_
      refine VL_skip rfl rfl rfl ?_
      first | refine VL_still rfl rfl rfl (S_pick_t rfl rfl) ?_ | refine VL_still rfl rfl rfl (S_pick_f rfl rfl) ?_
      refine VL_nil ?_
      refine VQ_then ?_
      refine V_cond_false rfl ?_
      refine V_skip ?_
      refine VQ_then ?_
      refine V_seq ?_
      refine V_region ?_
      refine VL_still rfl rfl rfl (S_move rfl) ?_
      refine VL_still rfl rfl rfl (S_move rfl) ?_
      refine VL_still rfl rfl rfl (S_nil rfl) ?_
      refine VL_still rfl rfl rfl (S_field (k := 1) Try.underlying85 rfl rfl ti3 rfl rfl) ?_
      refine VL_still rfl rfl rfl (S_load Try.underlying3 rfl rfl (Cell.known (hs22 _ _ hb) rfl)) ?_
      refine VL_still rfl rfl rfl (S_subn l.length 1 rfl rfl (by omega) (by omega)) ?_
      refine VL_still rfl rfl rfl (S_struct Try.underlying85 to85 tz85 rfl (by repeat (first | exact BuildR.nil | exact PutR.nil | exact SetL.here | apply SetL.there | apply PutR.cons | apply BuildR.cons rfl (by first | exact ti3 | exact ti83) rfl rfl rfl))) ?_
      refine VL_eff rfl (E_box rfl rfl rfl) ?_
      rintro _ _ _ ⟨b47, hb47, rfl, rfl, rfl⟩
      refine VL_still rfl rfl rfl (S_assign rfl) ?_
      refine VL_nil ?_
      refine VQ_then ?_
      refine V_ret ?_
      refine VQ_keeps (blA := [[(b47, .cells (List.toArray [ptr b1, .int .i64 ((l.length - 1 : Nat))]) 85 (0, 0))]]) (by repeat (first | exact Split.nil | exact Pick.here | apply Pick.there | apply Split.cons)) (fun h1 sh1 kh1 => ?_)
      obtain ⟨q4, _⟩ := kh1
      refine VQ_fin1 (nb := []) (by first | exact .inl rfl | exact .inr rfl) rfl (RV_tmp rfl) ?sb ?po
      case po =>
        refine ⟨rfl, b47, rfl, _, _, b1, ?_, Rp.sub sh1 hR1, hOk⟩
        rw [show (delP l k).length = l.length - 1 by omega]; exact q4 (b47, _) (by simp)
      case sb => exact (by repeat (first | exact SubB.nil | exact Pick.here | apply Pick.there | apply SubB.emp | apply SubB.cons))

end Go.Proofs.Ytdglignjoojimaa
