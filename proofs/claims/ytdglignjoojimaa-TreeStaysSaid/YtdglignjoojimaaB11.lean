/- What is visited. No conditions. -/
import Derived.Test.YtdglignjoojimaaB10
import Derived.Test.YtdglignjoojimaaT5
set_option linter.unusedVariables false
set_option linter.unusedSimpArgs false
namespace Go.Proofs.Ytdglignjoojimaa

def pr (p : Pr) : List Value := [.int .u64 p.1, .int .i64 p.2.1, .int .i64 p.2.2]
theorem prE : Enc pr 3 := ⟨fun _ => rfl, fun _ => rfl⟩
abbrev prs (l : List Pr) : List Value := l.flatMap pr
abbrev pv (p : Pr) : Value := .agg #[.int .u64 p.1, .int .i64 p.2.1, .int .i64 p.2.2]
abbrev BP (v : Value) (l : List Pr) (G : Gr) : Prop := Buf 47 3 v l.length (prs l) G
abbrev GO (b7 : Nat) (v : Value) : Gr := [(b7, .cells (List.toArray [v]) 26 (0, 0))]

set_option maxRecDepth 100000 in
theorem wish_con (p : Pr) (to : Int) (b5 b7 : Nat) (vo : Value) (l : List Pr) (Go : Gr) (h : Hp) (h5 : h b5 = some (.cells (List.toArray [.int .u64 to]) 23 (0, 0))) (hB : BP vo l Go) (hn : l.length ≤ 1000000) : Con Try.prog 38 [pv p, ptr b5, ptr b7] h [GO b7 vo, Go] (fun r h' nb => r = .bool (decide (p.1 ≤ to)) ∧ h = h' ∧ ∃ vo' Go', BP vo' (if p.1 ≤ to then l ++ [p] else l) Go' ∧ nb = [GO b7 vo', Go']) := by
  obtain ⟨A, cap, rfl, hle0, hmx⟩ := Buf.form hB
  refine Con_of Try.func38 rfl Try.ntmps38 (Nat.le_of_ble_eq_true rfl) (fun w0 => ?_)
  refine V_seq ?_
  refine V_region ?_
  refine VL_eff rfl (E_box rfl rfl rfl) ?_
  rintro _ _ _ ⟨b3, hb3, rfl, rfl, rfl⟩
  refine VL_still rfl rfl rfl (S_assign rfl) ?_
  refine VL_nil ?_
  refine VQ_then ?_
  refine V_seq ?_
  refine V_seq ?_
  refine V_region ?_
  refine VL_still rfl rfl rfl (S_field (k := 0) Try.underlying47 rfl rfl ti23 rfl rfl) ?_
  first | refine VL_still rfl rfl rfl (S_load Try.underlying23 rfl rfl (Cell.trk (by repeat (first | exact Has.here | apply Has.there)) rfl)) ?_ | refine VL_still rfl rfl rfl (S_load Try.underlying23 rfl rfl (Cell.known (by first | assumption | exact (by assumption : Sub _ _) _ _ (by assumption) | exact (Sub.trans (by assumption) (by assumption)) _ _ (by assumption)) rfl)) ?_
  refine VL_still rfl rfl rfl (S_load Try.underlying23 rfl rfl (Cell.known h5 rfl)) ?_
  refine VL_still rfl rfl rfl (S_leq rfl rfl) ?_
  refine VL_nil ?_
  refine VQ_then ?_
  refine V_cond rfl (fun hc8 => ?_) (fun hc8 => ?_)
  · skip
    have hle : p.1 ≤ to := of_decide_eq_true hc8
    refine V_region ?_
    refine VL_still rfl rfl rfl (S_load Try.underlying26 rfl rfl (Cell.trk (by repeat (first | exact Has.here | apply Has.there)) rfl)) ?_
    refine VL_still rfl rfl rfl (S_loads Try.underlying47 rfl ti47 rfl rfl (Cells.all (by repeat (first | exact Has.here | apply Has.there)))) ?_
    refine VL_eff rfl (E_bs1 rfl Try.underlying26 ti47 rfl rfl rfl rfl rfl rfl) ?_
    rintro _ _ _ ⟨b11, hb11, rfl, rfl, rfl⟩
    refine VL_eff rfl (X_append rfl Try.underlying26 Try.underlying26 rfl tx47 rfl rfl rfl rfl hB (by repeat (first | exact Pick.here | apply Pick.there)) (Buf.reads (G := [(b11, .cells (List.toArray [.int .u64 p.1, .int .i64 p.2.1, .int .i64 p.2.2]) 47 (0, 0))]) (Buf.lit (n := 1) (by rfl) (by omega)) (fun q hq => by simp at hq ⊢; try simp [hq])) rfl (by omega)) ?_
    rintro _ _ _ ⟨v12, G12, hB12, rfl, rfl, rfl⟩
    replace hB12 := Buf.snoc (enc := pr) hB12
    obtain ⟨A12, c12, rfl, _, _⟩ := Buf.form hB12
    refine VL_eff rfl (E_store ti26 rfl rfl rfl rfl rfl (by repeat (first | exact Has.here | apply Has.there)) (by repeat (first | exact PutR.nil | exact SetL.here | apply SetL.there | apply PutR.cons)) (by repeat (first | exact UpdG.here | apply UpdG.there))) ?_
    rintro _ _ _ ⟨rfl, rfl, rfl⟩
    refine VL_nil ?_
    refine VQ_then ?_
    refine V_seq ?_
    refine V_region ?_
    refine VL_still rfl rfl rfl (S_field (k := 0) Try.underlying47 rfl rfl ti23 rfl rfl) ?_
    first | refine VL_still rfl rfl rfl (S_load Try.underlying23 rfl rfl (Cell.trk (by repeat (first | exact Has.here | apply Has.there)) rfl)) ?_ | refine VL_still rfl rfl rfl (S_load Try.underlying23 rfl rfl (Cell.known (by first | assumption | exact (by assumption : Sub _ _) _ _ (by assumption) | exact (Sub.trans (by assumption) (by assumption)) _ _ (by assumption)) rfl)) ?_
    refine VL_still rfl rfl rfl (S_load Try.underlying23 rfl rfl (Cell.known h5 rfl)) ?_
    refine VL_still rfl rfl rfl (S_leq rfl rfl) ?_
    refine VL_still rfl rfl rfl (S_assign rfl) ?_
    refine VL_nil ?_
    refine VQ_then ?_
    refine V_ret ?_
    refine VQ_fin1 (nb := [GO b7 (.slice A12 (l ++ [p]).length c12), G12]) (by first | exact .inl rfl | exact .inr rfl) rfl (RV_tmp rfl) ?sb ?po
    case po =>
      refine ⟨rfl, rfl, _, G12, ?_, rfl⟩
      rw [if_pos hle]
      exact hB12
    case sb => exact (by repeat (first | exact SubB.nil | exact Pick.here | apply Pick.there | apply SubB.emp | apply SubB.cons))
  · skip
    have hle : ¬ p.1 ≤ to := of_decide_eq_false hc8
    refine V_skip ?_
    refine VQ_then ?_
    refine V_seq ?_
    refine V_region ?_
    refine VL_still rfl rfl rfl (S_field (k := 0) Try.underlying47 rfl rfl ti23 rfl rfl) ?_
    first | refine VL_still rfl rfl rfl (S_load Try.underlying23 rfl rfl (Cell.trk (by repeat (first | exact Has.here | apply Has.there)) rfl)) ?_ | refine VL_still rfl rfl rfl (S_load Try.underlying23 rfl rfl (Cell.known (by first | assumption | exact (by assumption : Sub _ _) _ _ (by assumption) | exact (Sub.trans (by assumption) (by assumption)) _ _ (by assumption)) rfl)) ?_
    refine VL_still rfl rfl rfl (S_load Try.underlying23 rfl rfl (Cell.known h5 rfl)) ?_
    refine VL_still rfl rfl rfl (S_leq rfl rfl) ?_
    refine VL_still rfl rfl rfl (S_assign rfl) ?_
    refine VL_nil ?_
    refine VQ_then ?_
    refine V_ret ?_
    refine VQ_fin1 (nb := [GO b7 (.slice A l.length cap), Go]) (by first | exact .inl rfl | exact .inr rfl) rfl (RV_tmp rfl) ?sb ?po
    case po =>
      refine ⟨rfl, rfl, _, Go, ?_, rfl⟩
      rw [if_neg hle]
      exact hB
    case sb => exact (by repeat (first | exact SubB.nil | exact Pick.here | apply Pick.there | apply SubB.emp | apply SubB.cons))

set_option maxRecDepth 100000 in
theorem visit_leaf (b : Nat) (l : List Pr) (k to : Int) (b5 b7 : Nat) (vo : Value) (acc : List Pr) (Go : Gr) (h : Hp) (hN : NodeAt h b (keysP l) (l.map (fun p => p.2)) []) (h5 : h b5 = some (.cells (List.toArray [.int .u64 to]) 23 (0, 0))) (hB : BP vo acc Go) (hn : acc.length + l.length ≤ 900000) : Con Try.prog 37 [ptr b, .int .u64 k, .func (.func 38) (List.toArray []) (List.toArray [ptr b5, ptr b7])] h [GO b7 vo, Go] (fun r h' nb => h = h' ∧ r = .bool (visB to (fromP k l)) ∧ ∃ vo' Go', BP vo' (acc ++ vis to (fromP k l)) Go' ∧ nb = [GO b7 vo', Go']) := by
  obtain ⟨kv, vv, cv, hb, hk, hv, hc⟩ := hN
  obtain ⟨A, cap, rfl, hle, hmx⟩ := hk.form
  obtain ⟨A2, cap2, rfl, hlev, hmxv⟩ := hv.form
  obtain ⟨A3, cap3, rfl, hlec, hmxc⟩ := hc.form
  have hkl := keysP_len l
  have hvl : (l.map (fun p => p.2)).length = l.length := List.length_map _
  refine Con_of Try.func37 rfl Try.ntmps37 (Nat.le_of_ble_eq_true rfl) (fun w0 => ?_)
  refine V_seq ?_
  refine V_region ?_
  refine VL_still rfl rfl rfl (S_assign rfl) ?_
  refine VL_nil ?_
  refine VQ_then ?_
  refine V_seq ?_
  refine V_seq ?_
  refine V_region ?_
  refine VL_still rfl rfl rfl (S_move rfl) ?_
  refine VL_eff rfl (E_call rfl rfl rfl Try.call39 (leaf_con b _ _ _ h ⟨_, _, _, hb, hk, hv, hc⟩) (by repeat (first | exact Split.nil | exact Pick.here | apply Pick.there | apply Split.cons))) ?_
  rintro _ hh12 _ ⟨v12, nb12, ⟨rfl, rfl, rfl⟩, hs12, rfl, rfl⟩
  refine VL_nil ?_
  refine VQ_then ?_
  refine V_cond rfl (fun hc12 => ?_) (fun hc12 => ?_)
  · skip
    refine V_seq ?_
    refine V_seq ?_
    refine V_region ?_
    refine VL_still rfl rfl rfl (S_move rfl) ?_
    refine VL_still rfl rfl rfl (S_nil rfl) ?_
    refine VL_still rfl rfl rfl (S_field (k := 0) Try.underlying92 rfl rfl ti88 rfl rfl) ?_
    refine VL_still rfl rfl rfl (S_load Try.underlying88 rfl rfl (Cell.known hb rfl)) ?_
    refine VL_still rfl rfl rfl (S_len Try.underlying88 rfl) ?_
    refine VL_still rfl rfl rfl (S_move rfl) ?_
    refine VL_nil ?_
    refine VQ_then ?_
    refine V_block ?_
    refine V_loop (ι := Nat × Value × Gr) (fun x => l.length - x.1) (fun (i, v, G) => i ≤ l.length ∧ visB to (fromP k (l.take i)) = true ∧ BP v (acc ++ fromP k (l.take i)) G) (fun (i, v, G) => [(0, ptr b), (1, .int .u64 k), (2, .func (.func 38) (List.toArray []) (List.toArray [ptr b5, ptr b7])), (16, (.slice A (keysP l).length cap)), (17, .int .i64 (keysP l).length), (18, .int .i64 i)]) (fun _ => h) (fun (i, v, G) => [GO b7 v, G]) (0, vo, Go) ⟨Nat.zero_le _, rfl, by simpa [fromP] using hB⟩ (by repeat (first | exact trivial | refine ⟨rfl, ?_⟩)) rfl (by repeat (first | exact SubB.nil | exact Pick.here | apply Pick.there | apply SubB.emp | apply SubB.cons)) (fun ⟨i, v, G⟩ hi => ?_)
    obtain ⟨hi1, hv1, hB1⟩ := hi
    simp only at hi1 hv1 hB1 ⊢
    refine V_seq ?_
    refine V_region ?_
    refine VL_still rfl rfl rfl (S_lss rfl rfl) ?_
    refine VL_nil ?_
    refine VQ_then ?_
    refine V_seq ?_
    refine V_cond rfl (fun hc19 => ?_) (fun hc19 => ?_)
    · skip
      have hlt : i < l.length := by
        have := of_decide_eq_true hc19
        omega
      have hltk : i < (keysP l).length := by omega
      have hltv : i < (l.map (fun p => p.2)).length := by omega
      obtain ⟨bb, off, cap', e1, hcc⟩ := hk.at_ kcE rfl hltk
      simp only [Value.slice.injEq] at e1
      obtain ⟨rfl, _, rfl⟩ := e1
      obtain ⟨bb2, off2, cap2', e1, hcc2⟩ := hv.at_ xcE rfl hltv
      simp only [Value.slice.injEq] at e1
      obtain ⟨rfl, _, rfl⟩ := e1
      have ek : (keysP l)[i] = l[i].1 := by simp [keysP]
      have ev2 : (l.map (fun p => p.2))[i] = l[i].2 := by simp
      rw [ek] at hcc
      rw [ev2] at hcc2
      have hsn := fromP_snoc k l i hlt
      have hpl : (acc ++ fromP k (l.take i)).length ≤ 900000 := by
        have h1 := fromP_len k (l.take i)
        rw [List.length_append]
        rw [List.length_take] at h1
        omega
      refine V_skip ?_
      refine VQ_then ?_
      refine V_seq ?_
      refine V_block ?_
      refine V_seq ?_
      refine V_region ?_
      refine VL_still rfl rfl rfl (S_move rfl) ?_
      refine VL_still rfl rfl rfl (X_at i Try.underlying88 tx23 rfl rfl hltk) ?_
      refine VL_still rfl rfl rfl (S_load Try.underlying23 rfl rfl hcc.1.mem) ?_
      refine VL_still rfl rfl rfl (S_assign rfl) ?_
      refine VL_still rfl rfl rfl (S_assign rfl) ?_
      refine VL_nil ?_
      refine VQ_then ?_
      refine V_seq ?_
      refine V_region ?_
      refine VL_still rfl rfl rfl (S_move rfl) ?_
      refine VL_still rfl rfl rfl (S_move rfl) ?_
      refine VL_still rfl rfl rfl (S_geq rfl rfl) ?_
      refine VL_still rfl rfl rfl (S_move rfl) ?_
      refine VL_bool 26 rfl (fun hc26 => ?_) (fun hc26 => ?_)
      · skip
        have hge : k ≤ l[i].1 := of_decide_eq_true hc26
        rw [if_pos hge] at hsn
        refine VL_still rfl rfl rfl (S_move rfl) ?_
        refine VL_still rfl rfl rfl (S_move rfl) ?_
        refine VL_still rfl rfl rfl (S_move rfl) ?_
        refine VL_still rfl rfl rfl (S_nil rfl) ?_
        refine VL_still rfl rfl rfl (S_field (k := 1) Try.underlying92 rfl rfl ti89 rfl rfl) ?_
        refine VL_still rfl rfl rfl (S_load Try.underlying89 rfl rfl (Cell.known hb rfl)) ?_
        refine VL_still rfl rfl rfl (S_move rfl) ?_
        refine VL_still rfl rfl rfl (X_at i Try.underlying89 tx34 rfl rfl hltv) ?_
        refine VL_still rfl rfl rfl (S_loads (vs := xc l[i].2) Try.underlying34 rfl ti34 rfl rfl (hcc2.mono (Sub.refl _) (fun q hq => by simp at hq))) ?_
        refine VL_still rfl rfl rfl (S_struct Try.underlying47 to47 tz47 rfl (by repeat (first | exact BuildR.nil | exact PutR.nil | exact SetL.here | apply SetL.there | apply PutR.cons | apply BuildR.cons rfl (by first | exact ti23 | exact ti34) rfl rfl rfl))) ?_
        refine VL_eff rfl (E_call rfl rfl rfl (by first | exact Try.call38) (wish_con l[i] to b5 b7 v (acc ++ fromP k (l.take i)) G h h5 hB1 (by omega)) (by repeat (first | exact Split.nil | exact Pick.here | apply Pick.there | apply Split.cons))) ?_
        rintro _ hh37 _ ⟨v37, nb37, ⟨rfl, rfl, v2, G2, hB2, rfl⟩, hs37, rfl, rfl⟩
        refine VL_still rfl rfl rfl (S_not rfl) ?_
        first | refine VL_still rfl rfl rfl (S_pick_t rfl rfl) ?_ | refine VL_still rfl rfl rfl (S_pick_f rfl rfl) ?_
        refine VL_nil ?_
        refine VQ_then ?_
        refine V_cond rfl (fun hc39 => ?_) (fun hc39 => ?_)
        · skip
          have hgt : ¬ l[i].1 ≤ to := by simpa using hc39
          have hL : fromP k l = fromP k (l.take i) ++ (l[i] :: fromP k (l.drop (i + 1))) := by
            conv => lhs; rw [← List.take_append_drop i l, List.drop_eq_getElem_cons hlt, fromP_app]
            unfold fromP
            rw [List.filter_cons_of_pos (by simpa using hge)]
          refine V_seq ?_
          refine V_region ?_
          refine VL_still rfl rfl rfl (S_assign rfl) ?_
          refine VL_nil ?_
          refine VQ_then ?_
          refine V_ret ?_
          refine VQ_block_ret ?_
          refine VQ_then_ret ?_
          refine VQ_then_ret ?_
          refine VQ_block_ret ?_
          refine VQ_then_ret ?_
          refine VQ_then_ret ?_
          refine VQ_fin1 (nb := [GO b7 v2, G2]) (by first | exact .inl rfl | exact .inr rfl) rfl (RV_tmp rfl) ?sb ?po
          case po =>
            refine ⟨rfl, ?_, v2, G2, ?_, rfl⟩
            · rw [hL, visB_app]
              simp [visB, hgt]
            · rw [if_neg hgt] at hB2
              rw [hL, vis_app hv1]
              have e : vis to (l[i] :: fromP k (l.drop (i + 1))) = [] := by unfold vis; rw [List.takeWhile_cons, if_neg (by simpa using hgt)]
              rw [e, List.append_nil]
              exact hB2
          case sb => exact (by repeat (first | exact SubB.nil | exact Pick.here | apply Pick.there | apply SubB.emp | apply SubB.cons))
        · skip
          have hle2 : l[i].1 ≤ to := by simpa using hc39
          refine V_skip ?_
          refine VQ_block_normal ?_
          refine VQ_then ?_
          refine V_region ?_
          first | refine VL_still rfl rfl rfl (S_addi rfl rfl (by omega) (by omega)) ?_ | refine VL_still rfl rfl rfl (S_add rfl rfl) ?_
          refine VL_still rfl rfl rfl (S_move rfl) ?_
          refine VL_nil ?_
          refine VQ_mid (i + 1, v2, G2) ⟨⟨by omega, ?_, ?_⟩, by simp only; omega⟩ (by repeat (first | exact trivial | refine ⟨rfl, ?_⟩)) rfl (by repeat (first | exact SubB.nil | exact Pick.here | apply Pick.there | apply SubB.emp | apply SubB.cons))
          · rw [hsn, visB_app, hv1]; simp [visB, hle2]
          · rw [if_pos hle2] at hB2
            rw [hsn, ← List.append_assoc]; exact hB2
      · skip
        have hge : ¬ k ≤ l[i].1 := of_decide_eq_false hc26
        rw [if_neg hge, List.append_nil] at hsn
        refine VL_skip rfl rfl rfl ?_
        refine VL_skip rfl rfl rfl ?_
        refine VL_skip rfl rfl rfl ?_
        refine VL_skip rfl rfl rfl ?_
        refine VL_skip rfl rfl rfl ?_
        refine VL_skip rfl rfl rfl ?_
        refine VL_skip rfl rfl rfl ?_
        refine VL_skip rfl rfl rfl ?_
        refine VL_skip rfl rfl rfl ?_
        refine VL_skip rfl rfl rfl ?_
        refine VL_skip rfl rfl rfl ?_
        refine VL_skip rfl rfl rfl ?_
        first | refine VL_still rfl rfl rfl (S_pick_t rfl rfl) ?_ | refine VL_still rfl rfl rfl (S_pick_f rfl rfl) ?_
        refine VL_nil ?_
        refine VQ_then ?_
        refine V_cond_false rfl ?_
        refine V_skip ?_
        refine VQ_block_normal ?_
        refine VQ_then ?_
        refine V_region ?_
        first | refine VL_still rfl rfl rfl (S_addi rfl rfl (by omega) (by omega)) ?_ | refine VL_still rfl rfl rfl (S_add rfl rfl) ?_
        refine VL_still rfl rfl rfl (S_move rfl) ?_
        refine VL_nil ?_
        refine VQ_mid (i + 1, v, G) ⟨⟨by omega, by rw [hsn]; exact hv1, by rw [hsn]; exact hB1⟩, by simp only; omega⟩ (by repeat (first | exact trivial | refine ⟨rfl, ?_⟩)) rfl (by repeat (first | exact SubB.nil | exact Pick.here | apply Pick.there | apply SubB.emp | apply SubB.cons))
    · skip
      have hge : i = l.length := by
        have := of_decide_eq_false hc19
        omega
      subst hge
      rw [List.take_length] at hv1 hB1
      refine V_exit ?_
      refine VQ_then_exit ?_
      refine VQ_then_exit ?_
      refine VQ_block_exit ?_
      refine VQ_then ?_
      refine V_seq ?_
      refine V_region ?_
      refine VL_still rfl rfl rfl (S_assign rfl) ?_
      refine VL_nil ?_
      refine VQ_then ?_
      refine V_ret ?_
      refine VQ_then_ret ?_
      refine VQ_fin1 (nb := [GO b7 v, G]) (by first | exact .inl rfl | exact .inr rfl) rfl (RV_tmp rfl) ?sb ?po
      case po =>
        exact ⟨rfl, by rw [hv1], v, G, by rw [vis_all hv1]; exact hB1, rfl⟩
      case sb => exact (by repeat (first | exact SubB.nil | exact Pick.here | apply Pick.there | apply SubB.emp | apply SubB.cons))
  · skip
    simp at hc12

set_option maxRecDepth 100000 in
theorem visit_node (d b : Nat) (ks : List Int) (ts : List Tr) (bs : List Nat) (lo hi k to : Int) (b5 b7 : Nat) (vo : Value) (acc : List Pr) (Go : Gr) (h : Hp) (hN : NodeAt h b ks [] bs) (hA : All2 (Rp h d) bs ts) (hI : Ch (In d) lo hi ks ts) (hK : ∀ x ∈ ts, 3 ≤ nk x ∧ nk x ≤ 7 ∧ Kd d x) (hks : ks.length ≤ 7) (h5 : h b5 = some (.cells (List.toArray [.int .u64 to]) 23 (0, 0))) (hB : BP vo acc Go) (hn : acc.length + (ts.flatMap (flat d)).length ≤ 900000)
    (ih : ∀ (b : Nat) (t : Tr) (lo hi : Int) (vo : Value) (acc : List Pr) (Go : Gr), Rp h d b t → In d lo hi t → Kd d t → nk t ≤ 7 → BP vo acc Go → acc.length + (flat d t).length ≤ 900000 → Con Try.prog 37 [ptr b, .int .u64 k, .func (.func 38) (List.toArray []) (List.toArray [ptr b5, ptr b7])] h [GO b7 vo, Go] (fun r h' nb => h = h' ∧ r = .bool (visB to (fromP k (flat d t))) ∧ ∃ vo' Go', BP vo' (acc ++ vis to (fromP k (flat d t))) Go' ∧ nb = [GO b7 vo', Go'])) : Con Try.prog 37 [ptr b, .int .u64 k, .func (.func 38) (List.toArray []) (List.toArray [ptr b5, ptr b7])] h [GO b7 vo, Go] (fun r h' nb => h = h' ∧ r = .bool (visB to (fromP k (ts.flatMap (flat d)))) ∧ ∃ vo' Go', BP vo' (acc ++ vis to (fromP k (ts.flatMap (flat d)))) Go' ∧ nb = [GO b7 vo', Go']) := by
  obtain ⟨kv, vv, cv, hb, hk, hv, hc⟩ := hN
  obtain ⟨A, cap, rfl, hle, hmx⟩ := hk.form
  obtain ⟨A2, cap2, rfl, hlev, hmxv⟩ := hv.form
  obtain ⟨A3, cap3, rfl, hlec, hmxc⟩ := hc.form
  have hlen := hI.len
  have hbl := hA.len
  have hil := ub_le ks k
  have hbs : bs ≠ [] := by intro e; subst e; simp at hbl; omega
  have hsl := SlR.dropE (h := h) (bl := []) pcE hc (i := ub ks k) (by omega)
  have hAd := hA.drop (ub ks k)
  have hlb : (bs.drop (ub ks k)).length = bs.length - ub ks k := List.length_drop
  have hdl := hAd.len
  refine Con_of Try.func37 rfl Try.ntmps37 (Nat.le_of_ble_eq_true rfl) (fun w0 => ?_)
  refine V_seq ?_
  refine V_region ?_
  refine VL_still rfl rfl rfl (S_assign rfl) ?_
  refine VL_nil ?_
  refine VQ_then ?_
  refine V_seq ?_
  refine V_seq ?_
  refine V_region ?_
  refine VL_still rfl rfl rfl (S_move rfl) ?_
  refine VL_eff rfl (E_call rfl rfl rfl Try.call39 (leaf_con b _ _ _ h ⟨_, _, _, hb, hk, hv, hc⟩) (by repeat (first | exact Split.nil | exact Pick.here | apply Pick.there | apply Split.cons))) ?_
  rintro _ hh12 _ ⟨v12, nb12, ⟨rfl, rfl, rfl⟩, hs12, rfl, rfl⟩
  refine VL_nil ?_
  refine VQ_then ?_
  refine V_cond rfl (fun hc12 => ?_) (fun hc12 => ?_)
  · skip
    exact absurd (of_decide_eq_true hc12) hbs
  · skip
    refine V_skip ?_
    refine VQ_then ?_
    refine V_seq ?_
    refine V_seq ?_
    refine V_draw _ [GO b7 vo] 64 Try.mixed (by kernel_rfl) (Sub.refl _) (by repeat (first | exact SubB.nil | exact Pick.here | apply Pick.there | apply SubB.emp | apply SubB.cons)) ?_
    refine VD_still rfl rfl rfl rfl (S_move rfl) ?_
    refine VD_still rfl rfl rfl rfl (S_nil rfl) ?_
    refine VD_still rfl rfl rfl rfl (S_field (k := 2) Try.underlying92 rfl rfl ti90 rfl rfl) ?_
    refine VD_still rfl rfl rfl rfl (S_load Try.underlying90 rfl rfl (Cell.known hb rfl)) ?_
    refine VD_still rfl rfl rfl rfl (S_move rfl) ?_
    refine VD_still rfl rfl rfl rfl (S_move rfl) ?_
    refine VD_eff rfl rfl (E_call rfl rfl rfl Try.call40 (way_con b _ _ _ h ⟨_, _, _, hb, hk, hv, hc⟩ k _ _ hI.seps (by omega)) (by repeat (first | exact Split.nil | exact Pick.here | apply Pick.there | apply Split.cons))) ?_
    rintro _ hh47 _ ⟨v47, nb47, ⟨rfl, rfl, rfl⟩, hs47, rfl, rfl⟩
    refine ⟨⟨(by first | exact Sub.refl _ | assumption | exact Sub.trans (by assumption) (by assumption)), (by repeat (first | exact SubB.nil | exact Pick.here | apply Pick.there | apply SubB.emp | apply SubB.cons))⟩, ?_⟩
    refine VD_still rfl rfl rfl rfl (X_cut (ub ks k) bs.length Try.underlying90 tx83 rfl rfl rfl (by omega) (by omega)) ?_
    refine VD_still rfl rfl rfl rfl (S_len Try.underlying90 rfl) ?_
    refine VD_still rfl rfl rfl rfl (S_move rfl) ?_
    refine VD_nil ?_
    refine VQ_then ?_
    refine V_block ?_
    refine V_loop (ι := Nat × Value × Gr) (fun x => (ts.drop (ub ks k)).length - x.1) (fun (i, v, G) => i ≤ (ts.drop (ub ks k)).length ∧ visB to (fromP k (((ts.drop (ub ks k)).take i).flatMap (flat d))) = true ∧ BP v (acc ++ fromP k (((ts.drop (ub ks k)).take i).flatMap (flat d))) G) (fun (i, v, G) => [(0, ptr b), (1, .int .u64 k), (2, .func (.func 38) (List.toArray []) (List.toArray [ptr b5, ptr b7])), (48, (cut3 A3 cap3 1 (ub ks k) bs.length cap3)), (49, .int .i64 ((bs.length - (ub ks k) : Nat) : Int)), (50, .int .i64 i)]) (fun _ => h) (fun (i, v, G) => [GO b7 v, G]) (0, vo, Go) ⟨Nat.zero_le _, rfl, by simpa [fromP] using hB⟩ (by repeat (first | exact trivial | refine ⟨rfl, ?_⟩)) rfl (by repeat (first | exact SubB.nil | exact Pick.here | apply Pick.there | apply SubB.emp | apply SubB.cons)) (fun ⟨i, v, G⟩ hi => ?_)
    obtain ⟨hi1, hv1, hB1⟩ := hi
    simp only at hi1 hv1 hB1 ⊢
    refine V_seq ?_
    refine V_region ?_
    refine VL_still rfl rfl rfl (S_lss rfl rfl) ?_
    refine VL_nil ?_
    refine VQ_then ?_
    refine V_seq ?_
    refine V_cond rfl (fun hc51 => ?_) (fun hc51 => ?_)
    · skip
      have hltb : i < (bs.drop (ub ks k)).length := by
        have := of_decide_eq_true hc51
        rw [hlb]
        omega
      have hlt : i < (ts.drop (ub ks k)).length := by omega
      obtain ⟨bb, off, cap', e1, hcc⟩ := hsl.at_ pcE rfl hltb
      obtain ⟨bi, hbi, hRi⟩ := hAd.get (List.getElem?_eq_getElem hlt)
      have hbi' : (bs.drop (ub ks k))[i] = bi := by rw [List.getElem?_eq_getElem hltb] at hbi; exact Option.some.inj hbi
      rw [hbi'] at hcc
      have hmem : (ts.drop (ub ks k))[i] ∈ ts := List.mem_of_mem_drop (List.getElem_mem hlt)
      obtain ⟨j, hj, ej⟩ := List.getElem_of_mem hmem
      obtain ⟨lo2, hi2, hIx⟩ := hI.at_ hj
      rw [ej] at hIx
      have hKx := hK _ hmem
      have hpart := flat_part (d := d) (ts.drop (ub ks k)) i hlt
      have hl1 := fromP_len k (((ts.drop (ub ks k)).take i).flatMap (flat d))
      have hl2 : ((ts.drop (ub ks k)).flatMap (flat d)).length ≤ (ts.flatMap (flat d)).length := by
        conv => rhs; rw [← List.take_append_drop (ub ks k) ts, List.flatMap_append, List.length_append]
        omega
      have hl3 := congrArg List.length hpart
      simp only [List.length_append] at hl3
      refine V_skip ?_
      refine VQ_then ?_
      refine V_seq ?_
      refine V_block ?_
      refine V_seq ?_
      refine V_region ?_
      refine VL_still rfl rfl rfl (X_at i Try.underlying90 tx83 ((rfl : ev _ _ = some (cut3 A3 cap3 1 (ub ks k) bs.length cap3)).trans (congrArg some e1)) rfl hltb) ?_
      refine VL_still rfl rfl rfl (S_load Try.underlying83 rfl rfl hcc.1.mem) ?_
      refine VL_still rfl rfl rfl (S_assign rfl) ?_
      refine VL_nil ?_
      refine VQ_then ?_
      refine V_seq ?_
      refine V_region ?_
      refine VL_still rfl rfl rfl (S_move rfl) ?_
      refine VL_still rfl rfl rfl (S_move rfl) ?_
      refine VL_still rfl rfl rfl (S_move rfl) ?_
      refine VL_eff rfl (E_call rfl rfl rfl Try.call37 (ih bi _ _ _ v (acc ++ fromP k (((ts.drop (ub ks k)).take i).flatMap (flat d))) G hRi hIx hKx.2.2 hKx.2.1 hB1 (by rw [List.length_append]; omega)) (by repeat (first | exact Split.nil | exact Pick.here | apply Pick.there | apply Split.cons))) ?_
      rintro _ hh57 _ ⟨v57, nb57, ⟨rfl, rfl, v2, G2, hB2, rfl⟩, hs57, rfl, rfl⟩
      rw [List.append_assoc] at hB2
      refine VL_still rfl rfl rfl (S_not rfl) ?_
      refine VL_nil ?_
      refine VQ_then ?_
      refine V_cond rfl (fun hc58 => ?_) (fun hc58 => ?_)
      · skip
        have hf : visB to (fromP k (flat d (ts.drop (ub ks k))[i])) = false := by simpa using hc58
        refine V_seq ?_
        refine V_region ?_
        refine VL_still rfl rfl rfl (S_assign rfl) ?_
        refine VL_nil ?_
        refine VQ_then ?_
        refine V_ret ?_
        refine VQ_block_ret ?_
        refine VQ_then_ret ?_
        refine VQ_then_ret ?_
        refine VQ_block_ret ?_
        refine VQ_then_ret ?_
        refine VQ_fin1 (nb := [GO b7 v2, G2]) (by first | exact .inl rfl | exact .inr rfl) rfl (RV_tmp rfl) ?sb ?po
        case po =>
          refine ⟨rfl, ?_, v2, G2, ?_, rfl⟩
          · rw [from_way k hI, hpart, fromP_app, fromP_app, visB_app, visB_app, hv1, hf]; rfl
          · rw [from_way k hI, hpart, fromP_app, fromP_app, vis_app hv1, vis_stop hf]; exact hB2
        case sb => exact (by repeat (first | exact SubB.nil | exact Pick.here | apply Pick.there | apply SubB.emp | apply SubB.cons))
      · skip
        have hf : visB to (fromP k (flat d (ts.drop (ub ks k))[i])) = true := by simpa using hc58
        refine V_skip ?_
        refine VQ_block_normal ?_
        refine VQ_then ?_
        refine V_region ?_
        first | refine VL_still rfl rfl rfl (S_addi rfl rfl (by omega) (by omega)) ?_ | refine VL_still rfl rfl rfl (S_add rfl rfl) ?_
        refine VL_still rfl rfl rfl (S_move rfl) ?_
        refine VL_nil ?_
        refine VQ_mid (i + 1, v2, G2) ⟨⟨by omega, ?_, ?_⟩, by simp only; omega⟩ (by repeat (first | exact trivial | refine ⟨rfl, ?_⟩)) rfl (by repeat (first | exact SubB.nil | exact Pick.here | apply Pick.there | apply SubB.emp | apply SubB.cons))
        · rw [flat_snoc _ i hlt, fromP_app, visB_app, hv1, hf]; rfl
        · rw [vis_all hf] at hB2
          rw [flat_snoc _ i hlt, fromP_app]; exact hB2
    · skip
      have hge : i = (ts.drop (ub ks k)).length := by
        have := of_decide_eq_false hc51
        rw [List.length_drop] at hi1 ⊢
        omega
      subst hge
      rw [List.take_length, ← from_way k hI] at hv1 hB1
      refine V_exit ?_
      refine VQ_then_exit ?_
      refine VQ_then_exit ?_
      refine VQ_block_exit ?_
      refine VQ_then ?_
      refine V_seq ?_
      refine V_region ?_
      refine VL_still rfl rfl rfl (S_assign rfl) ?_
      refine VL_nil ?_
      refine VQ_then ?_
      refine V_ret ?_
      refine VQ_fin1 (nb := [GO b7 v, G]) (by first | exact .inl rfl | exact .inr rfl) rfl (RV_tmp rfl) ?sb ?po
      case po =>
        exact ⟨rfl, by rw [hv1], v, G, by rw [vis_all hv1]; exact hB1, rfl⟩
      case sb => exact (by repeat (first | exact SubB.nil | exact Pick.here | apply Pick.there | apply SubB.emp | apply SubB.cons))

theorem visit_con : ∀ (d b : Nat) (t : Tr) (lo hi k to : Int) (b5 b7 : Nat) (vo : Value) (acc : List Pr) (Go : Gr) (h : Hp), Rp h d b t → In d lo hi t → Kd d t → nk t ≤ 7 → h b5 = some (.cells (List.toArray [.int .u64 to]) 23 (0, 0)) → BP vo acc Go → acc.length + (flat d t).length ≤ 900000 →
    Con Try.prog 37 [ptr b, .int .u64 k, .func (.func 38) (List.toArray []) (List.toArray [ptr b5, ptr b7])] h [GO b7 vo, Go] (fun r h' nb => h = h' ∧ r = .bool (visB to (fromP k (flat d t))) ∧ ∃ vo' Go', BP vo' (acc ++ vis to (fromP k (flat d t))) Go' ∧ nb = [GO b7 vo', Go'])
  | 0, b, .leaf l, lo, hi, k, to, b5, b7, vo, acc, Go, h, hr, _, _, _, h5, hB, hn => visit_leaf b l k to b5 b7 vo acc Go h hr h5 hB hn
  | d + 1, b, .node ks ts, lo, hi, k, to, b5, b7, vo, acc, Go, h, ⟨bs, hN, hA⟩, hi', hk, hks, h5, hB, hn =>
    visit_node d b ks ts bs lo hi k to b5 b7 vo acc Go h hN hA hi' hk hks h5 hB hn (fun b t lo hi vo acc Go r i k' n' B n => visit_con d b t lo hi k to b5 b7 vo acc Go h r i k' n' h5 B n)

set_option maxRecDepth 100000 in
theorem range_con (b : Nat) (l : List Pr) (k to : Int) (h : Hp) (hT : TreeAt h b l) (hn : l.length ≤ 900000) : Con Try.prog 15 [ptr b, .int .u64 k, .int .u64 to] h [] (fun r h' nb => ∃ G', BP r (rangeP k to l) G' ∧ nb = [G']) := by
  obtain ⟨d, t, rb, hb, hR, hO⟩ := hT
  refine Con_of Try.func15 rfl Try.ntmps15 (Nat.le_of_ble_eq_true rfl) (fun w0 => ?_)
  refine V_seq ?_
  refine V_region ?_
  refine VL_eff rfl (E_box rfl rfl rfl) ?_
  rintro _ _ _ ⟨b5, hb5, rfl, rfl, rfl⟩
  refine VL_still rfl rfl rfl (S_assign rfl) ?_
  refine VL_nil ?_
  refine VQ_then ?_
  refine V_seq ?_
  refine V_region ?_
  refine VL_eff rfl (E_alloc rfl tz26) ?_
  rintro _ _ _ ⟨b7, hb7, rfl, rfl, rfl⟩
  refine VL_nil ?_
  refine VQ_then ?_
  refine V_seq ?_
  refine V_keeps (blA := [[(b5, .cells (List.toArray [.int .u64 to]) 23 (0, 0))]]) (by repeat (first | exact Split.nil | exact Pick.here | apply Pick.there | apply Split.cons)) (fun h1 sh1 kh1 => ?_)
  obtain ⟨q1, _⟩ := kh1
  have h5 : h1 b5 = some (.cells (List.toArray [.int .u64 to]) 23 (0, 0)) := q1 (b5, .cells (List.toArray [.int .u64 to]) 23 (0, 0)) (by simp)
  refine V_region ?_
  refine VL_still rfl rfl rfl (S_move rfl) ?_
  refine VL_still rfl rfl rfl (S_nil rfl) ?_
  refine VL_still rfl rfl rfl (S_field (k := 0) Try.underlying85 rfl rfl ti83 rfl rfl) ?_
  refine VL_still rfl rfl rfl (S_load Try.underlying83 rfl rfl (Cell.known (sh1 _ _ hb) rfl)) ?_
  refine VL_still rfl rfl rfl (S_move rfl) ?_
  refine VL_still rfl rfl rfl (S_fn rfl rfl) ?_
  refine VL_eff rfl (E_call rfl rfl rfl Try.call37 (visit_con d rb t 0 top k to b5 b7 (.slice none 0 0) [] [] h1 (Rp.sub sh1 hR) hO.in_ hO.kids hO.few h5 (Buf.nil _ _) (by rw [hO.flat_]; simpa using hn) |>.conv (blB := [GO b7 (.slice none 0 0)]) rfl (fun v h' nb q => ⟨nb, rfl, q⟩)) (by repeat (first | exact Split.nil | exact Pick.here | apply Pick.there | apply Split.cons))) ?_
  rintro _ hh14 _ ⟨v14, nb14, ⟨rfl, rfl, vo, Go, hB, rfl⟩, hs14, rfl, rfl⟩
  rw [hO.flat_, vis_range hO.up, List.nil_append] at hB
  refine VL_nil ?_
  refine VQ_then ?_
  refine V_seq ?_
  refine V_region ?_
  first | refine VL_still rfl rfl rfl (S_load Try.underlying26 rfl rfl (Cell.trk (by repeat (first | exact Has.here | apply Has.there)) rfl)) ?_ | refine VL_still rfl rfl rfl (S_load Try.underlying26 rfl rfl (Cell.known (by first | assumption | exact (by assumption : Sub _ _) _ _ (by assumption) | exact (Sub.trans (by assumption) (by assumption)) _ _ (by assumption)) rfl)) ?_
  refine VL_still rfl rfl rfl (S_assign rfl) ?_
  refine VL_nil ?_
  refine VQ_then ?_
  refine V_ret ?_
  refine VQ_fin1 (nb := [Go]) (by first | exact .inl rfl | exact .inr rfl) rfl (RV_tmp rfl) ?sb ?po
  case po =>
    exact ⟨Go, hB, rfl⟩
  case sb => exact (by repeat (first | exact SubB.nil | exact Pick.here | apply Pick.there | apply SubB.emp | apply SubB.cons))

end Go.Proofs.Ytdglignjoojimaa
