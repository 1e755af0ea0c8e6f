/- Texts of one proof, one behind the other: B11, T6, B12, T7, Sx21, Sx22, B13, B14, Op, T8, T9, T10, T11, T12, Sx23, B18. No conditions. -/
import Derived.Test.YtdglignjoojimaaRd3
import Derived.Test.YtdglignjoojimaaRows
import Derived.ReadAgain
import Derived.ProofKit
/- What is visited. No conditions. -/
set_option linter.unusedVariables false
set_option linter.unusedSimpArgs false
namespace Go.Proofs.Ytdglignjoojimaa

def pr (p : Pr) : List Value := [.int .u64 p.1, .int .i64 p.2.1, .int .i64 p.2.2]
theorem prE : Enc pr 3 := ⟨fun _ => rfl, fun _ => rfl⟩
abbrev prs (l : List Pr) : List Value := l.flatMap pr
abbrev pv (p : Pr) : Value := .agg #[.int .u64 p.1, .int .i64 p.2.1, .int .i64 p.2.2]
abbrev BP (v : Value) (l : List Pr) (G : Gr) : Prop := Buf 47 3 v l.length (prs l) G
abbrev GO (b7 : Nat) (v : Value) : Gr := [(b7, .cells (List.toArray [v]) 26 (0, 0))]

set_option maxRecDepth 100000 in
theorem wish_con (p : Pr) (to : Int) (b5 b7 : Nat) (vo : Value) (l : List Pr) (Go : Gr) (h : Hp) (h5 : h b5 = some (.cells (List.toArray [.int .u64 to]) 23 (0, 0))) (hB : BP vo l Go) (hn : l.length ≤ 1000000) : Con Try.prog 38 [pv p, ptr b5, ptr b7] h [GO b7 vo, Go] (fun r h' nb => r = .bool (decide (p.1 ≤ to)) ∧ h = h' ∧ ∃ vo' Go', BP vo' (if p.1 ≤ to then l ++ [p] else l) Go' ∧ nb = [GO b7 vo', Go']) := by
  obtain ⟨A, cap, rfl, hle0, hmx⟩ := Buf.form hB
  refine Con_of Try.func38 rfl Try.ntmps38 (Nat.le_of_ble_eq_true rfl) (fun w0 => ?_)
  refine V_seq ?_
  refine V_region ?_
  refine VL_eff rfl (E_box rfl rfl rfl) ?_
  rintro _ _ _ ⟨b3, hb3, rfl, rfl, rfl⟩
  refine VL_still rfl rfl rfl (S_assign rfl) ?_
  refine VL_nil ?_
  refine VQ_then ?_
  refine V_seq ?_
  refine V_seq ?_
  refine V_region ?_
  refine VL_still rfl rfl rfl (S_field (k := 0) Try.underlying47 rfl rfl ti23 rfl rfl) ?_
  first | refine VL_still rfl rfl rfl (S_load Try.underlying23 rfl rfl (Cell.trk (by repeat (first | exact Has.here | apply Has.there)) rfl)) ?_ | refine VL_still rfl rfl rfl (S_load Try.underlying23 rfl rfl (Cell.known (by first | assumption | exact (by assumption : Sub _ _) _ _ (by assumption) | exact (Sub.trans (by assumption) (by assumption)) _ _ (by assumption)) rfl)) ?_
  refine VL_still rfl rfl rfl (S_load Try.underlying23 rfl rfl (Cell.known h5 rfl)) ?_
  refine VL_still rfl rfl rfl (S_leq rfl rfl) ?_
  refine VL_nil ?_
  refine VQ_then ?_
  refine V_cond rfl (fun hc8 => ?_) (fun hc8 => ?_)
  · skip
    have hle : p.1 ≤ to := of_decide_eq_true hc8
    refine V_region ?_
    refine VL_still rfl rfl rfl (S_load Try.underlying26 rfl rfl (Cell.trk (by repeat (first | exact Has.here | apply Has.there)) rfl)) ?_
    refine VL_still rfl rfl rfl (S_loads Try.underlying47 rfl ti47 rfl rfl (Cells.all (by repeat (first | exact Has.here | apply Has.there)))) ?_
    refine VL_eff rfl (E_bs1 rfl Try.underlying26 ti47 rfl rfl rfl rfl rfl rfl) ?_
    rintro _ _ _ ⟨b11, hb11, rfl, rfl, rfl⟩
    refine VL_eff rfl (X_append rfl Try.underlying26 Try.underlying26 rfl tx47 rfl rfl rfl rfl hB (by repeat (first | exact Pick.here | apply Pick.there)) (Buf.reads (G := [(b11, .cells (List.toArray [.int .u64 p.1, .int .i64 p.2.1, .int .i64 p.2.2]) 47 (0, 0))]) (Buf.lit (n := 1) (by rfl) (by omega)) (fun q hq => by simp at hq ⊢; try simp [hq])) rfl (by omega)) ?_
    rintro _ _ _ ⟨v12, G12, hB12, rfl, rfl, rfl⟩
    replace hB12 := Buf.snoc (enc := pr) hB12
    obtain ⟨A12, c12, rfl, _, _⟩ := Buf.form hB12
    refine VL_eff rfl (E_store ti26 rfl rfl rfl rfl rfl (by repeat (first | exact Has.here | apply Has.there)) (by repeat (first | exact PutR.nil | exact SetL.here | apply SetL.there | apply PutR.cons)) (by repeat (first | exact UpdG.here | apply UpdG.there))) ?_
    rintro _ _ _ ⟨rfl, rfl, rfl⟩
    refine VL_nil ?_
    refine VQ_then ?_
    refine V_seq ?_
    refine V_region ?_
    refine VL_still rfl rfl rfl (S_field (k := 0) Try.underlying47 rfl rfl ti23 rfl rfl) ?_
    first | refine VL_still rfl rfl rfl (S_load Try.underlying23 rfl rfl (Cell.trk (by repeat (first | exact Has.here | apply Has.there)) rfl)) ?_ | refine VL_still rfl rfl rfl (S_load Try.underlying23 rfl rfl (Cell.known (by first | assumption | exact (by assumption : Sub _ _) _ _ (by assumption) | exact (Sub.trans (by assumption) (by assumption)) _ _ (by assumption)) rfl)) ?_
    refine VL_still rfl rfl rfl (S_load Try.underlying23 rfl rfl (Cell.known h5 rfl)) ?_
    refine VL_still rfl rfl rfl (S_leq rfl rfl) ?_
    refine VL_still rfl rfl rfl (S_assign rfl) ?_
    refine VL_nil ?_
    refine VQ_then ?_
    refine V_ret ?_
    refine VQ_fin1 (nb := [GO b7 (.slice A12 (l ++ [p]).length c12), G12]) (by first | exact .inl rfl | exact .inr rfl) rfl (RV_tmp rfl) ?sb ?po
    case po =>
      refine ⟨rfl, rfl, _, G12, ?_, rfl⟩
      rw [if_pos hle]
      exact hB12
    case sb => exact (by repeat (first | exact SubB.nil | exact Pick.here | apply Pick.there | apply SubB.emp | apply SubB.cons))
  · skip
    have hle : ¬ p.1 ≤ to := of_decide_eq_false hc8
    refine V_skip ?_
    refine VQ_then ?_
    refine V_seq ?_
    refine V_region ?_
    refine VL_still rfl rfl rfl (S_field (k := 0) Try.underlying47 rfl rfl ti23 rfl rfl) ?_
    first | refine VL_still rfl rfl rfl (S_load Try.underlying23 rfl rfl (Cell.trk (by repeat (first | exact Has.here | apply Has.there)) rfl)) ?_ | refine VL_still rfl rfl rfl (S_load Try.underlying23 rfl rfl (Cell.known (by first | assumption | exact (by assumption : Sub _ _) _ _ (by assumption) | exact (Sub.trans (by assumption) (by assumption)) _ _ (by assumption)) rfl)) ?_
    refine VL_still rfl rfl rfl (S_load Try.underlying23 rfl rfl (Cell.known h5 rfl)) ?_
    refine VL_still rfl rfl rfl (S_leq rfl rfl) ?_
    refine VL_still rfl rfl rfl (S_assign rfl) ?_
    refine VL_nil ?_
    refine VQ_then ?_
    refine V_ret ?_
    refine VQ_fin1 (nb := [GO b7 (.slice A l.length cap), Go]) (by first | exact .inl rfl | exact .inr rfl) rfl (RV_tmp rfl) ?sb ?po
    case po =>
      refine ⟨rfl, rfl, _, Go, ?_, rfl⟩
      rw [if_neg hle]
      exact hB
    case sb => exact (by repeat (first | exact SubB.nil | exact Pick.here | apply Pick.there | apply SubB.emp | apply SubB.cons))

set_option maxRecDepth 100000 in
theorem visit_leaf (b : Nat) (l : List Pr) (k to : Int) (b5 b7 : Nat) (vo : Value) (acc : List Pr) (Go : Gr) (h : Hp) (hN : NodeAt h b (keysP l) (l.map (fun p => p.2)) []) (h5 : h b5 = some (.cells (List.toArray [.int .u64 to]) 23 (0, 0))) (hB : BP vo acc Go) (hn : acc.length + l.length ≤ 900000) : Con Try.prog 37 [ptr b, .int .u64 k, .func (.func 38) (List.toArray []) (List.toArray [ptr b5, ptr b7])] h [GO b7 vo, Go] (fun r h' nb => h = h' ∧ r = .bool (visB to (fromP k l)) ∧ ∃ vo' Go', BP vo' (acc ++ vis to (fromP k l)) Go' ∧ nb = [GO b7 vo', Go']) := by
  obtain ⟨kv, vv, cv, hb, hk, hv, hc⟩ := hN
  obtain ⟨A, cap, rfl, hle, hmx⟩ := hk.form
  obtain ⟨A2, cap2, rfl, hlev, hmxv⟩ := hv.form
  obtain ⟨A3, cap3, rfl, hlec, hmxc⟩ := hc.form
  have hkl := keysP_len l
  have hvl : (l.map (fun p => p.2)).length = l.length := List.length_map _
  refine Con_of Try.func37 rfl Try.ntmps37 (Nat.le_of_ble_eq_true rfl) (fun w0 => ?_)
  refine V_seq ?_
  refine V_region ?_
  refine VL_still rfl rfl rfl (S_assign rfl) ?_
  refine VL_nil ?_
  refine VQ_then ?_
  refine V_seq ?_
  refine V_seq ?_
  refine V_region ?_
  refine VL_still rfl rfl rfl (S_move rfl) ?_
  refine VL_eff rfl (E_call rfl rfl rfl Try.call39 (leaf_con b _ _ _ h ⟨_, _, _, hb, hk, hv, hc⟩) (by repeat (first | exact Split.nil | exact Pick.here | apply Pick.there | apply Split.cons))) ?_
  rintro _ hh12 _ ⟨v12, nb12, ⟨rfl, rfl, rfl⟩, hs12, rfl, rfl⟩
  refine VL_nil ?_
  refine VQ_then ?_
  refine V_cond rfl (fun hc12 => ?_) (fun hc12 => ?_)
  · skip
    refine V_seq ?_
    refine V_seq ?_
    refine V_region ?_
    refine VL_still rfl rfl rfl (S_move rfl) ?_
    refine VL_still rfl rfl rfl (S_nil rfl) ?_
    refine VL_still rfl rfl rfl (S_field (k := 0) Try.underlying92 rfl rfl ti88 rfl rfl) ?_
    refine VL_still rfl rfl rfl (S_load Try.underlying88 rfl rfl (Cell.known hb rfl)) ?_
    refine VL_still rfl rfl rfl (S_len Try.underlying88 rfl) ?_
    refine VL_still rfl rfl rfl (S_move rfl) ?_
    refine VL_nil ?_
    refine VQ_then ?_
    refine V_block ?_
    refine V_loop (ι := Nat × Value × Gr) (fun x => l.length - x.1) (fun (i, v, G) => i ≤ l.length ∧ visB to (fromP k (l.take i)) = true ∧ BP v (acc ++ fromP k (l.take i)) G) (fun (i, v, G) => [(0, ptr b), (1, .int .u64 k), (2, .func (.func 38) (List.toArray []) (List.toArray [ptr b5, ptr b7])), (16, (.slice A (keysP l).length cap)), (17, .int .i64 (keysP l).length), (18, .int .i64 i)]) (fun _ => h) (fun (i, v, G) => [GO b7 v, G]) (0, vo, Go) ⟨Nat.zero_le _, rfl, by simpa [fromP] using hB⟩ (by repeat (first | exact trivial | refine ⟨rfl, ?_⟩)) rfl (by repeat (first | exact SubB.nil | exact Pick.here | apply Pick.there | apply SubB.emp | apply SubB.cons)) (fun ⟨i, v, G⟩ hi => ?_)
    obtain ⟨hi1, hv1, hB1⟩ := hi
    simp only at hi1 hv1 hB1 ⊢
    refine V_seq ?_
    refine V_region ?_
    refine VL_still rfl rfl rfl (S_lss rfl rfl) ?_
    refine VL_nil ?_
    refine VQ_then ?_
    refine V_seq ?_
    refine V_cond rfl (fun hc19 => ?_) (fun hc19 => ?_)
    · skip
      have hlt : i < l.length := by
        have := of_decide_eq_true hc19
        omega
      have hltk : i < (keysP l).length := by omega
      have hltv : i < (l.map (fun p => p.2)).length := by omega
      obtain ⟨bb, off, cap', e1, hcc⟩ := hk.at_ kcE rfl hltk
      simp only [Value.slice.injEq] at e1
      obtain ⟨rfl, _, rfl⟩ := e1
      obtain ⟨bb2, off2, cap2', e1, hcc2⟩ := hv.at_ xcE rfl hltv
      simp only [Value.slice.injEq] at e1
      obtain ⟨rfl, _, rfl⟩ := e1
      have ek : (keysP l)[i] = l[i].1 := by simp [keysP]
      have ev2 : (l.map (fun p => p.2))[i] = l[i].2 := by simp
      rw [ek] at hcc
      rw [ev2] at hcc2
      have hsn := fromP_snoc k l i hlt
      have hpl : (acc ++ fromP k (l.take i)).length ≤ 900000 := by
        have h1 := fromP_len k (l.take i)
        rw [List.length_append]
        rw [List.length_take] at h1
        omega
      refine V_skip ?_
      refine VQ_then ?_
      refine V_seq ?_
      refine V_block ?_
      refine V_seq ?_
      refine V_region ?_
      refine VL_still rfl rfl rfl (S_move rfl) ?_
      refine VL_still rfl rfl rfl (X_at i Try.underlying88 tx23 rfl rfl hltk) ?_
      refine VL_still rfl rfl rfl (S_load Try.underlying23 rfl rfl hcc.1.mem) ?_
      refine VL_still rfl rfl rfl (S_assign rfl) ?_
      refine VL_still rfl rfl rfl (S_assign rfl) ?_
      refine VL_nil ?_
      refine VQ_then ?_
      refine V_seq ?_
      refine V_region ?_
      refine VL_still rfl rfl rfl (S_move rfl) ?_
      refine VL_still rfl rfl rfl (S_move rfl) ?_
      refine VL_still rfl rfl rfl (S_geq rfl rfl) ?_
      refine VL_still rfl rfl rfl (S_move rfl) ?_
      refine VL_bool 26 rfl (fun hc26 => ?_) (fun hc26 => ?_)
      · skip
        have hge : k ≤ l[i].1 := of_decide_eq_true hc26
        rw [if_pos hge] at hsn
        refine VL_still rfl rfl rfl (S_move rfl) ?_
        refine VL_still rfl rfl rfl (S_move rfl) ?_
        refine VL_still rfl rfl rfl (S_move rfl) ?_
        refine VL_still rfl rfl rfl (S_nil rfl) ?_
        refine VL_still rfl rfl rfl (S_field (k := 1) Try.underlying92 rfl rfl ti89 rfl rfl) ?_
        refine VL_still rfl rfl rfl (S_load Try.underlying89 rfl rfl (Cell.known hb rfl)) ?_
        refine VL_still rfl rfl rfl (S_move rfl) ?_
        refine VL_still rfl rfl rfl (X_at i Try.underlying89 tx34 rfl rfl hltv) ?_
        refine VL_still rfl rfl rfl (S_loads (vs := xc l[i].2) Try.underlying34 rfl ti34 rfl rfl (hcc2.mono (Sub.refl _) (fun q hq => by simp at hq))) ?_
        refine VL_still rfl rfl rfl (S_struct Try.underlying47 to47 tz47 rfl (by repeat (first | exact BuildR.nil | exact PutR.nil | exact SetL.here | apply SetL.there | apply PutR.cons | apply BuildR.cons rfl (by first | exact ti23 | exact ti34) rfl rfl rfl))) ?_
        refine VL_eff rfl (E_call rfl rfl rfl (by first | exact Try.call38) (wish_con l[i] to b5 b7 v (acc ++ fromP k (l.take i)) G h h5 hB1 (by omega)) (by repeat (first | exact Split.nil | exact Pick.here | apply Pick.there | apply Split.cons))) ?_
        rintro _ hh37 _ ⟨v37, nb37, ⟨rfl, rfl, v2, G2, hB2, rfl⟩, hs37, rfl, rfl⟩
        refine VL_still rfl rfl rfl (S_not rfl) ?_
        first | refine VL_still rfl rfl rfl (S_pick_t rfl rfl) ?_ | refine VL_still rfl rfl rfl (S_pick_f rfl rfl) ?_
        refine VL_nil ?_
        refine VQ_then ?_
        refine V_cond rfl (fun hc39 => ?_) (fun hc39 => ?_)
        · skip
          have hgt : ¬ l[i].1 ≤ to := by simpa using hc39
          have hL : fromP k l = fromP k (l.take i) ++ (l[i] :: fromP k (l.drop (i + 1))) := by
            conv => lhs; rw [← List.take_append_drop i l, List.drop_eq_getElem_cons hlt, fromP_app]
            unfold fromP
            rw [List.filter_cons_of_pos (by simpa using hge)]
          refine V_seq ?_
          refine V_region ?_
          refine VL_still rfl rfl rfl (S_assign rfl) ?_
          refine VL_nil ?_
          refine VQ_then ?_
          refine V_ret ?_
          refine VQ_block_ret ?_
          refine VQ_then_ret ?_
          refine VQ_then_ret ?_
          refine VQ_block_ret ?_
          refine VQ_then_ret ?_
          refine VQ_then_ret ?_
          refine VQ_fin1 (nb := [GO b7 v2, G2]) (by first | exact .inl rfl | exact .inr rfl) rfl (RV_tmp rfl) ?sb ?po
          case po =>
            refine ⟨rfl, ?_, v2, G2, ?_, rfl⟩
            · rw [hL, visB_app]
              simp [visB, hgt]
            · rw [if_neg hgt] at hB2
              rw [hL, vis_app hv1]
              have e : vis to (l[i] :: fromP k (l.drop (i + 1))) = [] := by unfold vis; rw [List.takeWhile_cons, if_neg (by simpa using hgt)]
              rw [e, List.append_nil]
              exact hB2
          case sb => exact (by repeat (first | exact SubB.nil | exact Pick.here | apply Pick.there | apply SubB.emp | apply SubB.cons))
        · skip
          have hle2 : l[i].1 ≤ to := by simpa using hc39
          refine V_skip ?_
          refine VQ_block_normal ?_
          refine VQ_then ?_
          refine V_region ?_
          first | refine VL_still rfl rfl rfl (S_addi rfl rfl (by omega) (by omega)) ?_ | refine VL_still rfl rfl rfl (S_add rfl rfl) ?_
          refine VL_still rfl rfl rfl (S_move rfl) ?_
          refine VL_nil ?_
          refine VQ_mid (i + 1, v2, G2) ⟨⟨by omega, ?_, ?_⟩, by simp only; omega⟩ (by repeat (first | exact trivial | refine ⟨rfl, ?_⟩)) rfl (by repeat (first | exact SubB.nil | exact Pick.here | apply Pick.there | apply SubB.emp | apply SubB.cons))
          · rw [hsn, visB_app, hv1]; simp [visB, hle2]
          · rw [if_pos hle2] at hB2
            rw [hsn, ← List.append_assoc]; exact hB2
      · skip
        have hge : ¬ k ≤ l[i].1 := of_decide_eq_false hc26
        rw [if_neg hge, List.append_nil] at hsn
        refine VL_skip rfl rfl rfl ?_
        refine VL_skip rfl rfl rfl ?_
        refine VL_skip rfl rfl rfl ?_
        refine VL_skip rfl rfl rfl ?_
        refine VL_skip rfl rfl rfl ?_
        refine VL_skip rfl rfl rfl ?_
        refine VL_skip rfl rfl rfl ?_
        refine VL_skip rfl rfl rfl ?_
        refine VL_skip rfl rfl rfl ?_
        refine VL_skip rfl rfl rfl ?_
        refine VL_skip rfl rfl rfl ?_
        refine VL_skip rfl rfl rfl ?_
        first | refine VL_still rfl rfl rfl (S_pick_t rfl rfl) ?_ | refine VL_still rfl rfl rfl (S_pick_f rfl rfl) ?_
        refine VL_nil ?_
        refine VQ_then ?_
        refine V_cond_false rfl ?_
        refine V_skip ?_
        refine VQ_block_normal ?_
        refine VQ_then ?_
        refine V_region ?_
        first | refine VL_still rfl rfl rfl (S_addi rfl rfl (by omega) (by omega)) ?_ | refine VL_still rfl rfl rfl (S_add rfl rfl) ?_
        refine VL_still rfl rfl rfl (S_move rfl) ?_
        refine VL_nil ?_
        refine VQ_mid (i + 1, v, G) ⟨⟨by omega, by rw [hsn]; exact hv1, by rw [hsn]; exact hB1⟩, by simp only; omega⟩ (by repeat (first | exact trivial | refine ⟨rfl, ?_⟩)) rfl (by repeat (first | exact SubB.nil | exact Pick.here | apply Pick.there | apply SubB.emp | apply SubB.cons))
    · skip
      have hge : i = l.length := by
        have := of_decide_eq_false hc19
        omega
      subst hge
      rw [List.take_length] at hv1 hB1
      refine V_exit ?_
      refine VQ_then_exit ?_
      refine VQ_then_exit ?_
      refine VQ_block_exit ?_
      refine VQ_then ?_
      refine V_seq ?_
      refine V_region ?_
      refine VL_still rfl rfl rfl (S_assign rfl) ?_
      refine VL_nil ?_
      refine VQ_then ?_
      refine V_ret ?_
      refine VQ_then_ret ?_
      refine VQ_fin1 (nb := [GO b7 v, G]) (by first | exact .inl rfl | exact .inr rfl) rfl (RV_tmp rfl) ?sb ?po
      case po =>
        exact ⟨rfl, by rw [hv1], v, G, by rw [vis_all hv1]; exact hB1, rfl⟩
      case sb => exact (by repeat (first | exact SubB.nil | exact Pick.here | apply Pick.there | apply SubB.emp | apply SubB.cons))
  · skip
    simp at hc12

set_option maxRecDepth 100000 in
theorem visit_node (d b : Nat) (ks : List Int) (ts : List Tr) (bs : List Nat) (lo hi k to : Int) (b5 b7 : Nat) (vo : Value) (acc : List Pr) (Go : Gr) (h : Hp) (hN : NodeAt h b ks [] bs) (hA : All2 (Rp h d) bs ts) (hI : Ch (In d) lo hi ks ts) (hK : ∀ x ∈ ts, 3 ≤ nk x ∧ nk x ≤ 7 ∧ Kd d x) (hks : ks.length ≤ 7) (h5 : h b5 = some (.cells (List.toArray [.int .u64 to]) 23 (0, 0))) (hB : BP vo acc Go) (hn : acc.length + (ts.flatMap (flat d)).length ≤ 900000)
    (ih : ∀ (b : Nat) (t : Tr) (lo hi : Int) (vo : Value) (acc : List Pr) (Go : Gr), Rp h d b t → In d lo hi t → Kd d t → nk t ≤ 7 → BP vo acc Go → acc.length + (flat d t).length ≤ 900000 → Con Try.prog 37 [ptr b, .int .u64 k, .func (.func 38) (List.toArray []) (List.toArray [ptr b5, ptr b7])] h [GO b7 vo, Go] (fun r h' nb => h = h' ∧ r = .bool (visB to (fromP k (flat d t))) ∧ ∃ vo' Go', BP vo' (acc ++ vis to (fromP k (flat d t))) Go' ∧ nb = [GO b7 vo', Go'])) : Con Try.prog 37 [ptr b, .int .u64 k, .func (.func 38) (List.toArray []) (List.toArray [ptr b5, ptr b7])] h [GO b7 vo, Go] (fun r h' nb => h = h' ∧ r = .bool (visB to (fromP k (ts.flatMap (flat d)))) ∧ ∃ vo' Go', BP vo' (acc ++ vis to (fromP k (ts.flatMap (flat d)))) Go' ∧ nb = [GO b7 vo', Go']) := by
  obtain ⟨kv, vv, cv, hb, hk, hv, hc⟩ := hN
  obtain ⟨A, cap, rfl, hle, hmx⟩ := hk.form
  obtain ⟨A2, cap2, rfl, hlev, hmxv⟩ := hv.form
  obtain ⟨A3, cap3, rfl, hlec, hmxc⟩ := hc.form
  have hlen := hI.len
  have hbl := hA.len
  have hil := ub_le ks k
  have hbs : bs ≠ [] := by intro e; subst e; simp at hbl; omega
  have hsl := SlR.dropE (h := h) (bl := []) pcE hc (i := ub ks k) (by omega)
  have hAd := hA.drop (ub ks k)
  have hlb : (bs.drop (ub ks k)).length = bs.length - ub ks k := List.length_drop
  have hdl := hAd.len
  refine Con_of Try.func37 rfl Try.ntmps37 (Nat.le_of_ble_eq_true rfl) (fun w0 => ?_)
  refine V_seq ?_
  refine V_region ?_
  refine VL_still rfl rfl rfl (S_assign rfl) ?_
  refine VL_nil ?_
  refine VQ_then ?_
  refine V_seq ?_
  refine V_seq ?_
  refine V_region ?_
  refine VL_still rfl rfl rfl (S_move rfl) ?_
  refine VL_eff rfl (E_call rfl rfl rfl Try.call39 (leaf_con b _ _ _ h ⟨_, _, _, hb, hk, hv, hc⟩) (by repeat (first | exact Split.nil | exact Pick.here | apply Pick.there | apply Split.cons))) ?_
  rintro _ hh12 _ ⟨v12, nb12, ⟨rfl, rfl, rfl⟩, hs12, rfl, rfl⟩
  refine VL_nil ?_
  refine VQ_then ?_
  refine V_cond rfl (fun hc12 => ?_) (fun hc12 => ?_)
  · skip
    exact absurd (of_decide_eq_true hc12) hbs
  · skip
    refine V_skip ?_
    refine VQ_then ?_
    refine V_seq ?_
    refine V_seq ?_
    refine V_draw _ [GO b7 vo] 64 Try.mixed (by kernel_rfl) (Sub.refl _) (by repeat (first | exact SubB.nil | exact Pick.here | apply Pick.there | apply SubB.emp | apply SubB.cons)) ?_
    refine VD_still rfl rfl rfl rfl (S_move rfl) ?_
    refine VD_still rfl rfl rfl rfl (S_nil rfl) ?_
    refine VD_still rfl rfl rfl rfl (S_field (k := 2) Try.underlying92 rfl rfl ti90 rfl rfl) ?_
    refine VD_still rfl rfl rfl rfl (S_load Try.underlying90 rfl rfl (Cell.known hb rfl)) ?_
    refine VD_still rfl rfl rfl rfl (S_move rfl) ?_
    refine VD_still rfl rfl rfl rfl (S_move rfl) ?_
    refine VD_eff rfl rfl (E_call rfl rfl rfl Try.call40 (way_con b _ _ _ h ⟨_, _, _, hb, hk, hv, hc⟩ k _ _ hI.seps (by omega)) (by repeat (first | exact Split.nil | exact Pick.here | apply Pick.there | apply Split.cons))) ?_
    rintro _ hh47 _ ⟨v47, nb47, ⟨rfl, rfl, rfl⟩, hs47, rfl, rfl⟩
    refine ⟨⟨(by first | exact Sub.refl _ | assumption | exact Sub.trans (by assumption) (by assumption)), (by repeat (first | exact SubB.nil | exact Pick.here | apply Pick.there | apply SubB.emp | apply SubB.cons))⟩, ?_⟩
    refine VD_still rfl rfl rfl rfl (X_cut (ub ks k) bs.length Try.underlying90 tx83 rfl rfl rfl (by omega) (by omega)) ?_
    refine VD_still rfl rfl rfl rfl (S_len Try.underlying90 rfl) ?_
    refine VD_still rfl rfl rfl rfl (S_move rfl) ?_
    refine VD_nil ?_
    refine VQ_then ?_
    refine V_block ?_
    refine V_loop (ι := Nat × Value × Gr) (fun x => (ts.drop (ub ks k)).length - x.1) (fun (i, v, G) => i ≤ (ts.drop (ub ks k)).length ∧ visB to (fromP k (((ts.drop (ub ks k)).take i).flatMap (flat d))) = true ∧ BP v (acc ++ fromP k (((ts.drop (ub ks k)).take i).flatMap (flat d))) G) (fun (i, v, G) => [(0, ptr b), (1, .int .u64 k), (2, .func (.func 38) (List.toArray []) (List.toArray [ptr b5, ptr b7])), (48, (cut3 A3 cap3 1 (ub ks k) bs.length cap3)), (49, .int .i64 ((bs.length - (ub ks k) : Nat) : Int)), (50, .int .i64 i)]) (fun _ => h) (fun (i, v, G) => [GO b7 v, G]) (0, vo, Go) ⟨Nat.zero_le _, rfl, by simpa [fromP] using hB⟩ (by repeat (first | exact trivial | refine ⟨rfl, ?_⟩)) rfl (by repeat (first | exact SubB.nil | exact Pick.here | apply Pick.there | apply SubB.emp | apply SubB.cons)) (fun ⟨i, v, G⟩ hi => ?_)
    obtain ⟨hi1, hv1, hB1⟩ := hi
    simp only at hi1 hv1 hB1 ⊢
    refine V_seq ?_
    refine V_region ?_
    refine VL_still rfl rfl rfl (S_lss rfl rfl) ?_
    refine VL_nil ?_
    refine VQ_then ?_
    refine V_seq ?_
    refine V_cond rfl (fun hc51 => ?_) (fun hc51 => ?_)
    · skip
      have hltb : i < (bs.drop (ub ks k)).length := by
        have := of_decide_eq_true hc51
        rw [hlb]
        omega
      have hlt : i < (ts.drop (ub ks k)).length := by omega
      obtain ⟨bb, off, cap', e1, hcc⟩ := hsl.at_ pcE rfl hltb
      obtain ⟨bi, hbi, hRi⟩ := hAd.get (List.getElem?_eq_getElem hlt)
      have hbi' : (bs.drop (ub ks k))[i] = bi := by rw [List.getElem?_eq_getElem hltb] at hbi; exact Option.some.inj hbi
      rw [hbi'] at hcc
      have hmem : (ts.drop (ub ks k))[i] ∈ ts := List.mem_of_mem_drop (List.getElem_mem hlt)
      obtain ⟨j, hj, ej⟩ := List.getElem_of_mem hmem
      obtain ⟨lo2, hi2, hIx⟩ := hI.at_ hj
      rw [ej] at hIx
      have hKx := hK _ hmem
      have hpart := flat_part (d := d) (ts.drop (ub ks k)) i hlt
      have hl1 := fromP_len k (((ts.drop (ub ks k)).take i).flatMap (flat d))
      have hl2 : ((ts.drop (ub ks k)).flatMap (flat d)).length ≤ (ts.flatMap (flat d)).length := by
        conv => rhs; rw [← List.take_append_drop (ub ks k) ts, List.flatMap_append, List.length_append]
        omega
      have hl3 := congrArg List.length hpart
      simp only [List.length_append] at hl3
      refine V_skip ?_
      refine VQ_then ?_
      refine V_seq ?_
      refine V_block ?_
      refine V_seq ?_
      refine V_region ?_
      refine VL_still rfl rfl rfl (X_at i Try.underlying90 tx83 ((rfl : ev _ _ = some (cut3 A3 cap3 1 (ub ks k) bs.length cap3)).trans (congrArg some e1)) rfl hltb) ?_
      refine VL_still rfl rfl rfl (S_load Try.underlying83 rfl rfl hcc.1.mem) ?_
      refine VL_still rfl rfl rfl (S_assign rfl) ?_
      refine VL_nil ?_
      refine VQ_then ?_
      refine V_seq ?_
      refine V_region ?_
      refine VL_still rfl rfl rfl (S_move rfl) ?_
      refine VL_still rfl rfl rfl (S_move rfl) ?_
      refine VL_still rfl rfl rfl (S_move rfl) ?_
      refine VL_eff rfl (E_call rfl rfl rfl Try.call37 (ih bi _ _ _ v (acc ++ fromP k (((ts.drop (ub ks k)).take i).flatMap (flat d))) G hRi hIx hKx.2.2 hKx.2.1 hB1 (by rw [List.length_append]; omega)) (by repeat (first | exact Split.nil | exact Pick.here | apply Pick.there | apply Split.cons))) ?_
      rintro _ hh57 _ ⟨v57, nb57, ⟨rfl, rfl, v2, G2, hB2, rfl⟩, hs57, rfl, rfl⟩
      rw [List.append_assoc] at hB2
      refine VL_still rfl rfl rfl (S_not rfl) ?_
      refine VL_nil ?_
      refine VQ_then ?_
      refine V_cond rfl (fun hc58 => ?_) (fun hc58 => ?_)
      · skip
        have hf : visB to (fromP k (flat d (ts.drop (ub ks k))[i])) = false := by simpa using hc58
        refine V_seq ?_
        refine V_region ?_
        refine VL_still rfl rfl rfl (S_assign rfl) ?_
        refine VL_nil ?_
        refine VQ_then ?_
        refine V_ret ?_
        refine VQ_block_ret ?_
        refine VQ_then_ret ?_
        refine VQ_then_ret ?_
        refine VQ_block_ret ?_
        refine VQ_then_ret ?_
        refine VQ_fin1 (nb := [GO b7 v2, G2]) (by first | exact .inl rfl | exact .inr rfl) rfl (RV_tmp rfl) ?sb ?po
        case po =>
          refine ⟨rfl, ?_, v2, G2, ?_, rfl⟩
          · rw [from_way k hI, hpart, fromP_app, fromP_app, visB_app, visB_app, hv1, hf]; rfl
          · rw [from_way k hI, hpart, fromP_app, fromP_app, vis_app hv1, vis_stop hf]; exact hB2
        case sb => exact (by repeat (first | exact SubB.nil | exact Pick.here | apply Pick.there | apply SubB.emp | apply SubB.cons))
      · skip
        have hf : visB to (fromP k (flat d (ts.drop (ub ks k))[i])) = true := by simpa using hc58
        refine V_skip ?_
        refine VQ_block_normal ?_
        refine VQ_then ?_
        refine V_region ?_
        first | refine VL_still rfl rfl rfl (S_addi rfl rfl (by omega) (by omega)) ?_ | refine VL_still rfl rfl rfl (S_add rfl rfl) ?_
        refine VL_still rfl rfl rfl (S_move rfl) ?_
        refine VL_nil ?_
        refine VQ_mid (i + 1, v2, G2) ⟨⟨by omega, ?_, ?_⟩, by simp only; omega⟩ (by repeat (first | exact trivial | refine ⟨rfl, ?_⟩)) rfl (by repeat (first | exact SubB.nil | exact Pick.here | apply Pick.there | apply SubB.emp | apply SubB.cons))
        · rw [flat_snoc _ i hlt, fromP_app, visB_app, hv1, hf]; rfl
        · rw [vis_all hf] at hB2
          rw [flat_snoc _ i hlt, fromP_app]; exact hB2
    · skip
      have hge : i = (ts.drop (ub ks k)).length := by
        have := of_decide_eq_false hc51
        rw [List.length_drop] at hi1 ⊢
        omega
      subst hge
      rw [List.take_length, ← from_way k hI] at hv1 hB1
      refine V_exit ?_
      refine VQ_then_exit ?_
      refine VQ_then_exit ?_
      refine VQ_block_exit ?_
      refine VQ_then ?_
      refine V_seq ?_
      refine V_region ?_
      refine VL_still rfl rfl rfl (S_assign rfl) ?_
      refine VL_nil ?_
      refine VQ_then ?_
      refine V_ret ?_
      refine VQ_fin1 (nb := [GO b7 v, G]) (by first | exact .inl rfl | exact .inr rfl) rfl (RV_tmp rfl) ?sb ?po
      case po =>
        exact ⟨rfl, by rw [hv1], v, G, by rw [vis_all hv1]; exact hB1, rfl⟩
      case sb => exact (by repeat (first | exact SubB.nil | exact Pick.here | apply Pick.there | apply SubB.emp | apply SubB.cons))

theorem visit_con : ∀ (d b : Nat) (t : Tr) (lo hi k to : Int) (b5 b7 : Nat) (vo : Value) (acc : List Pr) (Go : Gr) (h : Hp), Rp h d b t → In d lo hi t → Kd d t → nk t ≤ 7 → h b5 = some (.cells (List.toArray [.int .u64 to]) 23 (0, 0)) → BP vo acc Go → acc.length + (flat d t).length ≤ 900000 →
    Con Try.prog 37 [ptr b, .int .u64 k, .func (.func 38) (List.toArray []) (List.toArray [ptr b5, ptr b7])] h [GO b7 vo, Go] (fun r h' nb => h = h' ∧ r = .bool (visB to (fromP k (flat d t))) ∧ ∃ vo' Go', BP vo' (acc ++ vis to (fromP k (flat d t))) Go' ∧ nb = [GO b7 vo', Go'])
  | 0, b, .leaf l, lo, hi, k, to, b5, b7, vo, acc, Go, h, hr, _, _, _, h5, hB, hn => visit_leaf b l k to b5 b7 vo acc Go h hr h5 hB hn
  | d + 1, b, .node ks ts, lo, hi, k, to, b5, b7, vo, acc, Go, h, ⟨bs, hN, hA⟩, hi', hk, hks, h5, hB, hn =>
    visit_node d b ks ts bs lo hi k to b5 b7 vo acc Go h hN hA hi' hk hks h5 hB hn (fun b t lo hi vo acc Go r i k' n' B n => visit_con d b t lo hi k to b5 b7 vo acc Go h r i k' n' h5 B n)

set_option maxRecDepth 100000 in
theorem range_con (b : Nat) (l : List Pr) (k to : Int) (h : Hp) (hT : TreeAt h b l) (hn : l.length ≤ 900000) : Con Try.prog 15 [ptr b, .int .u64 k, .int .u64 to] h [] (fun r h' nb => ∃ G', BP r (rangeP k to l) G' ∧ nb = [G']) := by
  obtain ⟨d, t, rb, hb, hR, hO⟩ := hT
  refine Con_of Try.func15 rfl Try.ntmps15 (Nat.le_of_ble_eq_true rfl) (fun w0 => ?_)
  refine V_seq ?_
  refine V_region ?_
  refine VL_eff rfl (E_box rfl rfl rfl) ?_
  rintro _ _ _ ⟨b5, hb5, rfl, rfl, rfl⟩
  refine VL_still rfl rfl rfl (S_assign rfl) ?_
  refine VL_nil ?_
  refine VQ_then ?_
  refine V_seq ?_
  refine V_region ?_
  refine VL_eff rfl (E_alloc rfl tz26) ?_
  rintro _ _ _ ⟨b7, hb7, rfl, rfl, rfl⟩
  refine VL_nil ?_
  refine VQ_then ?_
  refine V_seq ?_
  refine V_keeps (blA := [[(b5, .cells (List.toArray [.int .u64 to]) 23 (0, 0))]]) (by repeat (first | exact Split.nil | exact Pick.here | apply Pick.there | apply Split.cons)) (fun h1 sh1 kh1 => ?_)
  obtain ⟨q1, _⟩ := kh1
  have h5 : h1 b5 = some (.cells (List.toArray [.int .u64 to]) 23 (0, 0)) := q1 (b5, .cells (List.toArray [.int .u64 to]) 23 (0, 0)) (by simp)
  refine V_region ?_
  refine VL_still rfl rfl rfl (S_move rfl) ?_
  refine VL_still rfl rfl rfl (S_nil rfl) ?_
  refine VL_still rfl rfl rfl (S_field (k := 0) Try.underlying85 rfl rfl ti83 rfl rfl) ?_
  refine VL_still rfl rfl rfl (S_load Try.underlying83 rfl rfl (Cell.known (sh1 _ _ hb) rfl)) ?_
  refine VL_still rfl rfl rfl (S_move rfl) ?_
  refine VL_still rfl rfl rfl (S_fn rfl rfl) ?_
  refine VL_eff rfl (E_call rfl rfl rfl Try.call37 (visit_con d rb t 0 top k to b5 b7 (.slice none 0 0) [] [] h1 (Rp.sub sh1 hR) hO.in_ hO.kids hO.few h5 (Buf.nil _ _) (by rw [hO.flat_]; simpa using hn) |>.conv (blB := [GO b7 (.slice none 0 0)]) rfl (fun v h' nb q => ⟨nb, rfl, q⟩)) (by repeat (first | exact Split.nil | exact Pick.here | apply Pick.there | apply Split.cons))) ?_
  rintro _ hh14 _ ⟨v14, nb14, ⟨rfl, rfl, vo, Go, hB, rfl⟩, hs14, rfl, rfl⟩
  rw [hO.flat_, vis_range hO.up, List.nil_append] at hB
  refine VL_nil ?_
  refine VQ_then ?_
  refine V_seq ?_
  refine V_region ?_
  first | refine VL_still rfl rfl rfl (S_load Try.underlying26 rfl rfl (Cell.trk (by repeat (first | exact Has.here | apply Has.there)) rfl)) ?_ | refine VL_still rfl rfl rfl (S_load Try.underlying26 rfl rfl (Cell.known (by first | assumption | exact (by assumption : Sub _ _) _ _ (by assumption) | exact (Sub.trans (by assumption) (by assumption)) _ _ (by assumption)) rfl)) ?_
  refine VL_still rfl rfl rfl (S_assign rfl) ?_
  refine VL_nil ?_
  refine VQ_then ?_
  refine V_ret ?_
  refine VQ_fin1 (nb := [Go]) (by first | exact .inl rfl | exact .inr rfl) rfl (RV_tmp rfl) ?sb ?po
  case po =>
    exact ⟨Go, hB, rfl⟩
  case sb => exact (by repeat (first | exact SubB.nil | exact Pick.here | apply Pick.there | apply SubB.emp | apply SubB.cons))

end Go.Proofs.Ytdglignjoojimaa

/- The plain law of trees, part 6: the reference's loops. No program in sight. No conditions. -/
set_option linter.unusedVariables false
set_option linter.unusedSimpArgs false
namespace Go.Proofs.Ytdglignjoojimaa

theorem insP_gt {A : List Pr} {p : Pr} {k : Int} {v : Int × Int} (h : k < p.1) : insP (A ++ [p]) k v = insP A k v ++ [p] := by
  unfold insP
  rw [List.filter_append, List.filter_append, List.filter_cons_of_neg (by simp; omega), List.filter_cons_of_pos (by simpa using h)]
  simp
theorem insP_lt {A : List Pr} {k : Int} {v : Int × Int} (h : ∀ p ∈ A, p.1 < k) : insP A k v = A ++ [(k, v)] := by
  unfold insP
  rw [filter_all (fun x hx => by simpa using h x hx), filter_no (fun x hx => by have := h x hx; simp; omega)]
theorem insP_at {A : List Pr} {p : Pr} {k : Int} {v : Int × Int} (h : ∀ p ∈ A, p.1 < k) (hp : k ≤ p.1) : insP (A ++ [p]) k v = A ++ [(k, v)] ++ (if p.1 = k then [] else [p]) := by
  unfold insP
  rw [List.filter_append, List.filter_append, filter_all (l := A) (fun x hx => by simpa using h x hx), filter_no (l := A) (fun x hx => by have := h x hx; simp; omega),
    List.filter_cons_of_neg (by simp; omega)]
  split
  · rw [List.filter_cons_of_neg (by simp; omega)]; simp
  · rw [List.filter_cons_of_pos (by simp; omega)]; simp
theorem take_snoc {α : Type} (l : List α) (i : Nat) (hi : i < l.length) : l.take (i + 1) = l.take i ++ [l[i]] := List.take_succ_eq_append_getElem hi
theorem Up.behind {l : List Pr} {lo hi : Int} (h : Up lo hi (keysP l)) {i : Nat} (hi' : i < l.length) : ∀ q ∈ l.drop (i + 1), l[i].1 < q.1 := by
  intro q hq
  obtain ⟨j, hj, rfl⟩ := List.getElem_of_mem hq
  rw [List.getElem_drop]
  have hj' : i + 1 + j < l.length := by simp at hj; omega
  have := h.get_lt (i := i) (j := i + 1 + j) (by omega) (by simpa [keysP] using hj')
  simpa [keysP] using this
/-- The state of the reference's put behind some pairs. -/
def PutSt (l : List Pr) (k : Int) (v : Int × Int) (i : Nat) (b : Bool) (out : List Pr) : Prop :=
  (b = false → (∀ p ∈ l.take i, p.1 < k) ∧ out = l.take i) ∧ (b = true → (∀ p ∈ l.drop i, k < p.1) ∧ out = insP (l.take i) k v)
theorem PutSt.zero (l : List Pr) (k : Int) (v : Int × Int) : PutSt l k v 0 false [] := ⟨fun _ => ⟨by simp, by simp⟩, fun h => by cases h⟩
theorem PutSt.new {l : List Pr} {k lo hi : Int} {v : Int × Int} {i : Nat} {out : List Pr} (h : PutSt l k v i false out) (hu : Up lo hi (keysP l)) (hi' : i < l.length) (hp : k ≤ l[i].1) :
    PutSt l k v (i + 1) true (out ++ [(k, v)] ++ (if l[i].1 = k then [] else [l[i]])) := by
  obtain ⟨h1, rfl⟩ := h.1 rfl
  refine ⟨fun h => (by cases h), fun _ => ⟨fun q hq => (by have := hu.behind hi' q hq; omega), ?_⟩⟩
  rw [take_snoc l i hi', insP_at h1 hp]
theorem PutSt.less {l : List Pr} {k : Int} {v : Int × Int} {i : Nat} {out : List Pr} (h : PutSt l k v i false out) (hi' : i < l.length) (hp : l[i].1 < k) : PutSt l k v (i + 1) false (out ++ [l[i]]) := by
  obtain ⟨h1, rfl⟩ := h.1 rfl
  refine ⟨fun _ => ⟨fun q hq => ?_, (take_snoc l i hi').symm⟩, fun h => by cases h⟩
  rw [take_snoc l i hi'] at hq
  rcases List.mem_append.1 hq with hq | hq
  · exact h1 q hq
  · obtain rfl := List.mem_singleton.1 hq; exact hp
theorem PutSt.more {l : List Pr} {k : Int} {v : Int × Int} {i : Nat} {out : List Pr} (h : PutSt l k v i true out) (hi' : i < l.length) : k < l[i].1 ∧ PutSt l k v (i + 1) true (out ++ [l[i]]) := by
  obtain ⟨h1, rfl⟩ := h.2 rfl
  have hp := h1 l[i] (by rw [List.drop_eq_getElem_cons hi']; exact List.mem_cons_self)
  refine ⟨hp, fun h => (by cases h), fun _ => ⟨fun q hq => h1 q ?_, ?_⟩⟩
  · rw [List.drop_eq_getElem_cons hi']; exact List.mem_cons_of_mem _ hq
  · rw [take_snoc l i hi', insP_gt hp]
theorem PutSt.done {l : List Pr} {k : Int} {v : Int × Int} {out : List Pr} (h : PutSt l k v l.length true out) : out = insP l k v := by
  have := (h.2 rfl).2; rwa [List.take_length] at this
theorem PutSt.end_ {l : List Pr} {k : Int} {v : Int × Int} {out : List Pr} (h : PutSt l k v l.length false out) : out ++ [(k, v)] = insP l k v := by
  obtain ⟨h1, h2⟩ := h.1 rfl
  rw [List.take_length] at h1 h2
  rw [h2, insP_lt h1]
theorem Up.take_ {l : List Pr} {lo hi : Int} (h : Up lo hi (keysP l)) (i : Nat) : Up lo hi (keysP (l.take i)) := by
  have e : keysP l = keysP (l.take i) ++ keysP (l.drop i) := by rw [← List.take_append_drop i l]; simp [keysP]
  rw [e] at h
  exact h.left
theorem PutSt.len {l : List Pr} {k lo hi : Int} {v : Int × Int} {i : Nat} {b : Bool} {out : List Pr} (h : PutSt l k v i b out) (hu : Up lo hi (keysP l)) : out.length ≤ l.length + 1 := by
  cases b with
  | false => rw [(h.1 rfl).2, List.length_take]; omega
  | true =>
    rw [(h.2 rfl).2, insP_len (hu.take_ i), List.length_take]
    split <;> omega
theorem delP_snoc (l : List Pr) (k : Int) (i : Nat) (hi : i < l.length) : delP (l.take (i + 1)) k = delP (l.take i) k ++ (if l[i].1 = k then [] else [l[i]]) := by
  rw [take_snoc l i hi]
  unfold delP
  rw [List.filter_append, List.filter_cons]
  by_cases h : l[i].1 = k <;> simp [h]
theorem delP_le (l : List Pr) (k : Int) : (delP l k).length ≤ l.length := List.length_filter_le _ _
theorem rangeP_snoc (l : List Pr) (k to : Int) (i : Nat) (hi : i < l.length) : rangeP k to (l.take (i + 1)) = rangeP k to (l.take i) ++ (if k ≤ l[i].1 ∧ l[i].1 ≤ to then [l[i]] else []) := by
  rw [take_snoc l i hi]
  unfold rangeP
  rw [List.filter_append, List.filter_cons]
  by_cases h1 : k ≤ l[i].1 <;> by_cases h2 : l[i].1 ≤ to <;> simp [h1, h2]
theorem rangeP_le (l : List Pr) (k to : Int) : (rangeP k to l).length ≤ l.length := List.length_filter_le _ _
/-- What is done to a tree: what, a key, an extent. -/
structure Ac where
  k : Int
  key : Int
  s : Int
  l : Int
def stepP (l : List Pr) (a : Ac) : List Pr := if a.k = 0 then insP l a.key (a.s, a.l) else delP l a.key
def growP (acts : List Ac) : List Pr := acts.foldl stepP []
theorem growP_snoc (acts : List Ac) (i : Nat) (hi : i < acts.length) : growP (acts.take (i + 1)) = stepP (growP (acts.take i)) acts[i] := by
  rw [take_snoc acts i hi]; unfold growP; rw [List.foldl_append]; rfl
theorem Up.step {l : List Pr} {a : Ac} (h : Up 0 top (keysP l)) (h0 : 0 ≤ a.key) (h1 : a.key < top) : Up 0 top (keysP (stepP l a)) := by
  unfold stepP
  split
  · exact h.ins h0 h1
  · exact h.filter
theorem stepP_len {l : List Pr} {a : Ac} (h : Up 0 top (keysP l)) : (stepP l a).length ≤ l.length + 1 := by
  unfold stepP
  split
  · rw [insP_len h]; split <;> omega
  · have := delP_le l a.key; omega
theorem growP_ok : ∀ {acts : List Ac} (i : Nat), (∀ a ∈ acts, 0 ≤ a.key ∧ a.key < top) → i ≤ acts.length → Up 0 top (keysP (growP (acts.take i))) ∧ (growP (acts.take i)).length ≤ i
  | acts, 0, h, _ => ⟨trivial, by simp [growP]⟩
  | acts, i + 1, h, hi => by
    obtain ⟨a, b⟩ := growP_ok i h (by omega)
    rw [growP_snoc acts i (by omega)]
    have hk := h acts[i] (List.getElem_mem _)
    refine ⟨a.step hk.1 hk.2, ?_⟩
    have := stepP_len (a := acts[i]) a
    omega
theorem rangeP_all {l : List Pr} (h : Up 0 top (keysP l)) : rangeP 0 18446744073709551615 l = l := by
  unfold rangeP
  refine filter_all fun p hp => ?_
  have := h.mem (x := p.1) (List.mem_map.2 ⟨p, hp, rfl⟩)
  unfold top at this
  simp; omega
end Go.Proofs.Ytdglignjoojimaa

/- The reference of trees. No conditions. -/
set_option linter.unusedVariables false
set_option linter.unusedSimpArgs false
namespace Go.Proofs.Ytdglignjoojimaa

/-- Pairs in a slice that is known for good. -/
abbrev PL (h : Hp) (v : Value) (l : List Pr) : Prop := SlR h [] v l.length (prs l) 3
theorem BP.kn {h : Hp} {v : Value} {l : List Pr} {G : Gr} (B : BP v l G) (k : KnowG h G) : PL h v l := B.known k
set_option maxRecDepth 100000 in
theorem eqX (a b c d : Int) (w : World) : (Op.equal 34 (.agg #[.int .i64 a, .int .i64 b]) (.agg #[.int .i64 c, .int .i64 d])).run Try.prog w = .ok (decide (a = c) && decide (b = d)) w ∧
    ∀ n, (Op.equalIn (n + 2) 34 (.agg #[.int .i64 a, .int .i64 b]) (.agg #[.int .i64 c, .int .i64 d])).run Try.prog w = .ok (decide (a = c) && decide (b = d)) w := by
  have hi : ∀ (n : Nat) (x y : Int), (Op.equalIn (n + 1) 3 (.int .i64 x) (.int .i64 y)).run Try.prog w = .ok (x == y) w := fun n x y => by
    simp only [Op.equalIn, Sem.run_bind, run_under w Try.underlying3, Result.andThen_ok, if_true]; rfl
  have this : ∀ n, (Op.equalIn (n + 2) 34 (.agg #[.int .i64 a, .int .i64 b]) (.agg #[.int .i64 c, .int .i64 d])).run Try.prog w = .ok (decide (a = c) && decide (b = d)) w := fun n => by
    rw [Op.equalIn]
    simp only [Sem.run_bind, run_under w Try.underlying34, Result.andThen_ok]
    have hp : (program).run Try.prog w = .ok Try.prog w := rfl
    have p1 : ∀ x y : Int, (part 3 #[Value.int .i64 x, Value.int .i64 y] 0).run Try.prog w = .ok (.int .i64 x) w := fun _ _ => rfl
    have p2 : ∀ x y : Int, (part 3 #[Value.int .i64 x, Value.int .i64 y] 1).run Try.prog w = .ok (.int .i64 y) w := fun _ _ => rfl
    simp only [hp, Result.andThen_ok, show Try.prog.stoodInHeld 34 = false by kernel_rfl, Bool.false_eq_true, if_false, List.forIn_toArray, List.forIn_cons, List.forIn_nil, Sem.run_bind, show ("Start" ≠ "_") = True by simp, show ("Len" ≠ "_") = True by simp, if_true, p1, p2, hi]
    by_cases h1 : a = c <;> by_cases h2 : b = d <;> simp [h1, h2, Sem.run_bind, p1, p2, hi]
  exact ⟨this 9998, this⟩
set_option maxRecDepth 100000 in
theorem eqP (p q : Pr) (w : World) : (Op.equal 47 (.agg #[.int .u64 p.1, .int .i64 p.2.1, .int .i64 p.2.2]) (.agg #[.int .u64 q.1, .int .i64 q.2.1, .int .i64 q.2.2])).run Try.prog w = .ok (decide (p = q)) w := by
  obtain ⟨a, b, c⟩ := p
  obtain ⟨x, y, z⟩ := q
  have hi : ∀ (n : Nat) (x y : Int), (Op.equalIn (n + 1) 23 (.int .u64 x) (.int .u64 y)).run Try.prog w = .ok (x == y) w := fun n x y => by
    simp only [Op.equalIn, Sem.run_bind, run_under w Try.underlying23, Result.andThen_ok, if_true]; rfl
  have he := fun b c y z => (eqX b c y z w).2
  have this : ∀ n, (Op.equalIn (n + 3) 47 (.agg #[.int .u64 a, .int .i64 b, .int .i64 c]) (.agg #[.int .u64 x, .int .i64 y, .int .i64 z])).run Try.prog w = .ok (decide (a = x) && (decide (b = y) && decide (c = z))) w := fun n => by
    rw [Op.equalIn]
    simp only [Sem.run_bind, run_under w Try.underlying47, Result.andThen_ok]
    have hp : (program).run Try.prog w = .ok Try.prog w := rfl
    have p1 : ∀ x y z : Int, (part 23 #[Value.int .u64 x, Value.int .i64 y, Value.int .i64 z] 0).run Try.prog w = .ok (.int .u64 x) w := fun _ _ _ => rfl
    have p2 : ∀ x y z : Int, (part 34 #[Value.int .u64 x, Value.int .i64 y, Value.int .i64 z] 1).run Try.prog w = .ok (.agg #[.int .i64 y, .int .i64 z]) w := fun _ _ _ => rfl
    simp only [hp, Result.andThen_ok, show Try.prog.stoodInHeld 47 = false by kernel_rfl, Bool.false_eq_true, if_false, List.forIn_toArray, List.forIn_cons, List.forIn_nil, Sem.run_bind, show ("Key" ≠ "_") = True by simp, show ("At" ≠ "_") = True by simp, if_true, p1, p2, hi, he]
    by_cases h1 : a = x <;> by_cases h2 : b = y <;> by_cases h3 : c = z <;> simp [h1, h2, h3, Sem.run_bind, p1, p2, hi, he]
  have e := this 9997
  have e2 : decide ((a, b, c) = (x, y, z)) = (decide (a = x) && (decide (b = y) && decide (c = z))) := by
    rw [Bool.eq_iff_iff]; simp
  rw [e2]; exact e

set_option maxRecDepth 100000 in
theorem same_con (v u : Value) (l m : List Pr) (h : Hp) (hs : PL h v l) (hm : PL h u m) (hn : l.length ≤ 100000) (hn2 : m.length ≤ 100000) : Con Try.prog 14 [v, u] h [] (fun r h' nb => r = .bool (decide (l = m)) ∧ h = h' ∧ nb = []) := by
  obtain ⟨A, cap, rfl, hle, hmx⟩ := hs.form
  obtain ⟨A2, cap2, rfl, hle2, hmx2⟩ := hm.form
  refine Con_of Try.func14 rfl Try.ntmps14 (Nat.le_of_ble_eq_true rfl) (fun w0 => ?_)
  refine V_seq ?_
  refine V_region ?_
  refine VL_still rfl rfl rfl (S_assign rfl) ?_
  refine VL_nil ?_
  refine VQ_then ?_
  refine V_seq ?_
  refine V_seq ?_
  refine V_region ?_
  refine VL_still rfl rfl rfl (S_move rfl) ?_
  refine VL_still rfl rfl rfl (S_len Try.underlying26 rfl) ?_
  refine VL_still rfl rfl rfl (S_move rfl) ?_
  refine VL_still rfl rfl rfl (S_len Try.underlying26 rfl) ?_
  refine VL_still rfl rfl rfl (S_neq rfl rfl) ?_
  refine VL_nil ?_
  refine VQ_then ?_
  refine V_cond rfl (fun hc10 => ?_) (fun hc10 => ?_)
  · skip
    have hne : l.length ≠ m.length := by
      simp only [Bool.not_eq_true', decide_eq_false_iff_not] at hc10
      omega
    refine V_seq ?_
    refine V_region ?_
    refine VL_still rfl rfl rfl (S_assign rfl) ?_
    refine VL_nil ?_
    refine VQ_then ?_
    refine V_ret ?_
    refine VQ_then_ret ?_
    refine VQ_fin1 (nb := []) (by first | exact .inl rfl | exact .inr rfl) rfl (RV_tmp rfl) ?sb ?po
    case po =>
      refine ⟨?_, rfl, rfl⟩
      rw [decide_eq_false (fun e => hne (by rw [e]))]
    case sb => exact (by repeat (first | exact SubB.nil | exact Pick.here | apply Pick.there | apply SubB.emp | apply SubB.cons))
  · skip
    have heq : l.length = m.length := by
      simp only [Bool.not_eq_false', decide_eq_true_eq] at hc10
      omega
    refine V_skip ?_
    refine VQ_then ?_
    refine V_seq ?_
    refine V_seq ?_
    refine V_region ?_
    refine VL_still rfl rfl rfl (S_move rfl) ?_
    refine VL_still rfl rfl rfl (S_len Try.underlying26 rfl) ?_
    refine VL_still rfl rfl rfl (S_move rfl) ?_
    refine VL_nil ?_
    refine VQ_then ?_
    refine V_block ?_
    refine V_loop (ι := Nat) (fun i => l.length - i) (fun i => i ≤ l.length ∧ l.take i = m.take i) (fun i => [(0, (.slice A l.length cap)), (1, .slice A2 m.length cap2), (12, .int .i64 l.length), (13, .int .i64 i)]) (fun _ => h) (fun _ => []) 0 ⟨Nat.zero_le _, by simp⟩ (by repeat (first | exact trivial | refine ⟨rfl, ?_⟩)) rfl (by repeat (first | exact SubB.nil | exact Pick.here | apply Pick.there | apply SubB.emp | apply SubB.cons)) (fun i hi => ?_)
    obtain ⟨hi1, hi2⟩ := hi
    refine V_seq ?_
    refine V_region ?_
    refine VL_still rfl rfl rfl (S_lss rfl rfl) ?_
    refine VL_nil ?_
    refine VQ_then ?_
    refine V_seq ?_
    refine V_cond rfl (fun hc14 => ?_) (fun hc14 => ?_)
    · skip
      have hlt : i < l.length := by
        have := of_decide_eq_true hc14
        omega
      obtain ⟨bb, off, cap', e1, hcc⟩ := hs.at_ prE rfl hlt
      simp only [Value.slice.injEq] at e1
      obtain ⟨rfl, _, rfl⟩ := e1
      have hlt2 : i < m.length := by omega
      obtain ⟨bb2, off2, cap2', e1, hcc2⟩ := hm.at_ prE rfl hlt2
      simp only [Value.slice.injEq] at e1
      obtain ⟨rfl, _, rfl⟩ := e1
      refine V_skip ?_
      refine VQ_then ?_
      refine V_seq ?_
      refine V_block ?_
      refine V_seq ?_
      refine V_region ?_
      refine VL_still rfl rfl rfl (S_move rfl) ?_
      refine VL_still rfl rfl rfl (S_assign rfl) ?_
      refine VL_nil ?_
      refine VQ_then ?_
      refine V_seq ?_
      refine V_draw _ [] 0 Try.mixed (by kernel_rfl) (Sub.refl _) SubB.nil ?_
      refine VD_still rfl rfl rfl rfl (S_move rfl) ?_
      refine VD_still rfl rfl rfl rfl (S_move rfl) ?_
      refine VD_still rfl rfl rfl rfl (X_at i Try.underlying26 tx47 rfl rfl hlt) ?_
      refine VD_still rfl rfl rfl rfl (S_loads (vs := pr l[i]) Try.underlying47 rfl ti47 rfl rfl (hcc.mono (Sub.refl _) (fun q hq => by simp at hq))) ?_
      refine VD_still rfl rfl rfl rfl (S_move rfl) ?_
      refine VD_still rfl rfl rfl rfl (S_move rfl) ?_
      refine VD_still rfl rfl rfl rfl (X_at i Try.underlying26 tx47 rfl rfl hlt2) ?_
      refine VD_still rfl rfl rfl rfl (S_loads (vs := pr m[i]) Try.underlying47 rfl ti47 rfl rfl (hcc2.mono (Sub.refl _) (fun q hq => by simp at hq))) ?_
      refine VD_still rfl rfl rfl rfl (S_nea (by kernel_rfl) (eqP l[i] m[i]) rfl rfl) ?_
      refine VD_nil ?_
      refine VQ_then ?_
      refine V_cond rfl (fun hc24 => ?_) (fun hc24 => ?_)
      · skip
        have hne : l[i] ≠ m[i] := by simpa using hc24
        refine V_seq ?_
        refine V_region ?_
        refine VL_still rfl rfl rfl (S_assign rfl) ?_
        refine VL_nil ?_
        refine VQ_then ?_
        refine V_ret ?_
        refine VQ_block_ret ?_
        refine VQ_then_ret ?_
        refine VQ_then_ret ?_
        refine VQ_block_ret ?_
        refine VQ_then_ret ?_
        refine VQ_fin1 (nb := []) (by first | exact .inl rfl | exact .inr rfl) rfl (RV_tmp rfl) ?sb ?po
        case po =>
          refine ⟨?_, rfl, rfl⟩
          rw [decide_eq_false (fun e => hne (by subst e; rfl))]
        case sb => exact (by repeat (first | exact SubB.nil | exact Pick.here | apply Pick.there | apply SubB.emp | apply SubB.cons))
      · skip
        have he : l[i] = m[i] := by simpa using hc24
        refine V_skip ?_
        refine VQ_block_normal ?_
        refine VQ_then ?_
        refine V_region ?_
        first | refine VL_still rfl rfl rfl (S_addi rfl rfl (by omega) (by omega)) ?_ | refine VL_still rfl rfl rfl (S_add rfl rfl) ?_
        refine VL_still rfl rfl rfl (S_move rfl) ?_
        refine VL_nil ?_
        refine VQ_mid (i + 1) ⟨⟨by omega, ?_⟩, by omega⟩ (by repeat (first | exact trivial | refine ⟨rfl, ?_⟩)) rfl SubB.nil
        rw [take_snoc l i hlt, take_snoc m i hlt2, hi2, he]
    · skip
      refine V_exit ?_
      refine VQ_then_exit ?_
      refine VQ_then_exit ?_
      refine VQ_block_exit ?_
      refine VQ_then ?_
      refine V_seq ?_
      refine V_region ?_
      refine VL_still rfl rfl rfl (S_assign rfl) ?_
      refine VL_nil ?_
      refine VQ_then ?_
      refine V_ret ?_
      refine VQ_fin1 (nb := []) (by first | exact .inl rfl | exact .inr rfl) rfl (RV_tmp rfl) ?sb ?po
      case po =>
        have hge : i = l.length := by
          have := of_decide_eq_false hc14
          omega
        subst hge
        rw [List.take_length, heq, List.take_length] at hi2
        exact ⟨by rw [decide_eq_true hi2], rfl, rfl⟩
      case sb => exact (by repeat (first | exact SubB.nil | exact Pick.here | apply Pick.there | apply SubB.emp | apply SubB.cons))

set_option maxRecDepth 100000 in
theorem rrange_con (v : Value) (l : List Pr) (h : Hp) (hs : PL h v l) (hn : l.length ≤ 100000) (k to : Int) : Con Try.prog 16 [v, .int .u64 k, .int .u64 to] h [] (fun r h' nb => h = h' ∧ ∃ G', BP r (rangeP k to l) G' ∧ nb = [G']) := by
  obtain ⟨A, cap, rfl, hle, hmx⟩ := hs.form
  refine Con_of Try.func16 rfl Try.ntmps16 (Nat.le_of_ble_eq_true rfl) (fun w0 => ?_)
  refine V_seq ?_
  refine V_region ?_
  refine VL_still rfl rfl rfl (S_assign rfl) ?_
  refine VL_nil ?_
  refine VQ_then ?_
  refine V_seq ?_
  refine V_region ?_
  refine VL_eff rfl (E_bs0 rfl Try.underlying26 ti47) ?_
  rintro _ _ _ ⟨b10, hb10, rfl, rfl, rfl⟩
  refine VL_still rfl rfl rfl (S_assign rfl) ?_
  refine VL_nil ?_
  refine VQ_then ?_
  refine V_seq ?_
  refine V_seq ?_
  refine V_region ?_
  refine VL_still rfl rfl rfl (S_move rfl) ?_
  refine VL_still rfl rfl rfl (S_len Try.underlying26 rfl) ?_
  refine VL_still rfl rfl rfl (S_move rfl) ?_
  refine VL_nil ?_
  refine VQ_then ?_
  refine V_block ?_
  refine V_loop (ι := Nat × Value × Gr) (fun x => l.length - x.1) (fun (i, v, G) => i ≤ l.length ∧ BP v (rangeP k to (l.take i)) G) (fun (i, v, G) => [(0, (.slice A l.length cap)), (1, .int .u64 k), (2, .int .u64 to), (7, v), (11, (.slice A l.length cap)), (12, .int .i64 l.length), (13, .int .i64 i)]) (fun _ => h) (fun (i, v, G) => [G]) (0, .slice (some ⟨b10, 0, none⟩) 0 0, _) ⟨Nat.zero_le _, Buf.lit (n := 0) (cs := []) rfl (by omega)⟩ (by repeat (first | exact trivial | refine ⟨rfl, ?_⟩)) rfl (by repeat (first | exact SubB.nil | exact Pick.here | apply Pick.there | apply SubB.emp | apply SubB.cons)) (fun ⟨i, v, G⟩ hi => ?_)
  obtain ⟨hi1, hB⟩ := hi
  simp only at hi1 hB ⊢
  have hrl := rangeP_le (l.take i) k to
  have htl : (l.take i).length ≤ l.length := by rw [List.length_take]; omega
  refine V_seq ?_
  refine V_region ?_
  refine VL_still rfl rfl rfl (S_lss rfl rfl) ?_
  refine VL_nil ?_
  refine VQ_then ?_
  refine V_seq ?_
  refine V_cond rfl (fun hc14 => ?_) (fun hc14 => ?_)
  · skip
    have hlt : i < l.length := by
      have := of_decide_eq_true hc14
      omega
    obtain ⟨bb, off, cap', e1, hcc⟩ := hs.at_ prE rfl hlt
    simp only [Value.slice.injEq] at e1
    obtain ⟨rfl, _, rfl⟩ := e1
    have hsn := rangeP_snoc l k to i hlt
    refine V_skip ?_
    refine VQ_then ?_
    refine V_seq ?_
    refine V_block ?_
    refine V_seq ?_
    refine V_region ?_
    refine VL_still rfl rfl rfl (X_at i Try.underlying26 tx47 rfl rfl hlt) ?_
    refine VL_still rfl rfl rfl (S_loads (vs := pr l[i]) Try.underlying47 rfl ti47 rfl rfl (hcc.mono (Sub.refl _) (fun q hq => by simp at hq))) ?_
    refine VL_eff rfl (E_alloc rfl tz47) ?_
    rintro _ _ _ ⟨b9, hb9, rfl, rfl, rfl⟩
    refine VL_eff rfl (E_store ti47 rfl rfl rfl rfl rfl (by repeat (first | exact Has.here | apply Has.there)) (by repeat (first | exact PutR.nil | exact SetL.here | apply SetL.there | apply PutR.cons)) (by repeat (first | exact UpdG.here | apply UpdG.there))) ?_
    rintro _ _ _ ⟨rfl, rfl, rfl⟩
    refine VL_nil ?_
    refine VQ_then ?_
    refine V_seq ?_
    refine V_region ?_
    refine VL_still rfl rfl rfl (S_field (k := 0) Try.underlying47 rfl rfl ti23 rfl rfl) ?_
    first | refine VL_still rfl rfl rfl (S_load Try.underlying23 rfl rfl (Cell.trk (by repeat (first | exact Has.here | apply Has.there)) rfl)) ?_ | refine VL_still rfl rfl rfl (S_load Try.underlying23 rfl rfl (Cell.known (by first | assumption | exact (by assumption : Sub _ _) _ _ (by assumption) | exact (Sub.trans (by assumption) (by assumption)) _ _ (by assumption)) rfl)) ?_
    refine VL_still rfl rfl rfl (S_move rfl) ?_
    refine VL_still rfl rfl rfl (S_geq rfl rfl) ?_
    refine VL_still rfl rfl rfl (S_move rfl) ?_
    refine VL_bool 21 rfl (fun hc21 => ?_) (fun hc21 => ?_)
    · skip
      have h1 : k ≤ l[i].1 := of_decide_eq_true hc21
      refine VL_still rfl rfl rfl (S_field (k := 0) Try.underlying47 rfl rfl ti23 rfl rfl) ?_
      first | refine VL_still rfl rfl rfl (S_load Try.underlying23 rfl rfl (Cell.trk (by repeat (first | exact Has.here | apply Has.there)) rfl)) ?_ | refine VL_still rfl rfl rfl (S_load Try.underlying23 rfl rfl (Cell.known (by first | assumption | exact (by assumption : Sub _ _) _ _ (by assumption) | exact (Sub.trans (by assumption) (by assumption)) _ _ (by assumption)) rfl)) ?_
      refine VL_still rfl rfl rfl (S_move rfl) ?_
      refine VL_still rfl rfl rfl (S_leq rfl rfl) ?_
      first | refine VL_still rfl rfl rfl (S_pick_t rfl rfl) ?_ | refine VL_still rfl rfl rfl (S_pick_f rfl rfl) ?_
      refine VL_nil ?_
      refine VQ_then ?_
      refine V_cond rfl (fun hc26 => ?_) (fun hc26 => ?_)
      · skip
        have h2 : l[i].1 ≤ to := of_decide_eq_true hc26
        rw [if_pos ⟨h1, h2⟩] at hsn
        refine V_region ?_
        refine VL_still rfl rfl rfl (S_move rfl) ?_
        first | refine VL_still rfl rfl rfl (S_loads Try.underlying47 rfl ti47 rfl rfl (Cells.known (by first | assumption | exact (by assumption : Sub _ _) _ _ (by assumption) | exact (Sub.trans (by assumption) (by assumption)) _ _ (by assumption)))) ?_ | refine VL_still rfl rfl rfl (S_loads Try.underlying47 rfl ti47 rfl rfl (Cells.all (by repeat (first | exact Has.here | apply Has.there)))) ?_ | refine VL_still rfl rfl rfl (S_loads Try.underlying47 rfl ti47 rfl rfl (Cells.trk (by repeat (first | exact Has.here | apply Has.there)) (by repeat (first | exact TakeR.here (by repeat (first | exact HeadR.nil | apply HeadR.cons)) | apply TakeR.there)))) ?_
        refine VL_eff rfl (E_bs1 rfl Try.underlying26 ti47 rfl rfl rfl rfl rfl rfl) ?_
        rintro _ _ _ ⟨b29, hb29, rfl, rfl, rfl⟩
        refine VL_eff rfl (X_append rfl Try.underlying26 Try.underlying26 rfl tx47 rfl rfl rfl rfl hB (by repeat (first | exact Pick.here | apply Pick.there)) (Buf.reads (G := [(b29, .cells (List.toArray [.int .u64 l[i].1, .int .i64 l[i].2.1, .int .i64 l[i].2.2]) 47 (0, 0))]) (Buf.lit (n := 1) (by rfl) (by omega)) (fun q hq => by simp at hq ⊢; try simp [hq])) rfl (by omega)) ?_
        rintro _ _ _ ⟨v30, G30, hB30, rfl, rfl, rfl⟩
        replace hB30 := Buf.snoc (enc := pr) (a := l[i]) hB30
        refine VL_still rfl rfl rfl (S_assign rfl) ?_
        refine VL_nil ?_
        refine VQ_block_normal ?_
        refine VQ_then ?_
        refine V_region ?_
        first | refine VL_still rfl rfl rfl (S_addi rfl rfl (by omega) (by omega)) ?_ | refine VL_still rfl rfl rfl (S_add rfl rfl) ?_
        refine VL_still rfl rfl rfl (S_move rfl) ?_
        refine VL_nil ?_
        refine VQ_mid (i + 1, v30, G30) ⟨⟨by omega, by rw [hsn]; exact hB30⟩, by simp only; omega⟩ (by repeat (first | exact trivial | refine ⟨rfl, ?_⟩)) rfl (by repeat (first | exact SubB.nil | exact Pick.here | apply Pick.there | apply SubB.emp | apply SubB.cons))
      · skip
        have h2 : ¬ l[i].1 ≤ to := of_decide_eq_false hc26
        rw [if_neg (fun h => h2 h.2), List.append_nil] at hsn
        refine V_skip ?_
        refine VQ_block_normal ?_
        refine VQ_then ?_
        refine V_region ?_
        first | refine VL_still rfl rfl rfl (S_addi rfl rfl (by omega) (by omega)) ?_ | refine VL_still rfl rfl rfl (S_add rfl rfl) ?_
        refine VL_still rfl rfl rfl (S_move rfl) ?_
        refine VL_nil ?_
        refine VQ_mid (i + 1, v, G) ⟨⟨by omega, by rw [hsn]; exact hB⟩, by simp only; omega⟩ (by repeat (first | exact trivial | refine ⟨rfl, ?_⟩)) rfl (by repeat (first | exact SubB.nil | exact Pick.here | apply Pick.there | apply SubB.emp | apply SubB.cons))
    · skip
      have h1 : ¬ k ≤ l[i].1 := of_decide_eq_false hc21
      rw [if_neg (fun h => h1 h.1), List.append_nil] at hsn
      refine VL_skip rfl rfl rfl ?_
      refine VL_skip rfl rfl rfl ?_
      refine VL_skip rfl rfl rfl ?_
      refine VL_skip rfl rfl rfl ?_
      first | refine VL_still rfl rfl rfl (S_pick_t rfl rfl) ?_ | refine VL_still rfl rfl rfl (S_pick_f rfl rfl) ?_
      refine VL_nil ?_
      refine VQ_then ?_
      refine V_cond_false rfl ?_
      refine V_skip ?_
      refine VQ_block_normal ?_
      refine VQ_then ?_
      refine V_region ?_
      first | refine VL_still rfl rfl rfl (S_addi rfl rfl (by omega) (by omega)) ?_ | refine VL_still rfl rfl rfl (S_add rfl rfl) ?_
      refine VL_still rfl rfl rfl (S_move rfl) ?_
      refine VL_nil ?_
      refine VQ_mid (i + 1, v, G) ⟨⟨by omega, by rw [hsn]; exact hB⟩, by simp only; omega⟩ (by repeat (first | exact trivial | refine ⟨rfl, ?_⟩)) rfl (by repeat (first | exact SubB.nil | exact Pick.here | apply Pick.there | apply SubB.emp | apply SubB.cons))
  · skip
    have hge : i = l.length := by
      have := of_decide_eq_false hc14
      omega
    subst hge
    rw [List.take_length] at hB
    refine V_exit ?_
    refine VQ_then_exit ?_
    refine VQ_then_exit ?_
    refine VQ_block_exit ?_
    refine VQ_then ?_
    refine V_seq ?_
    refine V_region ?_
    refine VL_still rfl rfl rfl (S_move rfl) ?_
    refine VL_still rfl rfl rfl (S_assign rfl) ?_
    refine VL_nil ?_
    refine VQ_then ?_
    refine V_ret ?_
    refine VQ_fin1 (nb := [G]) (by first | exact .inl rfl | exact .inr rfl) rfl (RV_tmp rfl) ?sb ?po
    case po =>
      exact ⟨rfl, G, hB, rfl⟩
    case sb => exact (by repeat (first | exact SubB.nil | exact Pick.here | apply Pick.there | apply SubB.emp | apply SubB.cons))

set_option maxRecDepth 100000 in
theorem rdel_con (v : Value) (l : List Pr) (h : Hp) (hs : PL h v l) (hn : l.length ≤ 100000) (k : Int) : Con Try.prog 26 [v, .int .u64 k] h [] (fun r h' nb => h = h' ∧ ∃ G', BP r (delP l k) G' ∧ nb = [G']) := by
  obtain ⟨A, cap, rfl, hle, hmx⟩ := hs.form
  refine Con_of Try.func26 rfl Try.ntmps26 (Nat.le_of_ble_eq_true rfl) (fun w0 => ?_)
  refine V_seq ?_
  refine V_region ?_
  refine VL_still rfl rfl rfl (S_assign rfl) ?_
  refine VL_nil ?_
  refine VQ_then ?_
  refine V_seq ?_
  refine V_region ?_
  refine VL_eff rfl (E_bs0 rfl Try.underlying26 ti47) ?_
  rintro _ _ _ ⟨b8, hb8, rfl, rfl, rfl⟩
  refine VL_still rfl rfl rfl (S_assign rfl) ?_
  refine VL_nil ?_
  refine VQ_then ?_
  refine V_seq ?_
  refine V_seq ?_
  refine V_region ?_
  refine VL_still rfl rfl rfl (S_move rfl) ?_
  refine VL_still rfl rfl rfl (S_len Try.underlying26 rfl) ?_
  refine VL_still rfl rfl rfl (S_move rfl) ?_
  refine VL_nil ?_
  refine VQ_then ?_
  refine V_block ?_
  refine V_loop (ι := Nat × Value × Gr) (fun x => l.length - x.1) (fun (i, v, G) => i ≤ l.length ∧ BP v (delP (l.take i) k) G) (fun (i, v, G) => [(0, (.slice A l.length cap)), (1, .int .u64 k), (5, v), (9, (.slice A l.length cap)), (10, .int .i64 l.length), (11, .int .i64 i)]) (fun _ => h) (fun (i, v, G) => [G]) (0, .slice (some ⟨b8, 0, none⟩) 0 0, _) ⟨Nat.zero_le _, Buf.lit (n := 0) (cs := []) rfl (by omega)⟩ (by repeat (first | exact trivial | refine ⟨rfl, ?_⟩)) rfl (by repeat (first | exact SubB.nil | exact Pick.here | apply Pick.there | apply SubB.emp | apply SubB.cons)) (fun ⟨i, v, G⟩ hi => ?_)
  obtain ⟨hi1, hB⟩ := hi
  simp only at hi1 hB ⊢
  have hrl := delP_le (l.take i) k
  have htl : (l.take i).length ≤ l.length := by rw [List.length_take]; omega
  refine V_seq ?_
  refine V_region ?_
  refine VL_still rfl rfl rfl (S_lss rfl rfl) ?_
  refine VL_nil ?_
  refine VQ_then ?_
  refine V_seq ?_
  refine V_cond rfl (fun hc12 => ?_) (fun hc12 => ?_)
  · skip
    have hlt : i < l.length := by
      have := of_decide_eq_true hc12
      omega
    obtain ⟨bb, off, cap', e1, hcc⟩ := hs.at_ prE rfl hlt
    simp only [Value.slice.injEq] at e1
    obtain ⟨rfl, _, rfl⟩ := e1
    have hsn := delP_snoc l k i hlt
    refine V_skip ?_
    refine VQ_then ?_
    refine V_seq ?_
    refine V_block ?_
    refine V_seq ?_
    refine V_region ?_
    refine VL_still rfl rfl rfl (X_at i Try.underlying26 tx47 rfl rfl hlt) ?_
    refine VL_still rfl rfl rfl (S_loads (vs := pr l[i]) Try.underlying47 rfl ti47 rfl rfl (hcc.mono (Sub.refl _) (fun q hq => by simp at hq))) ?_
    refine VL_eff rfl (E_alloc rfl tz47) ?_
    rintro _ _ _ ⟨b7, hb7, rfl, rfl, rfl⟩
    refine VL_eff rfl (E_store ti47 rfl rfl rfl rfl rfl (by repeat (first | exact Has.here | apply Has.there)) (by repeat (first | exact PutR.nil | exact SetL.here | apply SetL.there | apply PutR.cons)) (by repeat (first | exact UpdG.here | apply UpdG.there))) ?_
    rintro _ _ _ ⟨rfl, rfl, rfl⟩
    refine VL_nil ?_
    refine VQ_then ?_
    refine V_seq ?_
    refine V_region ?_
    refine VL_still rfl rfl rfl (S_field (k := 0) Try.underlying47 rfl rfl ti23 rfl rfl) ?_
    first | refine VL_still rfl rfl rfl (S_load Try.underlying23 rfl rfl (Cell.trk (by repeat (first | exact Has.here | apply Has.there)) rfl)) ?_ | refine VL_still rfl rfl rfl (S_load Try.underlying23 rfl rfl (Cell.known (by first | assumption | exact (by assumption : Sub _ _) _ _ (by assumption) | exact (Sub.trans (by assumption) (by assumption)) _ _ (by assumption)) rfl)) ?_
    refine VL_still rfl rfl rfl (S_move rfl) ?_
    refine VL_still rfl rfl rfl (S_neq rfl rfl) ?_
    refine VL_nil ?_
    refine VQ_then ?_
    refine V_cond rfl (fun hc18 => ?_) (fun hc18 => ?_)
    · skip
      have h1 : ¬ l[i].1 = k := by simpa using hc18
      rw [if_neg h1] at hsn
      refine V_region ?_
      refine VL_still rfl rfl rfl (S_move rfl) ?_
      first | refine VL_still rfl rfl rfl (S_loads Try.underlying47 rfl ti47 rfl rfl (Cells.known (by first | assumption | exact (by assumption : Sub _ _) _ _ (by assumption) | exact (Sub.trans (by assumption) (by assumption)) _ _ (by assumption)))) ?_ | refine VL_still rfl rfl rfl (S_loads Try.underlying47 rfl ti47 rfl rfl (Cells.all (by repeat (first | exact Has.here | apply Has.there)))) ?_ | refine VL_still rfl rfl rfl (S_loads Try.underlying47 rfl ti47 rfl rfl (Cells.trk (by repeat (first | exact Has.here | apply Has.there)) (by repeat (first | exact TakeR.here (by repeat (first | exact HeadR.nil | apply HeadR.cons)) | apply TakeR.there)))) ?_
      refine VL_eff rfl (E_bs1 rfl Try.underlying26 ti47 rfl rfl rfl rfl rfl rfl) ?_
      rintro _ _ _ ⟨b21, hb21, rfl, rfl, rfl⟩
      refine VL_eff rfl (X_append rfl Try.underlying26 Try.underlying26 rfl tx47 rfl rfl rfl rfl hB (by repeat (first | exact Pick.here | apply Pick.there)) (Buf.reads (G := [(b21, .cells (List.toArray [.int .u64 l[i].1, .int .i64 l[i].2.1, .int .i64 l[i].2.2]) 47 (0, 0))]) (Buf.lit (n := 1) (by rfl) (by omega)) (fun q hq => by simp at hq ⊢; try simp [hq])) rfl (by omega)) ?_
      rintro _ _ _ ⟨v22, G22, hB22, rfl, rfl, rfl⟩
      replace hB22 := Buf.snoc (enc := pr) (a := l[i]) hB22
      refine VL_still rfl rfl rfl (S_assign rfl) ?_
      refine VL_nil ?_
      refine VQ_block_normal ?_
      refine VQ_then ?_
      refine V_region ?_
      first | refine VL_still rfl rfl rfl (S_addi rfl rfl (by omega) (by omega)) ?_ | refine VL_still rfl rfl rfl (S_add rfl rfl) ?_
      refine VL_still rfl rfl rfl (S_move rfl) ?_
      refine VL_nil ?_
      refine VQ_mid (i + 1, v22, G22) ⟨⟨by omega, by rw [hsn]; exact hB22⟩, by simp only; omega⟩ (by repeat (first | exact trivial | refine ⟨rfl, ?_⟩)) rfl (by repeat (first | exact SubB.nil | exact Pick.here | apply Pick.there | apply SubB.emp | apply SubB.cons))
    · skip
      have h1 : l[i].1 = k := by simpa using hc18
      rw [if_pos h1, List.append_nil] at hsn
      refine V_skip ?_
      refine VQ_block_normal ?_
      refine VQ_then ?_
      refine V_region ?_
      first | refine VL_still rfl rfl rfl (S_addi rfl rfl (by omega) (by omega)) ?_ | refine VL_still rfl rfl rfl (S_add rfl rfl) ?_
      refine VL_still rfl rfl rfl (S_move rfl) ?_
      refine VL_nil ?_
      refine VQ_mid (i + 1, v, G) ⟨⟨by omega, by rw [hsn]; exact hB⟩, by simp only; omega⟩ (by repeat (first | exact trivial | refine ⟨rfl, ?_⟩)) rfl (by repeat (first | exact SubB.nil | exact Pick.here | apply Pick.there | apply SubB.emp | apply SubB.cons))
  · skip
    have hge : i = l.length := by
      have := of_decide_eq_false hc12
      omega
    subst hge
    rw [List.take_length] at hB
    refine V_exit ?_
    refine VQ_then_exit ?_
    refine VQ_then_exit ?_
    refine VQ_block_exit ?_
    refine VQ_then ?_
    refine V_seq ?_
    refine V_region ?_
    refine VL_still rfl rfl rfl (S_move rfl) ?_
    refine VL_still rfl rfl rfl (S_assign rfl) ?_
    refine VL_nil ?_
    refine VQ_then ?_
    refine V_ret ?_
    refine VQ_fin1 (nb := [G]) (by first | exact .inl rfl | exact .inr rfl) rfl (RV_tmp rfl) ?sb ?po
    case po =>
      exact ⟨rfl, G, hB, rfl⟩
    case sb => exact (by repeat (first | exact SubB.nil | exact Pick.here | apply Pick.there | apply SubB.emp | apply SubB.cons))

theorem lookP_at {l : List Pr} {k : Int} {i : Nat} (hi : i < l.length) (h : ∀ p ∈ l.take i, p.1 ≠ k) (hp : l[i].1 = k) : lookP l k = some l[i].2 := by
  have e : l = l.take i ++ (l[i] :: l.drop (i + 1)) := by rw [← List.drop_eq_getElem_cons hi, List.take_append_drop]
  unfold lookP
  conv => lhs; rw [e]
  rw [find_none_left h, List.find?_cons_of_pos (by simpa using hp)]; rfl
theorem lookP_none {l : List Pr} {k : Int} (h : ∀ p ∈ l, p.1 ≠ k) : lookP l k = none := by
  unfold lookP
  rw [List.find?_eq_none.2 (fun x hx => by simpa using h x hx)]; rfl

set_option maxRecDepth 100000 in
theorem rget_con (v : Value) (l : List Pr) (h : Hp) (hs : PL h v l) (hn : l.length ≤ 100000) (k : Int) : Con Try.prog 18 [v, .int .u64 k] h [] (fun r h' nb => r = .tuple #[xv ((lookP l k).getD (0, 0)), .bool (lookP l k).isSome] ∧ h = h' ∧ nb = []) := by
  obtain ⟨A, cap, rfl, hle, hmx⟩ := hs.form
  refine Con_of Try.func18 rfl Try.ntmps18 (Nat.le_of_ble_eq_true rfl) (fun w0 => ?_)
  refine V_seq ?_
  refine V_region ?_
  refine VL_eff rfl (E_alloc rfl tz34) ?_
  rintro _ _ _ ⟨b4, hb4, rfl, rfl, rfl⟩
  refine VL_still rfl rfl rfl (S_assign rfl) ?_
  refine VL_nil ?_
  refine VQ_then ?_
  refine V_seq ?_
  refine V_seq ?_
  refine V_region ?_
  refine VL_still rfl rfl rfl (S_move rfl) ?_
  refine VL_still rfl rfl rfl (S_len Try.underlying26 rfl) ?_
  refine VL_still rfl rfl rfl (S_move rfl) ?_
  refine VL_nil ?_
  refine VQ_then ?_
  refine V_block ?_
  refine V_loop (ι := Nat) (fun i => l.length - i) (fun i => i ≤ l.length ∧ ∀ p ∈ l.take i, p.1 ≠ k) (fun i => [(0, (.slice A l.length cap)), (1, .int .u64 k), (4, ptr b4), (8, (.slice A l.length cap)), (9, .int .i64 l.length), (10, .int .i64 i)]) (fun _ => h) (fun _ => [[(b4, .cells (List.toArray [.int .i64 0, .int .i64 0]) 34 (0, 0))]]) 0 ⟨Nat.zero_le _, by simp⟩ (by repeat (first | exact trivial | refine ⟨rfl, ?_⟩)) rfl (by repeat (first | exact SubB.nil | exact Pick.here | apply Pick.there | apply SubB.emp | apply SubB.cons)) (fun i hi => ?_)
  obtain ⟨hi1, hi2⟩ := hi
  refine V_seq ?_
  refine V_region ?_
  refine VL_still rfl rfl rfl (S_lss rfl rfl) ?_
  refine VL_nil ?_
  refine VQ_then ?_
  refine V_seq ?_
  refine V_cond rfl (fun hc11 => ?_) (fun hc11 => ?_)
  · skip
    have hlt : i < l.length := by
      have := of_decide_eq_true hc11
      omega
    obtain ⟨bb, off, cap', e1, hcc⟩ := hs.at_ prE rfl hlt
    simp only [Value.slice.injEq] at e1
    obtain ⟨rfl, _, rfl⟩ := e1
    refine V_skip ?_
    refine VQ_then ?_
    refine V_seq ?_
    refine V_block ?_
    refine V_seq ?_
    refine V_region ?_
    refine VL_still rfl rfl rfl (X_at i Try.underlying26 tx47 rfl rfl hlt) ?_
    refine VL_still rfl rfl rfl (S_loads (vs := pr l[i]) Try.underlying47 rfl ti47 rfl rfl (hcc.mono (Sub.refl _) (fun q hq => by simp at hq))) ?_
    refine VL_eff rfl (E_alloc rfl tz47) ?_
    rintro _ _ _ ⟨b7, hb7, rfl, rfl, rfl⟩
    refine VL_eff rfl (E_store ti47 rfl rfl rfl rfl rfl (by repeat (first | exact Has.here | apply Has.there)) (by repeat (first | exact PutR.nil | exact SetL.here | apply SetL.there | apply PutR.cons)) (by repeat (first | exact UpdG.here | apply UpdG.there))) ?_
    rintro _ _ _ ⟨rfl, rfl, rfl⟩
    refine VL_nil ?_
    refine VQ_then ?_
    refine V_seq ?_
    refine V_region ?_
    refine VL_still rfl rfl rfl (S_field (k := 0) Try.underlying47 rfl rfl ti23 rfl rfl) ?_
    first | refine VL_still rfl rfl rfl (S_load Try.underlying23 rfl rfl (Cell.trk (by repeat (first | exact Has.here | apply Has.there)) rfl)) ?_ | refine VL_still rfl rfl rfl (S_load Try.underlying23 rfl rfl (Cell.known (by first | assumption | exact (by assumption : Sub _ _) _ _ (by assumption) | exact (Sub.trans (by assumption) (by assumption)) _ _ (by assumption)) rfl)) ?_
    refine VL_still rfl rfl rfl (S_move rfl) ?_
    refine VL_still rfl rfl rfl (S_eql rfl rfl) ?_
    refine VL_nil ?_
    refine VQ_then ?_
    refine V_cond rfl (fun hc17 => ?_) (fun hc17 => ?_)
    · skip
      have he : l[i].1 = k := of_decide_eq_true hc17
      refine V_seq ?_
      refine V_region ?_
      refine VL_still rfl rfl rfl (S_field (k := 1) Try.underlying47 rfl rfl ti34 rfl rfl) ?_
      refine VL_still rfl rfl rfl (S_loads (vs := [.int .i64 l[i].2.1, .int .i64 l[i].2.2]) Try.underlying34 rfl ti34 rfl rfl (Cells.trk (by repeat (first | exact Has.here | apply Has.there)) (by repeat (first | exact TakeR.here (by repeat (first | exact HeadR.nil | apply HeadR.cons)) | apply TakeR.there)))) ?_
      refine VL_eff rfl (E_store ti34 rfl rfl rfl rfl rfl (by repeat (first | exact Has.here | apply Has.there)) (by repeat (first | exact PutR.nil | exact SetL.here | apply SetL.there | apply PutR.cons)) (by repeat (first | exact UpdG.here | apply UpdG.there))) ?_
      rintro _ _ _ ⟨rfl, rfl, rfl⟩
      refine VL_still rfl rfl rfl (S_assign rfl) ?_
      refine VL_nil ?_
      refine VQ_then ?_
      refine V_ret ?_
      refine VQ_block_ret ?_
      refine VQ_then_ret ?_
      refine VQ_then_ret ?_
      refine VQ_block_ret ?_
      refine VQ_then_ret ?_
      refine VQ_fin2 (nb := []) (by first | exact .inl rfl | exact .inr rfl) rfl (RV_cells Try.underlying34 rfl ti34 rfl rfl (Cells.all (by repeat (first | exact Has.here | apply Has.there)))) (RV_tmp rfl) ?sb ?po
      case po =>
        rw [lookP_at hlt hi2 he]
        exact ⟨rfl, rfl, rfl⟩
      case sb => exact (by repeat (first | exact SubB.nil | exact Pick.here | apply Pick.there | apply SubB.emp | apply SubB.cons))
    · skip
      have he : ¬ l[i].1 = k := of_decide_eq_false hc17
      refine V_skip ?_
      refine VQ_block_normal ?_
      refine VQ_then ?_
      refine V_region ?_
      first | refine VL_still rfl rfl rfl (S_addi rfl rfl (by omega) (by omega)) ?_ | refine VL_still rfl rfl rfl (S_add rfl rfl) ?_
      refine VL_still rfl rfl rfl (S_move rfl) ?_
      refine VL_nil ?_
      refine VQ_mid (i + 1) ⟨⟨by omega, fun q hq => ?_⟩, by omega⟩ (by repeat (first | exact trivial | refine ⟨rfl, ?_⟩)) rfl (by repeat (first | exact SubB.nil | exact Pick.here | apply Pick.there | apply SubB.emp | apply SubB.cons))
      rw [take_snoc l i hlt] at hq
      rcases List.mem_append.1 hq with hq | hq
      · exact hi2 q hq
      · obtain rfl := List.mem_singleton.1 hq; exact he
  · skip
    have hge : i = l.length := by
      have := of_decide_eq_false hc11
      omega
    subst hge
    rw [List.take_length] at hi2
    refine V_exit ?_
    refine VQ_then_exit ?_
    refine VQ_then_exit ?_
    refine VQ_block_exit ?_
    refine VQ_then ?_
    refine V_seq ?_
    refine V_region ?_
    refine VL_still rfl rfl rfl (S_struct Try.underlying34 to34 tz34 rfl (by repeat (first | exact BuildR.nil | exact PutR.nil | exact SetL.here | apply SetL.there | apply PutR.cons | apply BuildR.cons rfl (by first | exact ti3) rfl rfl rfl))) ?_
    refine VL_eff rfl (E_store ti34 rfl rfl rfl rfl rfl (by repeat (first | exact Has.here | apply Has.there)) (by repeat (first | exact PutR.nil | exact SetL.here | apply SetL.there | apply PutR.cons)) (by repeat (first | exact UpdG.here | apply UpdG.there))) ?_
    rintro _ _ _ ⟨rfl, rfl, rfl⟩
    refine VL_still rfl rfl rfl (S_assign rfl) ?_
    refine VL_nil ?_
    refine VQ_then ?_
    refine V_ret ?_
    refine VQ_fin2 (nb := []) (by first | exact .inl rfl | exact .inr rfl) rfl (RV_cells Try.underlying34 rfl ti34 rfl rfl (Cells.all (by repeat (first | exact Has.here | apply Has.there)))) (RV_tmp rfl) ?sb ?po
    case po =>
      rw [lookP_none hi2]
      exact ⟨rfl, rfl, rfl⟩
    case sb => exact (by repeat (first | exact SubB.nil | exact Pick.here | apply Pick.there | apply SubB.emp | apply SubB.cons))

set_option maxRecDepth 100000 in
theorem rput_con (v : Value) (l : List Pr) (h : Hp) (hs : PL h v l) (hn : l.length ≤ 100000) (k s n lo hi : Int) (hu : Up lo hi (keysP l)) : Con Try.prog 25 [v, .int .u64 k, .agg #[.int .i64 s, .int .i64 n]] h [] (fun r h' nb => h = h' ∧ ∃ G', BP r (insP l k (s, n)) G' ∧ nb = [G']) := by
  obtain ⟨A, cap, rfl, hle, hmx⟩ := hs.form
  refine Con_of Try.func25 rfl Try.ntmps25 (Nat.le_of_ble_eq_true rfl) (fun w0 => ?_)
  refine V_seq ?_
  refine V_region ?_
  refine VL_eff rfl (E_box rfl rfl rfl) ?_
  rintro _ _ _ ⟨b5, hb5, rfl, rfl, rfl⟩
  refine VL_still rfl rfl rfl (S_assign rfl) ?_
  refine VL_nil ?_
  refine VQ_then ?_
  refine V_seq ?_
  refine V_region ?_
  refine VL_eff rfl (E_bs0 rfl Try.underlying26 ti47) ?_
  rintro _ _ _ ⟨b11, hb11, rfl, rfl, rfl⟩
  refine VL_still rfl rfl rfl (S_assign rfl) ?_
  refine VL_nil ?_
  refine VQ_then ?_
  refine V_seq ?_
  refine V_region ?_
  refine VL_still rfl rfl rfl (S_assign rfl) ?_
  refine VL_nil ?_
  refine VQ_then ?_
  refine V_seq ?_
  refine V_seq ?_
  refine V_region ?_
  refine VL_still rfl rfl rfl (S_move rfl) ?_
  refine VL_still rfl rfl rfl (S_len Try.underlying26 rfl) ?_
  refine VL_still rfl rfl rfl (S_move rfl) ?_
  refine VL_nil ?_
  refine VQ_then ?_
  refine V_block ?_
  refine V_loop (ι := Nat × Value × Gr × Bool × List Pr) (fun x => l.length - x.1) (fun (i, v, G, b, out) => i ≤ l.length ∧ BP v out G ∧ PutSt l k (s, n) i b out) (fun (i, v, G, b, out) => [(0, (.slice A l.length cap)), (1, .int .u64 k), (5, ptr b5), (7, v), (8, .bool b), (12, (.slice A l.length cap)), (13, .int .i64 l.length), (14, .int .i64 i)]) (fun _ => h) (fun (i, v, G, b, out) => [G, [(b5, .cells (List.toArray [.int .i64 s, .int .i64 n]) 34 (0, 0))]]) (0, .slice (some ⟨b11, 0, none⟩) 0 0, _, false, []) ⟨Nat.zero_le _, Buf.lit (n := 0) (cs := []) rfl (by omega), PutSt.zero _ _ _⟩ (by repeat (first | exact trivial | refine ⟨rfl, ?_⟩)) rfl (by repeat (first | exact SubB.nil | exact Pick.here | apply Pick.there | apply SubB.emp | apply SubB.cons)) (fun ⟨i, v, G, b, out⟩ hi => ?_)
  obtain ⟨hi1, hB, hP⟩ := hi
  simp only at hi1 hB hP ⊢
  have hol := hP.len hu
  refine V_seq ?_
  refine V_region ?_
  refine VL_still rfl rfl rfl (S_lss rfl rfl) ?_
  refine VL_nil ?_
  refine VQ_then ?_
  refine V_seq ?_
  refine V_cond rfl (fun hc15 => ?_) (fun hc15 => ?_)
  · skip
    have hlt : i < l.length := by
      have := of_decide_eq_true hc15
      omega
    obtain ⟨bb, off, cap', e1, hcc⟩ := hs.at_ prE rfl hlt
    simp only [Value.slice.injEq] at e1
    obtain ⟨rfl, _, rfl⟩ := e1
    refine V_skip ?_
    refine VQ_then ?_
    refine V_seq ?_
    refine V_block ?_
    refine V_seq ?_
    refine V_region ?_
    refine VL_still rfl rfl rfl (X_at i Try.underlying26 tx47 rfl rfl hlt) ?_
    refine VL_still rfl rfl rfl (S_loads (vs := pr l[i]) Try.underlying47 rfl ti47 rfl rfl (hcc.mono (Sub.refl _) (fun q hq => by simp at hq))) ?_
    refine VL_eff rfl (E_alloc rfl tz47) ?_
    rintro _ _ _ ⟨b10, hb10, rfl, rfl, rfl⟩
    refine VL_eff rfl (E_store ti47 rfl rfl rfl rfl rfl (by repeat (first | exact Has.here | apply Has.there)) (by repeat (first | exact PutR.nil | exact SetL.here | apply SetL.there | apply PutR.cons)) (by repeat (first | exact UpdG.here | apply UpdG.there))) ?_
    rintro _ _ _ ⟨rfl, rfl, rfl⟩
    refine VL_nil ?_
    refine VQ_then ?_
    refine V_seq ?_
    refine V_seq ?_
    refine V_region ?_
    refine VL_still rfl rfl rfl (S_move rfl) ?_
    refine VL_still rfl rfl rfl (S_not rfl) ?_
    refine VL_still rfl rfl rfl (S_move rfl) ?_
    refine VL_bool 20 rfl (fun hc20 => ?_) (fun hc20 => ?_)
    · skip
      obtain rfl : b = false := by simpa using hc20
      refine VL_still rfl rfl rfl (S_field (k := 0) Try.underlying47 rfl rfl ti23 rfl rfl) ?_
      first | refine VL_still rfl rfl rfl (S_load Try.underlying23 rfl rfl (Cell.trk (by repeat (first | exact Has.here | apply Has.there)) rfl)) ?_ | refine VL_still rfl rfl rfl (S_load Try.underlying23 rfl rfl (Cell.known (by first | assumption | exact (by assumption : Sub _ _) _ _ (by assumption) | exact (Sub.trans (by assumption) (by assumption)) _ _ (by assumption)) rfl)) ?_
      refine VL_still rfl rfl rfl (S_move rfl) ?_
      refine VL_still rfl rfl rfl (S_geq rfl rfl) ?_
      first | refine VL_still rfl rfl rfl (S_pick_t rfl rfl) ?_ | refine VL_still rfl rfl rfl (S_pick_f rfl rfl) ?_
      refine VL_nil ?_
      refine VQ_then ?_
      refine V_cond rfl (fun hc25 => ?_) (fun hc25 => ?_)
      · skip
        have hge : k ≤ l[i].1 := of_decide_eq_true hc25
        have hP2 := hP.new hu hlt hge
        refine V_seq ?_
        refine V_region ?_
        refine VL_still rfl rfl rfl (S_move rfl) ?_
        refine VL_still rfl rfl rfl (S_move rfl) ?_
        first | refine VL_still rfl rfl rfl (S_loads Try.underlying34 rfl ti34 rfl rfl (Cells.known (by first | assumption | exact (by assumption : Sub _ _) _ _ (by assumption) | exact (Sub.trans (by assumption) (by assumption)) _ _ (by assumption)))) ?_ | refine VL_still rfl rfl rfl (S_loads Try.underlying34 rfl ti34 rfl rfl (Cells.all (by repeat (first | exact Has.here | apply Has.there)))) ?_ | refine VL_still rfl rfl rfl (S_loads Try.underlying34 rfl ti34 rfl rfl (Cells.trk (by repeat (first | exact Has.here | apply Has.there)) (by repeat (first | exact TakeR.here (by repeat (first | exact HeadR.nil | apply HeadR.cons)) | apply TakeR.there)))) ?_
        refine VL_still rfl rfl rfl (S_struct Try.underlying47 to47 tz47 rfl (by repeat (first | exact BuildR.nil | exact PutR.nil | exact SetL.here | apply SetL.there | apply PutR.cons | apply BuildR.cons rfl (by first | exact ti23 | exact ti34) rfl rfl rfl))) ?_
        refine VL_eff rfl (E_bs1 rfl Try.underlying26 ti47 rfl rfl rfl rfl rfl rfl) ?_
        rintro _ _ _ ⟨b30, hb30, rfl, rfl, rfl⟩
        refine VL_eff rfl (X_append rfl Try.underlying26 Try.underlying26 rfl tx47 rfl rfl rfl rfl hB (by repeat (first | exact Pick.here | apply Pick.there)) (Buf.reads (G := [(b30, .cells (List.toArray [.int .u64 k, .int .i64 s, .int .i64 n]) 47 (0, 0))]) (Buf.lit (n := 1) (by rfl) (by omega)) (fun q hq => by simp at hq ⊢; try simp [hq])) rfl (by omega)) ?_
        rintro _ _ _ ⟨v31, G31, hB31, rfl, rfl, rfl⟩
        replace hB31 := Buf.snoc (enc := pr) (a := (k, s, n)) hB31
        have hol1 : (out ++ [(k, s, n)]).length ≤ l.length + 2 := by rw [List.length_append]; simp; omega
        refine VL_still rfl rfl rfl (S_assign rfl) ?_
        refine VL_nil ?_
        refine VQ_then ?_
        refine V_region ?_
        refine VL_still rfl rfl rfl (S_assign rfl) ?_
        refine VL_nil ?_
        refine VQ_then ?_
        refine V_seq ?_
        refine V_region ?_
        refine VL_still rfl rfl rfl (S_field (k := 0) Try.underlying47 rfl rfl ti23 rfl rfl) ?_
        first | refine VL_still rfl rfl rfl (S_load Try.underlying23 rfl rfl (Cell.trk (by repeat (first | exact Has.here | apply Has.there)) rfl)) ?_ | refine VL_still rfl rfl rfl (S_load Try.underlying23 rfl rfl (Cell.known (by first | assumption | exact (by assumption : Sub _ _) _ _ (by assumption) | exact (Sub.trans (by assumption) (by assumption)) _ _ (by assumption)) rfl)) ?_
        refine VL_still rfl rfl rfl (S_move rfl) ?_
        refine VL_still rfl rfl rfl (S_neq rfl rfl) ?_
        refine VL_nil ?_
        refine VQ_then ?_
        refine V_cond rfl (fun hc35 => ?_) (fun hc35 => ?_)
        · skip
          have hne : ¬ l[i].1 = k := by simpa using hc35
          refine V_region ?_
          refine VL_still rfl rfl rfl (S_move rfl) ?_
          first | refine VL_still rfl rfl rfl (S_loads Try.underlying47 rfl ti47 rfl rfl (Cells.known (by first | assumption | exact (by assumption : Sub _ _) _ _ (by assumption) | exact (Sub.trans (by assumption) (by assumption)) _ _ (by assumption)))) ?_ | refine VL_still rfl rfl rfl (S_loads Try.underlying47 rfl ti47 rfl rfl (Cells.all (by repeat (first | exact Has.here | apply Has.there)))) ?_ | refine VL_still rfl rfl rfl (S_loads Try.underlying47 rfl ti47 rfl rfl (Cells.trk (by repeat (first | exact Has.here | apply Has.there)) (by repeat (first | exact TakeR.here (by repeat (first | exact HeadR.nil | apply HeadR.cons)) | apply TakeR.there)))) ?_
          refine VL_eff rfl (E_bs1 rfl Try.underlying26 ti47 rfl rfl rfl rfl rfl rfl) ?_
          rintro _ _ _ ⟨b38, hb38, rfl, rfl, rfl⟩
          refine VL_eff rfl (X_append rfl Try.underlying26 Try.underlying26 rfl tx47 rfl rfl rfl rfl hB31 (by repeat (first | exact Pick.here | apply Pick.there)) (Buf.reads (G := [(b38, .cells (List.toArray [.int .u64 l[i].1, .int .i64 l[i].2.1, .int .i64 l[i].2.2]) 47 (0, 0))]) (Buf.lit (n := 1) (by rfl) (by omega)) (fun q hq => by simp at hq ⊢; try simp [hq])) rfl (by omega)) ?_
          rintro _ _ _ ⟨v39, G39, hB39, rfl, rfl, rfl⟩
          replace hB39 := Buf.snoc (enc := pr) (a := l[i]) hB39
          refine VL_still rfl rfl rfl (S_assign rfl) ?_
          refine VL_nil ?_
          refine VQ_block_normal ?_
          refine VQ_then ?_
          refine V_region ?_
          first | refine VL_still rfl rfl rfl (S_addi rfl rfl (by omega) (by omega)) ?_ | refine VL_still rfl rfl rfl (S_add rfl rfl) ?_
          refine VL_still rfl rfl rfl (S_move rfl) ?_
          refine VL_nil ?_
          rw [if_neg hne] at hP2
          refine VQ_mid (i + 1, v39, G39, true, _) ⟨⟨by omega, hB39, hP2⟩, by simp only; omega⟩ (by repeat (first | exact trivial | refine ⟨rfl, ?_⟩)) rfl (by repeat (first | exact SubB.nil | exact Pick.here | apply Pick.there | apply SubB.emp | apply SubB.cons))
        · skip
          have hne : l[i].1 = k := by simpa using hc35
          refine V_skip ?_
          refine VQ_block_normal ?_
          refine VQ_then ?_
          refine V_region ?_
          first | refine VL_still rfl rfl rfl (S_addi rfl rfl (by omega) (by omega)) ?_ | refine VL_still rfl rfl rfl (S_add rfl rfl) ?_
          refine VL_still rfl rfl rfl (S_move rfl) ?_
          refine VL_nil ?_
          rw [if_pos hne, List.append_nil] at hP2
          refine VQ_mid (i + 1, v31, G31, true, _) ⟨⟨by omega, hB31, hP2⟩, by simp only; omega⟩ (by repeat (first | exact trivial | refine ⟨rfl, ?_⟩)) rfl (by repeat (first | exact SubB.nil | exact Pick.here | apply Pick.there | apply SubB.emp | apply SubB.cons))
      · skip
        have hge : ¬ k ≤ l[i].1 := of_decide_eq_false hc25
        have hP2 := hP.less hlt (by omega)
        refine V_skip ?_
        refine VQ_then ?_
        refine V_seq ?_
        refine V_region ?_
        refine VL_still rfl rfl rfl (S_field (k := 0) Try.underlying47 rfl rfl ti23 rfl rfl) ?_
        first | refine VL_still rfl rfl rfl (S_load Try.underlying23 rfl rfl (Cell.trk (by repeat (first | exact Has.here | apply Has.there)) rfl)) ?_ | refine VL_still rfl rfl rfl (S_load Try.underlying23 rfl rfl (Cell.known (by first | assumption | exact (by assumption : Sub _ _) _ _ (by assumption) | exact (Sub.trans (by assumption) (by assumption)) _ _ (by assumption)) rfl)) ?_
        refine VL_still rfl rfl rfl (S_move rfl) ?_
        refine VL_still rfl rfl rfl (S_neq rfl rfl) ?_
        refine VL_nil ?_
        refine VQ_then ?_
        refine V_cond rfl (fun hc35 => ?_) (fun hc35 => ?_)
        · skip
          have hne : ¬ l[i].1 = k := by simpa using hc35
          refine V_region ?_
          refine VL_still rfl rfl rfl (S_move rfl) ?_
          first | refine VL_still rfl rfl rfl (S_loads Try.underlying47 rfl ti47 rfl rfl (Cells.known (by first | assumption | exact (by assumption : Sub _ _) _ _ (by assumption) | exact (Sub.trans (by assumption) (by assumption)) _ _ (by assumption)))) ?_ | refine VL_still rfl rfl rfl (S_loads Try.underlying47 rfl ti47 rfl rfl (Cells.all (by repeat (first | exact Has.here | apply Has.there)))) ?_ | refine VL_still rfl rfl rfl (S_loads Try.underlying47 rfl ti47 rfl rfl (Cells.trk (by repeat (first | exact Has.here | apply Has.there)) (by repeat (first | exact TakeR.here (by repeat (first | exact HeadR.nil | apply HeadR.cons)) | apply TakeR.there)))) ?_
          refine VL_eff rfl (E_bs1 rfl Try.underlying26 ti47 rfl rfl rfl rfl rfl rfl) ?_
          rintro _ _ _ ⟨b38, hb38, rfl, rfl, rfl⟩
          refine VL_eff rfl (X_append rfl Try.underlying26 Try.underlying26 rfl tx47 rfl rfl rfl rfl hB (by repeat (first | exact Pick.here | apply Pick.there)) (Buf.reads (G := [(b38, .cells (List.toArray [.int .u64 l[i].1, .int .i64 l[i].2.1, .int .i64 l[i].2.2]) 47 (0, 0))]) (Buf.lit (n := 1) (by rfl) (by omega)) (fun q hq => by simp at hq ⊢; try simp [hq])) rfl (by omega)) ?_
          rintro _ _ _ ⟨v39, G39, hB39, rfl, rfl, rfl⟩
          replace hB39 := Buf.snoc (enc := pr) (a := l[i]) hB39
          refine VL_still rfl rfl rfl (S_assign rfl) ?_
          refine VL_nil ?_
          refine VQ_block_normal ?_
          refine VQ_then ?_
          refine V_region ?_
          first | refine VL_still rfl rfl rfl (S_addi rfl rfl (by omega) (by omega)) ?_ | refine VL_still rfl rfl rfl (S_add rfl rfl) ?_
          refine VL_still rfl rfl rfl (S_move rfl) ?_
          refine VL_nil ?_
          refine VQ_mid (i + 1, v39, G39, false, _) ⟨⟨by omega, hB39, hP2⟩, by simp only; omega⟩ (by repeat (first | exact trivial | refine ⟨rfl, ?_⟩)) rfl (by repeat (first | exact SubB.nil | exact Pick.here | apply Pick.there | apply SubB.emp | apply SubB.cons))
        · skip
          have hne : l[i].1 = k := by simpa using hc35
          refine V_skip ?_
          refine VQ_block_normal ?_
          refine VQ_then ?_
          refine V_region ?_
          first | refine VL_still rfl rfl rfl (S_addi rfl rfl (by omega) (by omega)) ?_ | refine VL_still rfl rfl rfl (S_add rfl rfl) ?_
          refine VL_still rfl rfl rfl (S_move rfl) ?_
          refine VL_nil ?_
          exact absurd hne (by omega)
    · skip
      obtain rfl : b = true := by simpa using hc20
      obtain ⟨hgt, hP2⟩ := hP.more hlt
      refine VL_skip rfl rfl rfl ?_
      refine VL_skip rfl rfl rfl ?_
      refine VL_skip rfl rfl rfl ?_
      refine VL_skip rfl rfl rfl ?_
      first | refine VL_still rfl rfl rfl (S_pick_t rfl rfl) ?_ | refine VL_still rfl rfl rfl (S_pick_f rfl rfl) ?_
      refine VL_nil ?_
      refine VQ_then ?_
      refine V_cond_false rfl ?_
      refine V_skip ?_
      refine VQ_then ?_
      refine V_seq ?_
      refine V_region ?_
      refine VL_still rfl rfl rfl (S_field (k := 0) Try.underlying47 rfl rfl ti23 rfl rfl) ?_
      first | refine VL_still rfl rfl rfl (S_load Try.underlying23 rfl rfl (Cell.trk (by repeat (first | exact Has.here | apply Has.there)) rfl)) ?_ | refine VL_still rfl rfl rfl (S_load Try.underlying23 rfl rfl (Cell.known (by first | assumption | exact (by assumption : Sub _ _) _ _ (by assumption) | exact (Sub.trans (by assumption) (by assumption)) _ _ (by assumption)) rfl)) ?_
      refine VL_still rfl rfl rfl (S_move rfl) ?_
      refine VL_still rfl rfl rfl (S_neq rfl rfl) ?_
      refine VL_nil ?_
      refine VQ_then ?_
      refine V_cond rfl (fun hc35 => ?_) (fun hc35 => ?_)
      · skip
        have hne : ¬ l[i].1 = k := by simpa using hc35
        refine V_region ?_
        refine VL_still rfl rfl rfl (S_move rfl) ?_
        first | refine VL_still rfl rfl rfl (S_loads Try.underlying47 rfl ti47 rfl rfl (Cells.known (by first | assumption | exact (by assumption : Sub _ _) _ _ (by assumption) | exact (Sub.trans (by assumption) (by assumption)) _ _ (by assumption)))) ?_ | refine VL_still rfl rfl rfl (S_loads Try.underlying47 rfl ti47 rfl rfl (Cells.all (by repeat (first | exact Has.here | apply Has.there)))) ?_ | refine VL_still rfl rfl rfl (S_loads Try.underlying47 rfl ti47 rfl rfl (Cells.trk (by repeat (first | exact Has.here | apply Has.there)) (by repeat (first | exact TakeR.here (by repeat (first | exact HeadR.nil | apply HeadR.cons)) | apply TakeR.there)))) ?_
        refine VL_eff rfl (E_bs1 rfl Try.underlying26 ti47 rfl rfl rfl rfl rfl rfl) ?_
        rintro _ _ _ ⟨b38, hb38, rfl, rfl, rfl⟩
        refine VL_eff rfl (X_append rfl Try.underlying26 Try.underlying26 rfl tx47 rfl rfl rfl rfl hB (by repeat (first | exact Pick.here | apply Pick.there)) (Buf.reads (G := [(b38, .cells (List.toArray [.int .u64 l[i].1, .int .i64 l[i].2.1, .int .i64 l[i].2.2]) 47 (0, 0))]) (Buf.lit (n := 1) (by rfl) (by omega)) (fun q hq => by simp at hq ⊢; try simp [hq])) rfl (by omega)) ?_
        rintro _ _ _ ⟨v39, G39, hB39, rfl, rfl, rfl⟩
        replace hB39 := Buf.snoc (enc := pr) (a := l[i]) hB39
        refine VL_still rfl rfl rfl (S_assign rfl) ?_
        refine VL_nil ?_
        refine VQ_block_normal ?_
        refine VQ_then ?_
        refine V_region ?_
        first | refine VL_still rfl rfl rfl (S_addi rfl rfl (by omega) (by omega)) ?_ | refine VL_still rfl rfl rfl (S_add rfl rfl) ?_
        refine VL_still rfl rfl rfl (S_move rfl) ?_
        refine VL_nil ?_
        refine VQ_mid (i + 1, v39, G39, true, _) ⟨⟨by omega, hB39, hP2⟩, by simp only; omega⟩ (by repeat (first | exact trivial | refine ⟨rfl, ?_⟩)) rfl (by repeat (first | exact SubB.nil | exact Pick.here | apply Pick.there | apply SubB.emp | apply SubB.cons))
      · skip
        have hne : l[i].1 = k := by simpa using hc35
        refine V_skip ?_
        refine VQ_block_normal ?_
        refine VQ_then ?_
        refine V_region ?_
        first | refine VL_still rfl rfl rfl (S_addi rfl rfl (by omega) (by omega)) ?_ | refine VL_still rfl rfl rfl (S_add rfl rfl) ?_
        refine VL_still rfl rfl rfl (S_move rfl) ?_
        refine VL_nil ?_
        exact absurd hne (by omega)
  · skip
    have hge : i = l.length := by
      have := of_decide_eq_false hc15
      omega
    subst hge
    refine V_exit ?_
    refine VQ_then_exit ?_
    refine VQ_then_exit ?_
    refine VQ_block_exit ?_
    refine VQ_then ?_
    refine V_seq ?_
    refine V_seq ?_
    refine V_region ?_
    refine VL_still rfl rfl rfl (S_move rfl) ?_
    refine VL_still rfl rfl rfl (S_not rfl) ?_
    refine VL_nil ?_
    refine VQ_then ?_
    refine V_cond rfl (fun hc42 => ?_) (fun hc42 => ?_)
    · skip
      obtain rfl : b = false := by simpa using hc42
      refine V_region ?_
      refine VL_still rfl rfl rfl (S_move rfl) ?_
      refine VL_still rfl rfl rfl (S_move rfl) ?_
      first | refine VL_still rfl rfl rfl (S_loads Try.underlying34 rfl ti34 rfl rfl (Cells.known (by first | assumption | exact (by assumption : Sub _ _) _ _ (by assumption) | exact (Sub.trans (by assumption) (by assumption)) _ _ (by assumption)))) ?_ | refine VL_still rfl rfl rfl (S_loads Try.underlying34 rfl ti34 rfl rfl (Cells.all (by repeat (first | exact Has.here | apply Has.there)))) ?_ | refine VL_still rfl rfl rfl (S_loads Try.underlying34 rfl ti34 rfl rfl (Cells.trk (by repeat (first | exact Has.here | apply Has.there)) (by repeat (first | exact TakeR.here (by repeat (first | exact HeadR.nil | apply HeadR.cons)) | apply TakeR.there)))) ?_
      refine VL_still rfl rfl rfl (S_struct Try.underlying47 to47 tz47 rfl (by repeat (first | exact BuildR.nil | exact PutR.nil | exact SetL.here | apply SetL.there | apply PutR.cons | apply BuildR.cons rfl (by first | exact ti23 | exact ti34) rfl rfl rfl))) ?_
      refine VL_eff rfl (E_bs1 rfl Try.underlying26 ti47 rfl rfl rfl rfl rfl rfl) ?_
      rintro _ _ _ ⟨b47, hb47, rfl, rfl, rfl⟩
      refine VL_eff rfl (X_append rfl Try.underlying26 Try.underlying26 rfl tx47 rfl rfl rfl rfl hB (by repeat (first | exact Pick.here | apply Pick.there)) (Buf.reads (G := [(b47, .cells (List.toArray [.int .u64 k, .int .i64 s, .int .i64 n]) 47 (0, 0))]) (Buf.lit (n := 1) (by rfl) (by omega)) (fun q hq => by simp at hq ⊢; try simp [hq])) rfl (by omega)) ?_
      rintro _ _ _ ⟨v48, G48, hB48, rfl, rfl, rfl⟩
      replace hB48 := Buf.snoc (enc := pr) (a := (k, s, n)) hB48
      refine VL_still rfl rfl rfl (S_assign rfl) ?_
      refine VL_nil ?_
      refine VQ_then ?_
      refine V_seq ?_
      refine V_region ?_
      refine VL_still rfl rfl rfl (S_move rfl) ?_
      refine VL_still rfl rfl rfl (S_assign rfl) ?_
      refine VL_nil ?_
      refine VQ_then ?_
      refine V_ret ?_
      refine VQ_fin1 (nb := [G48]) (by first | exact .inl rfl | exact .inr rfl) rfl (RV_tmp rfl) ?sb ?po
      case po =>
        refine ⟨rfl, G48, ?_, rfl⟩
        rw [← hP.end_]; exact hB48
      case sb => exact (by repeat (first | exact SubB.nil | exact Pick.here | apply Pick.there | apply SubB.emp | apply SubB.cons))
    · skip
      obtain rfl : b = true := by simpa using hc42
      refine V_skip ?_
      refine VQ_then ?_
      refine V_seq ?_
      refine V_region ?_
      refine VL_still rfl rfl rfl (S_move rfl) ?_
      refine VL_still rfl rfl rfl (S_assign rfl) ?_
      refine VL_nil ?_
      refine VQ_then ?_
      refine V_ret ?_
      refine VQ_fin1 (nb := [G]) (by first | exact .inl rfl | exact .inr rfl) rfl (RV_tmp rfl) ?sb ?po
      case po =>
        refine ⟨rfl, G, ?_, rfl⟩
        rw [← hP.done]; exact hB
      case sb => exact (by repeat (first | exact SubB.nil | exact Pick.here | apply Pick.there | apply SubB.emp | apply SubB.cons))

end Go.Proofs.Ytdglignjoojimaa

/- The plain law of trees, part 7: a tree's nodes in a list. No program in sight. No conditions. -/
set_option linter.unusedVariables false
set_option linter.unusedSimpArgs false
namespace Go.Proofs.Ytdglignjoojimaa

/-- A node of a list: its keys, its extents, where its kids stand. -/
structure Nd where
  keys : List Int
  vals : List (Int × Int)
  kids : List Int
/-- Where the kids begin, and all below them, from a place on. -/
def kidsT (f : Tr → Nat → List Nd) : List Tr → Nat → List Int × List Nd
  | [], _ => ([], [])
  | t :: ts, a => ((a : Int) :: (kidsT f ts (a + (f t a).length)).1, f t a ++ (kidsT f ts (a + (f t a).length)).2)
def listT : Nat → Tr → Nat → List Nd
  | 0, .leaf l, _ => [⟨keysP l, l.map (fun p => p.2), []⟩]
  | d + 1, .node ks ts, a => ⟨ks, [], (kidsT (listT d) ts (a + 1)).1⟩ :: (kidsT (listT d) ts (a + 1)).2
  | _, _, _ => []
theorem listT_0 (l : List Pr) (a : Nat) : listT 0 (.leaf l) a = [⟨keysP l, l.map (fun p => p.2), []⟩] := rfl
theorem listT_s (d : Nat) (ks : List Int) (ts : List Tr) (a : Nat) : listT (d + 1) (.node ks ts) a = ⟨ks, [], (kidsT (listT d) ts (a + 1)).1⟩ :: (kidsT (listT d) ts (a + 1)).2 := rfl
theorem kidsT_snoc (f : Tr → Nat → List Nd) (t : Tr) : ∀ (ts : List Tr) (a : Nat), kidsT f (ts ++ [t]) a =
    ((kidsT f ts a).1 ++ [((a + (kidsT f ts a).2.length : Nat) : Int)], (kidsT f ts a).2 ++ f t (a + (kidsT f ts a).2.length))
  | [], a => by simp [kidsT]
  | x :: ts, a => by
    simp only [List.cons_append, kidsT, kidsT_snoc f t ts, List.length_append, List.append_assoc, Nat.add_assoc]
theorem kidsT_len (f : Tr → Nat → List Nd) : ∀ (ts : List Tr) (a : Nat), (kidsT f ts a).1.length = ts.length
  | [], a => rfl
  | x :: ts, a => by simp [kidsT, kidsT_len f ts]
/-- How many nodes there are does not hang on where they begin. -/
theorem listT_len : ∀ {d : Nat} {t : Tr} (a b : Nat), (listT d t a).length = (listT d t b).length
  | 0, .leaf l, a, b => rfl
  | 0, .node _ _, a, b => rfl
  | d + 1, .leaf _, a, b => rfl
  | d + 1, .node ks ts, a, b => by
    have key : ∀ (ts : List Tr) (a b : Nat), (kidsT (listT d) ts a).2.length = (kidsT (listT d) ts b).2.length := by
      intro ts
      induction ts with
      | nil => intro a b; rfl
      | cons x ts ih =>
        intro a b
        simp only [kidsT, List.length_append]
        rw [listT_len (d := d) (t := x) a b, ih (a + (listT d x b).length) (b + (listT d x b).length)]
    rw [listT_s, listT_s]
    simp only [List.length_cons]
    rw [key ts (a + 1) (b + 1)]
theorem kids_count {d : Nat} : ∀ {ts : List Tr} (a : Nat), (∀ x ∈ ts, ∀ a, (listT d x a).length + 2 ≤ (flat d x).length) → (kidsT (listT d) ts a).2.length + 2 * ts.length ≤ (ts.flatMap (flat d)).length
  | [], a, _ => by simp [kidsT]
  | x :: ts, a, h => by
    have h1 := h x (by simp) a
    have ih := kids_count (ts := ts) (a + (listT d x a).length) (fun y hy => h y (List.mem_cons_of_mem _ hy))
    simp only [kidsT, List.length_append, List.length_cons, List.flatMap_cons]
    omega
theorem kidsT_app (f : Tr → Nat → List Nd) : ∀ (t1 t2 : List Tr) (a : Nat), (kidsT f (t1 ++ t2) a).2 = (kidsT f t1 a).2 ++ (kidsT f t2 (a + (kidsT f t1 a).2.length)).2
  | [], t2, a => by simp [kidsT]
  | x :: t1, t2, a => by
    simp only [List.cons_append, kidsT, kidsT_app f t1 t2, List.length_append, List.append_assoc, Nat.add_assoc]
theorem kidsT_take_le (f : Tr → Nat → List Nd) (ts : List Tr) (a i : Nat) : (kidsT f (ts.take i) a).2.length ≤ (kidsT f ts a).2.length := by
  conv => rhs; rw [← List.take_append_drop i ts]
  rw [kidsT_app, List.length_append]; omega
theorem kidsT_len2 {d : Nat} : ∀ (ts : List Tr) (a b : Nat), (kidsT (listT d) ts a).2.length = (kidsT (listT d) ts b).2.length
  | [], a, b => rfl
  | x :: ts, a, b => by
    simp only [kidsT, List.length_append]
    rw [listT_len (d := d) (t := x) a b, kidsT_len2 ts (a + (listT d x b).length) (b + (listT d x b).length)]
/-- All shapes below. -/
def ShA : Nat → Tr → Prop
  | 0, .leaf _ => True
  | d + 1, .node ks ts => ts.length = ks.length + 1 ∧ ∀ x ∈ ts, ShA d x
  | _, _ => False
theorem In.shA : ∀ {d : Nat} {t : Tr} {lo hi : Int}, In d lo hi t → ShA d t
  | 0, .leaf _, _, _, _ => trivial
  | d + 1, .node ks ts, lo, hi, h => by
    have h : Ch (In d) lo hi ks ts := h
    refine ⟨h.len, fun x hx => ?_⟩
    obtain ⟨i, hi', rfl⟩ := List.getElem_of_mem hx
    obtain ⟨A, t, B, lo', hi'', e, f⟩ := h.foc (i := i) (by have := h.len; omega)
    subst e
    have hat := f.at_
    have : (A ++ t :: B)[i] = t := by rw [List.getElem_append_right (by omega)]; simp [hat]
    rw [this]; exact In.shA f.one
theorem node_count : ∀ {d : Nat} {t : Tr} (a : Nat), ShA d t → Full d t → (listT d t a).length + 2 ≤ (flat d t).length
  | 0, .leaf l, a, _, hf => by
    have h3 : 3 ≤ (keysP l).length := hf.1
    simp [listT, flat, keysP] at h3 ⊢; omega
  | d + 1, .node ks ts, a, hs, hf => by
    obtain ⟨hl, hs⟩ := hs
    have h3 : 3 ≤ ks.length := hf.1
    have hk : ∀ x ∈ ts, 3 ≤ nk x ∧ nk x ≤ 7 ∧ Kd d x := hf.2.2
    have := kids_count (d := d) (ts := ts) (a + 1) (fun x hx a => node_count a (hs x hx) (hk x hx))
    rw [listT_s, flat_s]
    simp only [List.length_cons]
    omega
theorem TOk.count {d : Nat} {t : Tr} {l : List Pr} (h : TOk d t l) (a : Nat) : (listT d t a).length ≤ l.length + 1 := by
  rw [← h.flat_]
  have hs := h.in_.shA
  cases d with
  | zero =>
    cases t with
    | node ks ts => exact hs.elim
    | leaf l => simp [listT]
  | succ d =>
    cases t with
    | leaf l => exact hs.elim
    | node ks ts =>
      obtain ⟨hl, hs⟩ := hs
      have hk : ∀ x ∈ ts, 3 ≤ nk x ∧ nk x ≤ 7 ∧ Kd d x := h.kids
      have h1 : 1 ≤ ks.length := h.some_ (by omega)
      have := kids_count (d := d) (ts := ts) (a + 1) (fun x hx a => node_count a (hs x hx) (hk x hx))
      rw [listT_s, flat_s]
      simp only [List.length_cons]
      omega
end Go.Proofs.Ytdglignjoojimaa

/- Contracts whose results are known for good. No conditions. -/
set_option linter.unusedVariables false
set_option linter.unusedSimpArgs false
namespace Go.Proofs.Ytdglignjoojimaa
theorem Con.keepAll {P : Program} {f : FuncId} {args : List Value} {h : Hp} {blA : Bl} {post post' : Value → Hp → Bl → Prop} (c : Con P f args h blA post)
    (hp : ∀ v h' nb h'', post v h' nb → Sub h' h'' → KnowB h'' nb → post' v h'' []) : Con P f args h blA post' := by
  intro w hw
  refine (c w hw).mono fun x w' ⟨v, h', nb, he, hr, hq⟩ => ?_
  have hr' : Rel ⟨w, fun b => b ∈ blA.flatten.map Prod.fst, h⟩ h' (nb ++ []) w' := by rw [List.append_nil]; exact hr
  obtain ⟨h'', s, k, r⟩ := hr'.keepF
  exact ⟨v, h'', [], he, r, hp v h' nb h'' hq s k⟩
/-- Before a call: what it gets may be known for good. -/
theorem Con.keepArg {P : Program} {f : FuncId} {args : List Value} {h : Hp} {blA : Bl} {post : Value → Hp → Bl → Prop} (c : ∀ h', Sub h h' → KnowB h' blA → Con P f args h' [] post) :
    ∀ w, Rel ⟨w, fun b => b ∈ blA.flatten.map Prod.fst, h⟩ h blA w → ∃ h', Sub h h' ∧ KnowB h' blA := fun w hw => by
  have hr' : Rel ⟨w, fun b => b ∈ blA.flatten.map Prod.fst, h⟩ h (blA ++ []) w := by rw [List.append_nil]; exact hw
  obtain ⟨h'', s, k, r⟩ := hr'.keepF
  exact ⟨h'', s, k⟩
end Go.Proofs.Ytdglignjoojimaa

/- A part of a thing in a slice: read and written. No conditions. -/
set_option linter.unusedVariables false
set_option linter.unusedSimpArgs false
namespace Go.Proofs.Ytdglignjoojimaa
section
variable {α : Type} {en : α → List Value} {sz : Nat}
theorem part_cut (E : Enc en sz) {l : List α} {i : Nat} (hi : i < l.length) {a : α} (hl : l[i]? = some a) {pre post : List Value} {x : Value} (h1 : en a = pre ++ x :: post) (sp : List Value) :
    l.flatMap en ++ sp = ((l.take i).flatMap en ++ pre) ++ ([x] ++ (post ++ ((l.drop (i + 1)).flatMap en ++ sp))) := by
  have e : l[i] = a := by rw [List.getElem?_eq_getElem hi] at hl; exact Option.some.inj hl
  have h0 : l = l.take i ++ l[i] :: l.drop (i + 1) := by rw [← List.drop_eq_getElem_cons hi, List.take_append_drop]
  conv => lhs; rw [h0, List.flatMap_append, List.flatMap_cons, e, h1]
  simp
theorem part_at (E : Enc en sz) {l : List α} {i o : Nat} {a : α} (hl : l[i]? = some a) {pre post : List Value} {x : Value} (h1 : en a = pre ++ x :: post) (ho : pre.length = o) (sp : List Value) :
    (l.flatMap en ++ sp)[0 + i * sz + o]? = some x := by
  have hi : i < l.length := (List.getElem?_eq_some_iff.1 hl).1
  rw [part_cut E hi hl h1 sp]
  have e : ((l.take i).flatMap en ++ pre).length = 0 + i * sz + o := by
    rw [List.length_append, E.flat_len, List.length_take, Nat.min_eq_left (by omega), ho]; omega
  rw [List.getElem?_append_right (by omega), e]
  simp
theorem PutR.part (E : Enc en sz) {l : List α} {i o : Nat} {a a' : α} (hl : l[i]? = some a) {pre post : List Value} {x x' : Value} (h1 : en a = pre ++ x :: post) (h2 : en a' = pre ++ x' :: post) (ho : pre.length = o) (sp : List Value) :
    PutR (l.flatMap en ++ sp) (0 + i * sz + o) [x'] ((l.set i a').flatMap en ++ sp) := by
  have hi : i < l.length := (List.getElem?_eq_some_iff.1 hl).1
  have e : ((l.take i).flatMap en ++ pre).length = 0 + i * sz + o := by
    rw [List.length_append, E.flat_len, List.length_take, Nat.min_eq_left (by omega), ho]; omega
  have hp : putAt (l.flatMap en ++ sp) (0 + i * sz + o) [x'] = (l.set i a').flatMap en ++ sp := by
    rw [part_cut E hi hl h1 sp, putAt_mid e (show [x'].length = [x].length from rfl), List.set_eq_take_append_cons_drop, if_pos hi, List.flatMap_append, List.flatMap_cons, h2]
    simp
  rw [← hp]
  refine PutR.at_ ?_
  rw [part_cut E hi hl h1 sp, List.length_append, e]
  simp
end
theorem set_mid {α : Type} {A B : List α} {a a' : α} {n : Nat} (h : A.length = n) : (A ++ a :: B).set n a' = A ++ a' :: B := by
  subst h; simp
theorem get_mid {α : Type} {A B : List α} {a : α} {n : Nat} (h : A.length = n) : (A ++ a :: B)[n]? = some a := by
  subst h; simp
end Go.Proofs.Ytdglignjoojimaa

/- A tree's nodes in a list. No conditions. -/
set_option linter.unusedVariables false
set_option linter.unusedSimpArgs false
namespace Go.Proofs.Ytdglignjoojimaa

/-- A slice's parts; a node's three slices. -/
abbrev Sv := Option Addr × Nat × Nat
def sv (s : Sv) : Value := .slice s.1 s.2.1 s.2.2
def tri (c : Sv × Sv × Sv) : List Value := [sv c.1, sv c.2.1, sv c.2.2]
theorem triE : Enc tri 3 := ⟨fun _ => rfl, fun _ => rfl⟩
abbrev tris (l : List (Sv × Sv × Sv)) : List Value := l.flatMap tri
def ic (k : Int) : List Value := [.int .i64 k]
theorem icE : Enc ic 1 := ⟨fun _ => rfl, fun _ => rfl⟩
abbrev ics (l : List Int) : List Value := l.flatMap ic
abbrev BN (v : Value) (cs : List (Sv × Sv × Sv)) (G : Gr) : Prop := Buf 108 3 v cs.length (tris cs) G
abbrev BI (v : Value) (l : List Int) (G : Gr) : Prop := Buf 3 1 v l.length (ics l) G
/-- A node of a list, known for good. -/
def NdR (h : Hp) (c : Sv × Sv × Sv) (x : Nd) : Prop :=
  SlR h [] (sv c.1) x.keys.length (kcs x.keys) 1 ∧ SlR h [] (sv c.2.1) x.vals.length (xcs x.vals) 2 ∧ SlR h [] (sv c.2.2) x.kids.length (ics x.kids) 1
theorem NdR.sub {h h' : Hp} (s : Sub h h') {c : Sv × Sv × Sv} {x : Nd} (n : NdR h c x) : NdR h' c x := ⟨n.1.sub s, n.2.1.sub s, n.2.2.sub s⟩
theorem Buf.sv {e : TypeId} {sz n : Nat} {v : Value} {cs : List Value} {G : Gr} (B : Buf e sz v n cs G) : ∃ s : Sv, v = Go.Proofs.Ytdglignjoojimaa.sv s ∧ s.2.1 = n := by
  obtain ⟨A, c, rfl, _, _⟩ := B.form
  exact ⟨(A, n, c), rfl, rfl⟩

set_option maxRecDepth 100000 in
theorem list_gen (d b : Nat) (ks : List Int) (vs : List Ext) (bs : List Nat) (ts : List Tr) (vo : Value) (cs : List (Sv × Sv × Sv)) (Go : Gr) (h : Hp) (hN : NodeAt h b ks vs bs) (hA : All2 (Rp h d) bs ts) (hB : BN vo cs Go) (n1 : ks.length ≤ 1000) (n2 : vs.length ≤ 1000) (n3 : bs.length ≤ 1000) (hn : cs.length + 1 + (kidsT (listT d) ts 0).2.length ≤ 100000)
    (ih : ∀ (x : Tr), x ∈ ts → ∀ (b : Nat) (vo : Value) (cs : List (Sv × Sv × Sv)) (Go : Gr) (h : Hp), Rp h d b x → BN vo cs Go → cs.length + (listT d x 0).length ≤ 100000 → Con Try.prog 42 [ptr b, vo] h [Go] (fun r h' nb => ∃ cs' G', BN r (cs ++ cs') G' ∧ All2 (NdR h') cs' (listT d x cs.length) ∧ nb = [G'])) : Con Try.prog 42 [ptr b, vo] h [Go] (fun r h' nb => ∃ cs' G', BN r (cs ++ cs') G' ∧ All2 (NdR h') cs' (⟨ks, vs, (kidsT (listT d) ts (cs.length + 1)).1⟩ :: (kidsT (listT d) ts (cs.length + 1)).2) ∧ nb = [G']) := by
  obtain ⟨kv, vv, cv, hb, hk, hv, hc⟩ := hN
  obtain ⟨A, cap, rfl, hle, hmx⟩ := hk.form
  obtain ⟨A2, cap2, rfl, hlev, hmxv⟩ := hv.form
  obtain ⟨A3, cap3, rfl, hlec, hmxc⟩ := hc.form
  have hbl := hA.len
  obtain ⟨A1, cap1, rfl, hle1, hmx1⟩ := Buf.form hB
  refine Con_of Try.func42 rfl Try.ntmps42 (Nat.le_of_ble_eq_true rfl) (fun w0 => ?_)
  refine V_seq ?_
  refine V_region ?_
  refine VL_still rfl rfl rfl (S_assign rfl) ?_
  refine VL_nil ?_
  refine VQ_then ?_
  refine V_seq ?_
  refine V_region ?_
  refine VL_still rfl rfl rfl (S_move rfl) ?_
  refine VL_still rfl rfl rfl (S_len Try.underlying41 rfl) ?_
  refine VL_still rfl rfl rfl (S_assign rfl) ?_
  refine VL_nil ?_
  refine VQ_then ?_
  refine V_seq ?_
  refine V_draw _ [] 13344 Try.mixed (by kernel_rfl) (Sub.refl _) SubB.nil ?_
  refine VD_still rfl rfl rfl rfl (S_move rfl) ?_
  refine VD_still rfl rfl rfl rfl (S_move rfl) ?_
  refine VD_still rfl rfl rfl rfl (S_nil rfl) ?_
  refine VD_still rfl rfl rfl rfl (S_field (k := 0) Try.underlying92 rfl rfl ti88 rfl rfl) ?_
  first | refine VD_still rfl rfl rfl rfl (S_load Try.underlying88 rfl rfl (Cell.trk (by repeat (first | exact Has.here | apply Has.there)) rfl)) ?_ | refine VD_still rfl rfl rfl rfl (S_load Try.underlying88 rfl rfl (Cell.known (by first | assumption | exact (by assumption : Sub _ _) _ _ (by assumption) | exact (Sub.trans (by assumption) (by assumption)) _ _ (by assumption)) rfl)) ?_
  refine VD_eff rfl rfl (E_call rfl rfl rfl Try.call58 (k_clone0 _ ks.length (kcs ks) h hk (kcE.flat_one _) (by omega)) (by repeat (first | exact Split.nil | exact Pick.here | apply Pick.there | apply Split.cons))) ?_
  rintro _ hh15 _ ⟨v15, nb15, ⟨rfl, G15, hB15, rfl⟩, hs15, rfl, rfl⟩
  obtain ⟨A15, c15, rfl, _, _⟩ := Buf.form hB15
  refine ⟨⟨(by first | exact Sub.refl _ | assumption | exact Sub.trans (by assumption) (by assumption)), (by repeat (first | exact SubB.nil | exact Pick.here | apply Pick.there | apply SubB.emp | apply SubB.cons))⟩, ?_⟩
  refine VD_still rfl rfl rfl rfl (S_move rfl) ?_
  refine VD_still rfl rfl rfl rfl (S_nil rfl) ?_
  refine VD_still rfl rfl rfl rfl (S_field (k := 1) Try.underlying92 rfl rfl ti89 rfl rfl) ?_
  first | refine VD_still rfl rfl rfl rfl (S_load Try.underlying89 rfl rfl (Cell.trk (by repeat (first | exact Has.here | apply Has.there)) rfl)) ?_ | refine VD_still rfl rfl rfl rfl (S_load Try.underlying89 rfl rfl (Cell.known (by first | assumption | exact (by assumption : Sub _ _) _ _ (by assumption) | exact (Sub.trans (by assumption) (by assumption)) _ _ (by assumption)) rfl)) ?_
  refine VD_eff rfl rfl (E_call rfl rfl rfl Try.call59 (x_clone0 _ vs.length (xcs vs) h hv (xcE.flat_one _) (by omega)) (by repeat (first | exact Split.nil | exact Pick.here | apply Pick.there | apply Split.cons))) ?_
  rintro _ hh20 _ ⟨v20, nb20, ⟨rfl, G20, hB20, rfl⟩, hs20, rfl, rfl⟩
  obtain ⟨A20, c20, rfl, _, _⟩ := Buf.form hB20
  refine ⟨⟨(by first | exact Sub.refl _ | assumption | exact Sub.trans (by assumption) (by assumption)), (by repeat (first | exact SubB.nil | exact Pick.here | apply Pick.there | apply SubB.emp | apply SubB.cons))⟩, ?_⟩
  refine VD_still rfl rfl rfl rfl (S_struct Try.underlying108 to108 tz108 rfl (by repeat (first | exact BuildR.nil | exact PutR.nil | exact SetL.here | apply SetL.there | apply PutR.cons | apply BuildR.cons rfl (by first | exact ti71 | exact ti88 | exact ti89) rfl rfl rfl))) ?_
  refine VD_eff rfl rfl (E_bs1 rfl Try.underlying41 ti108 rfl rfl rfl rfl rfl rfl) ?_
  rintro _ _ _ ⟨b22, hb22, rfl, rfl, rfl⟩
  refine ⟨⟨(by first | exact Sub.refl _ | assumption | exact Sub.trans (by assumption) (by assumption)), (by repeat (first | exact SubB.nil | exact Pick.here | apply Pick.there | apply SubB.emp | apply SubB.cons))⟩, ?_⟩
  refine VD_eff rfl rfl (X_append rfl Try.underlying41 Try.underlying41 rfl tx108 rfl rfl rfl rfl hB (by repeat (first | exact Pick.here | apply Pick.there)) (Buf.reads (G := [(b22, .cells (List.toArray [.slice A15 ks.length c15, .slice A20 vs.length c20, .slice none 0 0]) 108 (0, 0))]) (Buf.lit (n := 1) (by rfl) (by omega)) (fun q hq => by simp at hq ⊢; try simp [hq])) rfl (by omega)) ?_
  rintro _ _ _ ⟨v23, G23, hB23, rfl, rfl, rfl⟩
  replace hB23 : BN v23 (cs ++ [((A15, ks.length, c15), (A20, vs.length, c20), ((none : Option Addr), 0, 0))]) G23 := Buf.snoc (enc := tri) hB23
  obtain ⟨A23, c23, rfl, _, _⟩ := Buf.form hB23
  refine ⟨⟨(by first | exact Sub.refl _ | assumption | exact Sub.trans (by assumption) (by assumption)), (by repeat (first | exact SubB.nil | exact Pick.here | apply Pick.there | apply SubB.emp | apply SubB.cons))⟩, ?_⟩
  refine VD_still rfl rfl rfl rfl (S_assign rfl) ?_
  refine VD_nil ?_
  refine VQ_then ?_
  refine V_seq ?_
  refine V_seq ?_
  refine V_keeps (blA := [G15, G20]) (by repeat (first | exact Split.nil | exact Pick.here | apply Pick.there | apply Split.cons)) (fun h1 sh1 kh1 => ?_)
  obtain ⟨q1, q2, _⟩ := kh1
  have sk := hB15.known q1
  have sl := hB20.known q2
  refine V_region ?_
  refine VL_still rfl rfl rfl (S_move rfl) ?_
  refine VL_still rfl rfl rfl (S_nil rfl) ?_
  refine VL_still rfl rfl rfl (S_field (k := 2) Try.underlying92 rfl rfl ti90 rfl rfl) ?_
  refine VL_still rfl rfl rfl (S_load Try.underlying90 rfl rfl (Cell.known (sh1 _ _ hb) rfl)) ?_
  refine VL_still rfl rfl rfl (S_len Try.underlying90 rfl) ?_
  refine VL_still rfl rfl rfl (S_move rfl) ?_
  refine VL_nil ?_
  refine VQ_then ?_
  refine V_block ?_
  refine V_loop (ι := Nat × Hp × Value × Gr × Sv × Gr × List (Sv × Sv × Sv)) (fun x => ts.length - x.1) (fun (i, hh, v, G, vk, Gk, sub) => i ≤ ts.length ∧ Sub h1 hh ∧ BN v (cs ++ ((A15, ks.length, c15), (A20, vs.length, c20), vk) :: sub) G ∧ BI (sv vk) (kidsT (listT d) (ts.take i) (cs.length + 1)).1 Gk ∧ All2 (NdR hh) sub (kidsT (listT d) (ts.take i) (cs.length + 1)).2) (fun (i, hh, v, G, vk, Gk, sub) => [(0, ptr b), (1, v), (5, .int .i64 cs.length), (27, .slice A3 bs.length cap3), (28, .int .i64 bs.length), (29, .int .i64 i)]) (fun (i, hh, v, G, vk, Gk, sub) => hh) (fun (i, hh, v, G, vk, Gk, sub) => [G, Gk]) (0, h1, _, G23, (none, 0, 0), [], []) ⟨Nat.zero_le _, Sub.refl _, hB23, Buf.nil _ _, .nil⟩ (by repeat (first | exact trivial | refine ⟨rfl, ?_⟩)) rfl (by repeat (first | exact SubB.nil | exact Pick.here | apply Pick.there | apply SubB.emp | apply SubB.cons)) (fun ⟨i, hh, v, G, vk, Gk, sub⟩ hi => ?_)
  obtain ⟨hi1, hs1, hB1, hBI, hA1⟩ := hi
  simp only at hi1 hs1 hB1 hBI hA1 ⊢
  have hsub := hA1.len
  have hkl := kidsT_take_le (listT d) ts (cs.length + 1) i
  have hkl2 := kidsT_len2 (d := d) ts (cs.length + 1) 0
  have hlc : (cs ++ ((A15, ks.length, c15), (A20, vs.length, c20), vk) :: sub).length = cs.length + 1 + sub.length := by simp; omega
  have hkn := kidsT_len (listT d) (ts.take i) (cs.length + 1)
  have htl : (ts.take i).length = i := by rw [List.length_take]; omega
  have hc' := hc.sub (bl' := []) (sh1.trans hs1)
  obtain ⟨bo, co, sp, rfl, rfl, l1, l2, hl1, hl2⟩ := Buf.blk hB1 (by omega)
  refine V_seq ?_
  refine V_region ?_
  refine VL_still rfl rfl rfl (S_lss rfl rfl) ?_
  refine VL_nil ?_
  refine VQ_then ?_
  refine V_seq ?_
  refine V_cond rfl (fun hc30 => ?_) (fun hc30 => ?_)
  · skip
    have hlt : i < bs.length := by
      have := of_decide_eq_true hc30
      omega
    have hltt : i < ts.length := by omega
    obtain ⟨bb, off, cap', e1, hcc⟩ := hc'.at_ pcE rfl hlt
    simp only [Value.slice.injEq] at e1
    obtain ⟨rfl, _, rfl⟩ := e1
    obtain ⟨bi, hbi, hRi⟩ := hA.get (List.getElem?_eq_getElem hltt)
    have hbi' : bs[i] = bi := by rw [List.getElem?_eq_getElem hlt] at hbi; exact Option.some.inj hbi
    rw [hbi'] at hcc
    have hsn := kidsT_snoc (listT d) ts[i] (ts.take i) (cs.length + 1)
    rw [← take_snoc ts i hltt, ← hsub] at hsn
    have hnx := kidsT_take_le (listT d) ts (cs.length + 1) (i + 1)
    rw [hsn] at hnx
    simp only [List.length_append] at hnx
    rw [listT_len (d := d) (t := ts[i]) _ 0] at hnx
    have hget := get_mid (A := cs) (B := sub) (a := ((A15, ks.length, c15), (A20, vs.length, c20), vk)) rfl
    refine V_skip ?_
    refine VQ_then ?_
    refine V_seq ?_
    refine V_block ?_
    refine V_seq ?_
    refine V_region ?_
    refine VL_still rfl rfl rfl (X_at i Try.underlying90 tx83 rfl rfl hlt) ?_
    refine VL_still rfl rfl rfl (S_load Try.underlying83 rfl rfl hcc.1.mem) ?_
    refine VL_still rfl rfl rfl (S_assign rfl) ?_
    refine VL_nil ?_
    refine VQ_then ?_
    refine V_seq ?_
    refine V_region ?_
    refine VL_still rfl rfl rfl (S_move rfl) ?_
    refine VL_still rfl rfl rfl (S_move rfl) ?_
    refine VL_still rfl rfl rfl (S_move rfl) ?_
    refine VL_still rfl rfl rfl (S_move rfl) ?_
    refine VL_still rfl rfl rfl (X_at cs.length Try.underlying41 tx108 rfl rfl (by omega)) ?_
    refine VL_still rfl rfl rfl (S_field (k := 2) Try.underlying108 rfl rfl ti71 rfl rfl) ?_
    refine VL_still rfl rfl rfl (S_load Try.underlying71 rfl rfl (Cell.trk (by repeat (first | exact Has.here | apply Has.there)) (part_at (pre := [.slice A15 ks.length c15, .slice A20 vs.length c20]) (post := []) triE hget rfl rfl sp))) ?_
    refine VL_still rfl rfl rfl (S_move rfl) ?_
    refine VL_still rfl rfl rfl (S_len Try.underlying41 rfl) ?_
    refine VL_eff rfl (E_bs1 rfl Try.underlying71 ti3 rfl rfl rfl rfl rfl rfl) ?_
    rintro _ _ _ ⟨b42, hb42, rfl, rfl, rfl⟩
    refine VL_eff rfl (X_append rfl Try.underlying71 Try.underlying71 rfl tx3 rfl rfl rfl rfl hBI (by repeat (first | exact Pick.here | apply Pick.there)) (Buf.reads (G := [(b42, .cells (List.toArray [.int .i64 ((cs ++ ((A15, ks.length, c15), (A20, vs.length, c20), vk) :: sub).length : Nat)]) 3 (0, 0))]) (Buf.lit (n := 1) (by rfl) (by omega)) (fun q hq => by simp at hq ⊢; try simp [hq])) rfl (by omega)) ?_
    rintro _ _ _ ⟨v43, G43, hB43, rfl, rfl, rfl⟩
    replace hB43 := Buf.snoc (enc := ic) (a := (((cs ++ ((A15, ks.length, c15), (A20, vs.length, c20), vk) :: sub).length : Nat) : Int)) hB43
    rw [hlc] at hB43
    obtain ⟨A43, c43, rfl, _, _⟩ := Buf.form hB43
    refine VL_still rfl rfl rfl (X_at cs.length Try.underlying41 tx108 rfl rfl (by omega)) ?_
    refine VL_still rfl rfl rfl (S_field (k := 2) Try.underlying108 rfl rfl ti71 rfl rfl) ?_
    refine VL_eff rfl (E_store ti71 rfl rfl rfl rfl rfl (by repeat (first | exact Has.here | apply Has.there)) (PutR.part (a' := ((A15, ks.length, c15), (A20, vs.length, c20), (A43, ((kidsT (listT d) (ts.take i) (cs.length + 1)).1 ++ [((cs.length + 1 + sub.length : Nat) : Int)]).length, c43))) (pre := [.slice A15 ks.length c15, .slice A20 vs.length c20]) (post := []) triE hget rfl rfl rfl sp) (by repeat (first | exact UpdG.here | apply UpdG.there))) ?_
    rintro _ _ _ ⟨rfl, rfl, rfl⟩
    have hB1' := Buf.set (b := bo) (e := 108) (sp := sp) triE cs.length ((A15, ks.length, c15), (A20, vs.length, c20), (A43, ((kidsT (listT d) (ts.take i) (cs.length + 1)).1 ++ [((cs.length + 1 + sub.length : Nat) : Int)]).length, c43)) rfl l1 l2 hl2
    refine VL_nil ?_
    refine VQ_then ?_
    refine V_region ?_
    refine VL_still rfl rfl rfl (S_move rfl) ?_
    refine VL_still rfl rfl rfl (S_move rfl) ?_
    refine VL_eff rfl (E_call rfl rfl rfl Try.call42 (ih ts[i] (List.getElem_mem hltt) bi _ _ _ hh (Rp.sub (sh1.trans hs1) hRi) hB1' (by rw [List.length_set]; omega)) (by repeat (first | exact Split.nil | exact Pick.here | apply Pick.there | apply Split.cons))) ?_
    rintro _ hh48 _ ⟨v48, nb48, ⟨cs2, G2, hB2, hA2, rfl⟩, hs48, rfl, rfl⟩
    rw [List.length_set, hlc] at hA2
    rw [set_mid rfl, List.append_assoc, List.cons_append] at hB2
    refine VL_still rfl rfl rfl (S_assign rfl) ?_
    refine VL_nil ?_
    refine VQ_block_normal ?_
    refine VQ_then ?_
    refine V_region ?_
    first | refine VL_still rfl rfl rfl (S_addi rfl rfl (by omega) (by omega)) ?_ | refine VL_still rfl rfl rfl (S_add rfl rfl) ?_
    refine VL_still rfl rfl rfl (S_move rfl) ?_
    refine VL_nil ?_
    refine VQ_mid (i + 1, hh48, v48, G2, (A43, ((kidsT (listT d) (ts.take i) (cs.length + 1)).1 ++ [((cs.length + 1 + sub.length : Nat) : Int)]).length, c43), G43, sub ++ cs2) ⟨⟨by omega, hs1.trans hs48, hB2, ?_, ?_⟩, by simp only; omega⟩ (by repeat (first | exact trivial | refine ⟨rfl, ?_⟩)) rfl (by repeat (first | exact SubB.nil | exact Pick.here | apply Pick.there | apply SubB.emp | apply SubB.cons))
    · rw [hsn]; exact hB43
    · rw [hsn]; exact (hA1.mono fun _ _ r => NdR.sub hs48 r).app hA2
  · skip
    have hge : i = ts.length := by
      have := of_decide_eq_false hc30
      omega
    subst hge
    rw [List.take_length] at hBI hA1
    refine V_exit ?_
    refine VQ_then_exit ?_
    refine VQ_then_exit ?_
    refine VQ_block_exit ?_
    refine VQ_then ?_
    refine V_seq ?_
    refine V_region ?_
    refine VL_still rfl rfl rfl (S_move rfl) ?_
    refine VL_still rfl rfl rfl (S_assign rfl) ?_
    refine VL_nil ?_
    refine VQ_then ?_
    refine V_ret ?_
    refine VQ_keeps (blA := [Gk]) (by repeat (first | exact Split.nil | exact Pick.here | apply Pick.there | apply Split.cons)) (fun h2 sh2 kh2 => ?_)
    obtain ⟨q3, _⟩ := kh2
    refine VQ_fin1 (nb := [[(bo, .cells (List.toArray ((cs ++ ((A15, ks.length, c15), (A20, vs.length, c20), vk) :: sub).flatMap tri ++ sp)) 108 (0, 0))]]) (by first | exact .inl rfl | exact .inr rfl) rfl (RV_tmp rfl) ?sb ?po
    case po =>
      exact ⟨_, _, hB1, .cons ⟨sk.sub (hs1.trans sh2), sl.sub (hs1.trans sh2), (hBI.known q3)⟩ (hA1.mono fun _ _ r => NdR.sub sh2 r), rfl⟩
    case sb => exact (by repeat (first | exact SubB.nil | exact Pick.here | apply Pick.there | apply SubB.emp | apply SubB.cons))

theorem list_con : ∀ (d b : Nat) (t : Tr) (vo : Value) (cs : List (Sv × Sv × Sv)) (Go : Gr) (h : Hp), Rp h d b t → ShA d t → Kd d t → nk t ≤ 7 → BN vo cs Go → cs.length + (listT d t 0).length ≤ 100000 →
    Con Try.prog 42 [ptr b, vo] h [Go] (fun r h' nb => ∃ cs' G', BN r (cs ++ cs') G' ∧ All2 (NdR h') cs' (listT d t cs.length) ∧ nb = [G'])
  | 0, b, .leaf l, vo, cs, Go, h, hr, _, _, hn, hB, hc => by
    have hn : (keysP l).length ≤ 7 := hn
    have hkl := keysP_len l
    exact list_gen 0 b (keysP l) (l.map (fun (p : Pr) => p.2)) [] [] vo cs Go h hr .nil hB (by omega) (by rw [List.length_map]; omega) (by simp) hc (fun x hx => by simp at hx)
  | d + 1, b, .node ks ts, vo, cs, Go, h, ⟨bs, hN, hA⟩, hs, hk, hn, hB, hc => by
    have hn : ks.length ≤ 7 := hn
    have hbl := hA.len
    have hs1 : ts.length = ks.length + 1 := hs.1
    have hk : ∀ x ∈ ts, 3 ≤ nk x ∧ nk x ≤ 7 ∧ Kd d x := hk
    refine list_gen d b ks [] bs ts vo cs Go h hN hA hB (by omega) (by simp) (by omega) ?_ (fun x hx b vo cs Go h r B n => list_con d b x vo cs Go h r (hs.2 x hx) (hk x hx).2.2 (hk x hx).2.1 B n)
    rw [listT_s] at hc
    simp only [List.length_cons] at hc
    rw [kidsT_len2 ts 0 (0 + 1)]
    omega

set_option maxRecDepth 100000 in
theorem nodes_con (d b rb : Nat) (t : Tr) (l : List Pr) (h : Hp) (hb : h b = some (.cells (List.toArray [ptr rb, .int .i64 (l.length : Nat)]) 85 (0, 0))) (hR : Rp h d rb t) (hO : TOk d t l) (hn : l.length ≤ 90000) : Con Try.prog 19 [ptr b] h [] (fun r h' nb => ∃ cs G', BN r cs G' ∧ All2 (NdR h') cs (listT d t 0) ∧ nb = [G']) := by
  refine Con_of Try.func19 rfl Try.ntmps19 (Nat.le_of_ble_eq_true rfl) (fun w0 => ?_)
  refine V_seq ?_
  refine V_region ?_
  refine VL_still rfl rfl rfl (S_assign rfl) ?_
  refine VL_nil ?_
  refine VQ_then ?_
  refine V_seq ?_
  refine V_region ?_
  refine VL_still rfl rfl rfl (S_move rfl) ?_
  refine VL_still rfl rfl rfl (S_nil rfl) ?_
  refine VL_still rfl rfl rfl (S_field (k := 0) Try.underlying85 rfl rfl ti83 rfl rfl) ?_
  first | refine VL_still rfl rfl rfl (S_load Try.underlying83 rfl rfl (Cell.trk (by repeat (first | exact Has.here | apply Has.there)) rfl)) ?_ | refine VL_still rfl rfl rfl (S_load Try.underlying83 rfl rfl (Cell.known (by first | assumption | exact (by assumption : Sub _ _) _ _ (by assumption) | exact (Sub.trans (by assumption) (by assumption)) _ _ (by assumption)) rfl)) ?_
  refine VL_eff rfl (E_call rfl rfl rfl Try.call42 ((list_con d rb t (.slice none 0 0) [] [] h hR hO.in_.shA hO.kids hO.few (Buf.nil _ _) (by have := hO.count 0; simp; omega)).conv (blB := []) rfl (fun v h' nb q => ⟨nb, rfl, q⟩)) (by repeat (first | exact Split.nil | exact Pick.here | apply Pick.there | apply Split.cons))) ?_
  rintro _ hh7 _ ⟨v7, nb7, ⟨cs, G, hB, hA, rfl⟩, hs7, rfl, rfl⟩
  refine VL_still rfl rfl rfl (S_assign rfl) ?_
  refine VL_nil ?_
  refine VQ_then ?_
  refine V_ret ?_
  refine VQ_fin1 (nb := [G]) (by first | exact .inl rfl | exact .inr rfl) rfl (RV_tmp rfl) ?sb ?po
  case po =>
    exact ⟨cs, G, hB, hA, rfl⟩
  case sb => exact (by repeat (first | exact SubB.nil | exact Pick.here | apply Pick.there | apply SubB.emp | apply SubB.cons))

end Go.Proofs.Ytdglignjoojimaa

/- The laws' common parts: the example, what is grown. No conditions. -/
set_option linter.unusedVariables false
set_option linter.unusedSimpArgs false
namespace Go.Proofs.Ytdglignjoojimaa

theorem TOk.flat0 {d : Nat} {t : Tr} {l : List Pr} (h : TOk d t l) (hl : l.length < 6) : (listT d t 0).length = 1 := by
  cases d with
  | zero =>
    cases t with
    | node ks ts => exact absurd h.in_ (by simp [In])
    | leaf l => rfl
  | succ d =>
    exfalso
    cases t with
    | leaf l => exact absurd h.in_ (by simp [In])
    | node ks ts =>
      have hs := h.in_.shA
      obtain ⟨hsl, hs⟩ := hs
      have hk : ∀ x ∈ ts, 3 ≤ nk x ∧ nk x ≤ 7 ∧ Kd d x := h.kids
      have h1 : 1 ≤ ks.length := h.some_ (by omega)
      have hc := kids_count (d := d) (ts := ts) 0 (fun x hx a => node_count a (hs x hx) (hk x hx))
      have hf := h.flat_
      rw [flat_s] at hf
      rw [hf] at hc
      have hpos : ts.length ≤ (kidsT (listT d) ts 0).2.length := by
        have : ∀ (ts : List Tr) (a : Nat), (∀ x ∈ ts, ShA d x) → ts.length ≤ (kidsT (listT d) ts a).2.length := by
          intro ts
          induction ts with
          | nil => intro a _; simp [kidsT]
          | cons x ts ih =>
            intro a hx
            have h1 : 1 ≤ (listT d x a).length := by
              have := hx x (by simp)
              cases d with
              | zero => cases x with
                | leaf l => simp [listT]
                | node ks ts => exact this.elim
              | succ d => cases x with
                | leaf l => exact this.elim
                | node ks ts => rw [listT_s]; simp
            have := ih (a + (listT d x a).length) (fun y hy => hx y (List.mem_cons_of_mem _ hy))
            simp only [kidsT, List.length_append, List.length_cons]; omega
        exact this ts 0 hs
      omega
/-- What is done, laid in cells. -/
def ac (a : Ac) : List Value := [.int .i64 a.k, .int .u64 a.key, .int .i64 a.s, .int .i64 a.l]
theorem acE : Enc ac 4 := ⟨fun _ => rfl, fun _ => rfl⟩
abbrev acs (l : List Ac) : List Value := l.flatMap ac
abbrev AL (h : Hp) (v : Value) (l : List Ac) : Prop := SlR h [] v l.length (acs l) 4
def OkA (a : Ac) : Prop := 0 ≤ a.key ∧ a.key < top
theorem PL.sub {h h' : Hp} {v : Value} {l : List Pr} (p : PL h v l) (s : Sub h h') : PL h' v l := SlR.sub p s
theorem AL.sub {h h' : Hp} {v : Value} {l : List Ac} (p : AL h v l) (s : Sub h h') : AL h' v l := SlR.sub p s

theorem rput_k (v : Value) (l : List Pr) (h : Hp) (hs : PL h v l) (hn : l.length ≤ 100000) (k s n lo hi : Int) (hu : Up lo hi (keysP l)) : Con Try.prog 25 [v, .int .u64 k, .agg #[.int .i64 s, .int .i64 n]] h [] (fun r h' nb => nb = [] ∧ PL h' r (insP l k (s, n))) :=
  (rput_con v l h hs hn k s n lo hi hu).keepAll fun v h' nb h'' ⟨_, G', B, e⟩ s k => ⟨rfl, by subst e; exact B.kn k.1⟩

theorem rdel_k (v : Value) (l : List Pr) (h : Hp) (hs : PL h v l) (hn : l.length ≤ 100000) (k : Int) : Con Try.prog 26 [v, .int .u64 k] h [] (fun r h' nb => nb = [] ∧ PL h' r (delP l k)) :=
  (rdel_con v l h hs hn k).keepAll fun v h' nb h'' ⟨_, G', B, e⟩ s k => ⟨rfl, by subst e; exact B.kn k.1⟩

theorem rrange_k (v : Value) (l : List Pr) (h : Hp) (hs : PL h v l) (hn : l.length ≤ 100000) (k to : Int) : Con Try.prog 16 [v, .int .u64 k, .int .u64 to] h [] (fun r h' nb => nb = [] ∧ PL h' r (rangeP k to l)) :=
  (rrange_con v l h hs hn k to).keepAll fun v h' nb h'' ⟨_, G', B, e⟩ s k => ⟨rfl, by subst e; exact B.kn k.1⟩

theorem range_k (b : Nat) (l : List Pr) (k to : Int) (h : Hp) (hT : TreeAt h b l) (hn : l.length ≤ 900000) : Con Try.prog 15 [ptr b, .int .u64 k, .int .u64 to] h [] (fun r h' nb => nb = [] ∧ PL h' r (rangeP k to l)) :=
  (range_con b l k to h hT hn).keepAll fun v h' nb h'' ⟨G', B, e⟩ s k => ⟨rfl, by subst e; exact B.kn k.1⟩

set_option maxRecDepth 100000 in
theorem alive_con (h : Hp) : Con Try.prog 11 [] h [] (fun r h' nb => r = .bool true ∧ nb = []) := by
  refine Con_of Try.func11 rfl Try.ntmps11 (Nat.le_of_ble_eq_true rfl) (fun w0 => ?_)
  refine V_seq ?_
  refine V_region ?_
  refine VL_still rfl rfl rfl (S_assign rfl) ?_
  refine VL_nil ?_
  refine VQ_then ?_
  refine V_seq ?_
  refine V_region ?_
  refine VL_eff rfl (E_call rfl rfl rfl Try.call36 (new_con h) (by repeat (first | exact Split.nil | exact Pick.here | apply Pick.there | apply Split.cons))) ?_
  rintro _ hh4 _ ⟨v4, nb4, ⟨rfl, b, rfl, hT⟩, hs4, rfl, rfl⟩
  refine VL_still rfl rfl rfl (S_assign rfl) ?_
  refine VL_nil ?_
  refine VQ_then ?_
  refine V_seq ?_
  refine V_seq ?_
  refine V_region ?_
  refine VL_still rfl rfl rfl (S_move rfl) ?_
  refine VL_still rfl rfl rfl (S_peqnil Try.underlying25 rfl rfl) ?_
  refine VL_still rfl rfl rfl (S_move rfl) ?_
  refine VL_bool 7 rfl (fun hc7 => ?_) (fun hc7 => ?_)
  · skip
    simp at hc7
  · skip
    refine VL_still rfl rfl rfl (S_move rfl) ?_
    refine VL_eff rfl (E_call rfl rfl rfl Try.call13 (len_con b [] hh4 hT) (by repeat (first | exact Split.nil | exact Pick.here | apply Pick.there | apply Split.cons))) ?_
    rintro _ hh9 _ ⟨v9, nb9, ⟨rfl, rfl, rfl⟩, hs9, rfl, rfl⟩
    refine VL_still rfl rfl rfl (S_neq rfl rfl) ?_
    first | refine VL_still rfl rfl rfl (S_pick_t rfl rfl) ?_ | refine VL_still rfl rfl rfl (S_pick_f rfl rfl) ?_
    refine VL_nil ?_
    refine VQ_then ?_
    refine V_cond rfl (fun hc11 => ?_) (fun hc11 => ?_)
    · skip
      simp at hc11
    · skip
      refine V_skip ?_
      refine VQ_then ?_
      refine V_seq ?_
      refine V_region ?_
      refine VL_still rfl rfl rfl (S_move rfl) ?_
      refine VL_still rfl rfl rfl (S_struct Try.underlying34 to34 tz34 rfl (by repeat (first | exact BuildR.nil | exact PutR.nil | exact SetL.here | apply SetL.there | apply PutR.cons | apply BuildR.cons rfl (by first | exact ti3) rfl rfl rfl))) ?_
      refine VL_eff rfl (E_call rfl rfl rfl Try.call20 (tput_con b [] hh4 hT 5 1 1 (by omega) (by decide) (by simp)) (by repeat (first | exact Split.nil | exact Pick.here | apply Pick.there | apply Split.cons))) ?_
      rintro _ hh14 _ ⟨v14, nb14, ⟨rfl, b1, rfl, hT1⟩, hs14, rfl, rfl⟩
      refine VL_still rfl rfl rfl (S_struct Try.underlying34 to34 tz34 rfl (by repeat (first | exact BuildR.nil | exact PutR.nil | exact SetL.here | apply SetL.there | apply PutR.cons | apply BuildR.cons rfl (by first | exact ti3) rfl rfl rfl))) ?_
      refine VL_eff rfl (E_call rfl rfl rfl Try.call20 (tput_con b1 _ hh14 hT1 3 2 1 (by omega) (by decide) (by decide)) (by repeat (first | exact Split.nil | exact Pick.here | apply Pick.there | apply Split.cons))) ?_
      rintro _ hh16 _ ⟨v16, nb16, ⟨rfl, b2, rfl, hT2⟩, hs16, rfl, rfl⟩
      rw [show insP (insP [] 5 (1, 1)) 3 (2, 1) = [((3 : Int), (2 : Int), (1 : Int)), (5, 1, 1)] by decide] at hT2
      refine VL_still rfl rfl rfl (S_assign rfl) ?_
      refine VL_nil ?_
      refine VQ_then ?_
      refine V_seq ?_
      refine V_seq ?_
      refine V_region ?_
      refine VL_still rfl rfl rfl (S_move rfl) ?_
      refine VL_still rfl rfl rfl (S_peqnil Try.underlying25 rfl rfl) ?_
      refine VL_nil ?_
      refine VQ_then ?_
      refine V_cond rfl (fun hc18 => ?_) (fun hc18 => ?_)
      · skip
        simp at hc18
      · skip
        refine V_skip ?_
        refine VQ_then ?_
        refine V_seq ?_
        refine V_region ?_
        refine VL_still rfl rfl rfl (S_move rfl) ?_
        refine VL_eff rfl (E_call rfl rfl rfl Try.call15 (range_con b2 _ 0 9 hh16 hT2 (by decide)) (by repeat (first | exact Split.nil | exact Pick.here | apply Pick.there | apply Split.cons))) ?_
        rintro _ hh20 _ ⟨v20, nb20, ⟨G, hB, rfl⟩, hs20, rfl, rfl⟩
        rw [show rangeP 0 9 [((3 : Int), (2 : Int), (1 : Int)), (5, 1, 1)] = [((3 : Int), (2 : Int), (1 : Int)), (5, 1, 1)] by decide] at hB
        obtain ⟨bo, co, sp, rfl, rfl, _, _, _, _⟩ := Buf.blk hB (by decide)
        refine VL_still rfl rfl rfl (S_assign rfl) ?_
        refine VL_nil ?_
        refine VQ_then ?_
        refine V_seq ?_
        refine V_region ?_
        refine VL_still rfl rfl rfl (S_move rfl) ?_
        refine VL_still rfl rfl rfl (S_len Try.underlying26 rfl) ?_
        refine VL_still rfl rfl rfl (S_eql rfl rfl) ?_
        refine VL_still rfl rfl rfl (S_move rfl) ?_
        refine VL_bool 24 rfl (fun hc24 => ?_) (fun hc24 => ?_)
        · skip
          refine VL_still rfl rfl rfl (S_move rfl) ?_
          refine VL_still rfl rfl rfl (X_at 0 Try.underlying26 tx47 rfl rfl (by decide)) ?_
          refine VL_still rfl rfl rfl (S_field (k := 0) Try.underlying47 rfl rfl ti23 rfl rfl) ?_
          first | refine VL_still rfl rfl rfl (S_load Try.underlying23 rfl rfl (Cell.trk (by repeat (first | exact Has.here | apply Has.there)) rfl)) ?_ | refine VL_still rfl rfl rfl (S_load Try.underlying23 rfl rfl (Cell.known (by first | assumption | exact (by assumption : Sub _ _) _ _ (by assumption) | exact (Sub.trans (by assumption) (by assumption)) _ _ (by assumption)) rfl)) ?_
          refine VL_still rfl rfl rfl (S_eql rfl rfl) ?_
          first | refine VL_still rfl rfl rfl (S_pick_t rfl rfl) ?_ | refine VL_still rfl rfl rfl (S_pick_f rfl rfl) ?_
          refine VL_still rfl rfl rfl (S_move rfl) ?_
          refine VL_bool 31 rfl (fun hc31 => ?_) (fun hc31 => ?_)
          · skip
            refine VL_still rfl rfl rfl (S_move rfl) ?_
            refine VL_still rfl rfl rfl (X_at 1 Try.underlying26 tx47 rfl rfl (by decide)) ?_
            refine VL_still rfl rfl rfl (S_field (k := 0) Try.underlying47 rfl rfl ti23 rfl rfl) ?_
            first | refine VL_still rfl rfl rfl (S_load Try.underlying23 rfl rfl (Cell.trk (by repeat (first | exact Has.here | apply Has.there)) rfl)) ?_ | refine VL_still rfl rfl rfl (S_load Try.underlying23 rfl rfl (Cell.known (by first | assumption | exact (by assumption : Sub _ _) _ _ (by assumption) | exact (Sub.trans (by assumption) (by assumption)) _ _ (by assumption)) rfl)) ?_
            refine VL_still rfl rfl rfl (S_eql rfl rfl) ?_
            first | refine VL_still rfl rfl rfl (S_pick_t rfl rfl) ?_ | refine VL_still rfl rfl rfl (S_pick_f rfl rfl) ?_
            refine VL_still rfl rfl rfl (S_move rfl) ?_
            refine VL_bool 38 rfl (fun hc38 => ?_) (fun hc38 => ?_)
            · skip
              obtain ⟨d2, t2, rb2, hb2, hR2, hO2⟩ := hT2
              refine VL_still rfl rfl rfl (S_move rfl) ?_
              refine VL_eff rfl (E_call rfl rfl rfl Try.call19 (nodes_con d2 b2 rb2 t2 _ hh20 (hs20 _ _ hb2) (Rp.sub hs20 hR2) hO2 (by decide)) (by repeat (first | exact Split.nil | exact Pick.here | apply Pick.there | apply Split.cons))) ?_
              rintro _ hh40 _ ⟨v40, nb40, ⟨cs, G40, hB40, hA40, rfl⟩, hs40, rfl, rfl⟩
              have hcl := hA40.len
              rw [hO2.flat0 (by decide)] at hcl
              obtain ⟨A40, c40, rfl, _, _⟩ := Buf.form hB40
              refine VL_still rfl rfl rfl (S_len Try.underlying41 rfl) ?_
              refine VL_still rfl rfl rfl (S_eql rfl rfl) ?_
              first | refine VL_still rfl rfl rfl (S_pick_t rfl rfl) ?_ | refine VL_still rfl rfl rfl (S_pick_f rfl rfl) ?_
              refine VL_still rfl rfl rfl (S_move rfl) ?_
              refine VL_bool 44 rfl (fun hc44 => ?_) (fun hc44 => ?_)
              · skip
                refine VL_still rfl rfl rfl (S_move rfl) ?_
                refine VL_eff rfl (E_call rfl rfl rfl Try.call13 (len_con b2 _ hh40 ⟨d2, t2, rb2, hs40 _ _ (hs20 _ _ hb2), Rp.sub (hs20.trans hs40) hR2, hO2⟩) (by repeat (first | exact Split.nil | exact Pick.here | apply Pick.there | apply Split.cons))) ?_
                rintro _ hh46 _ ⟨v46, nb46, ⟨rfl, rfl, rfl⟩, hs46, rfl, rfl⟩
                refine VL_still rfl rfl rfl (S_eql rfl rfl) ?_
                first | refine VL_still rfl rfl rfl (S_pick_t rfl rfl) ?_ | refine VL_still rfl rfl rfl (S_pick_f rfl rfl) ?_
                refine VL_still rfl rfl rfl (S_move rfl) ?_
                refine VL_bool 49 rfl (fun hc49 => ?_) (fun hc49 => ?_)
                · skip
                  refine VL_still rfl rfl rfl (S_move rfl) ?_
                  refine VL_eff rfl (E_call rfl rfl rfl Try.call13 (len_con b [] hh40 (hT.sub (hs14.trans (hs16.trans (hs20.trans hs40))))) (by repeat (first | exact Split.nil | exact Pick.here | apply Pick.there | apply Split.cons))) ?_
                  rintro _ hh51 _ ⟨v51, nb51, ⟨rfl, rfl, rfl⟩, hs51, rfl, rfl⟩
                  refine VL_still rfl rfl rfl (S_eql rfl rfl) ?_
                  first | refine VL_still rfl rfl rfl (S_pick_t rfl rfl) ?_ | refine VL_still rfl rfl rfl (S_pick_f rfl rfl) ?_
                  refine VL_still rfl rfl rfl (S_assign rfl) ?_
                  refine VL_nil ?_
                  refine VQ_then ?_
                  refine V_ret ?_
                  refine VQ_fin1 (nb := []) (by first | exact .inl rfl | exact .inr rfl) rfl (RV_tmp rfl) ?sb ?po
                  case po =>
                    exact ⟨rfl, rfl⟩
                  case sb => exact (by repeat (first | exact SubB.nil | exact Pick.here | apply Pick.there | apply SubB.emp | apply SubB.cons))
                · skip
                  simp at hc49
              · skip
                simp [hcl] at hc44
            · skip
              simp at hc38
          · skip
            simp at hc31
        · skip
          simp at hc24

set_option maxRecDepth 100000 in
theorem grown_con (v : Value) (acts : List Ac) (h : Hp) (hs : AL h v acts) (hok : ∀ a ∈ acts, OkA a) (hn : acts.length ≤ 10000) : Con Try.prog 12 [v] h [] (fun r h' nb => nb = [] ∧ ∃ b vl, r = .tuple #[ptr b, vl] ∧ TreeAt h' b (growP acts) ∧ PL h' vl (growP acts)) := by
  obtain ⟨A, cap, rfl, hle, hmx⟩ := SlR.form hs
  refine Con_of Try.func12 rfl Try.ntmps12 (Nat.le_of_ble_eq_true rfl) (fun w0 => ?_)
  refine V_seq ?_
  refine V_region ?_
  refine VL_still rfl rfl rfl (S_assign rfl) ?_
  refine VL_still rfl rfl rfl (S_assign rfl) ?_
  refine VL_nil ?_
  refine VQ_then ?_
  refine V_seq ?_
  refine V_region ?_
  refine VL_eff rfl (E_call rfl rfl rfl Try.call36 (new_con h) (by repeat (first | exact Split.nil | exact Pick.here | apply Pick.there | apply Split.cons))) ?_
  rintro _ hh8 _ ⟨v8, nb8, ⟨rfl, b0, rfl, hT0⟩, hs8, rfl, rfl⟩
  refine VL_still rfl rfl rfl (S_assign rfl) ?_
  refine VL_nil ?_
  refine VQ_then ?_
  refine V_seq ?_
  refine V_region ?_
  refine VL_eff rfl (E_bs0 rfl Try.underlying26 ti47) ?_
  rintro _ _ _ ⟨b9, hb9, rfl, rfl, rfl⟩
  refine VL_still rfl rfl rfl (S_assign rfl) ?_
  refine VL_nil ?_
  refine VQ_then ?_
  refine V_seq ?_
  refine V_seq ?_
  refine V_keeps (blA := [[(b9, .cells (List.toArray []) 47 (0, 0))]]) (by repeat (first | exact Split.nil | exact Pick.here | apply Pick.there | apply Split.cons)) (fun h1 sh1 kh1 => ?_)
  refine V_region ?_
  refine VL_still rfl rfl rfl (S_move rfl) ?_
  refine VL_still rfl rfl rfl (S_len Try.underlying22 rfl) ?_
  refine VL_still rfl rfl rfl (S_move rfl) ?_
  refine VL_nil ?_
  refine VQ_then ?_
  refine V_block ?_
  refine V_loop (ι := Nat × Hp × Nat × Value) (fun x => acts.length - x.1) (fun (i, hh, b, vl) => i ≤ acts.length ∧ Sub h1 hh ∧ TreeAt hh b (growP (acts.take i)) ∧ PL hh vl (growP (acts.take i))) (fun (i, hh, b, vl) => [(0, (.slice A acts.length cap)), (4, ptr b), (5, vl), (10, (.slice A acts.length cap)), (11, .int .i64 acts.length), (12, .int .i64 i)]) (fun (i, hh, b, vl) => hh) (fun _ => []) (0, h1, b0, .slice (some ⟨b9, 0, none⟩) 0 0) ⟨Nat.zero_le _, Sub.refl _, hT0.sub sh1, (Buf.lit (n := 0) (cs := []) (e := 47) rfl (by omega)).known kh1.1⟩ (by repeat (first | exact trivial | refine ⟨rfl, ?_⟩)) rfl (by repeat (first | exact SubB.nil | exact Pick.here | apply Pick.there | apply SubB.emp | apply SubB.cons)) (fun ⟨i, hh, b, vl⟩ hi => ?_)
  obtain ⟨hi1, hs1, hT, hL⟩ := hi
  simp only at hi1 hs1 hT hL ⊢
  obtain ⟨hgu, hgl⟩ := growP_ok i hok hi1
  have hs' := hs.sub ((hs8.trans sh1).trans hs1)
  refine V_seq ?_
  refine V_region ?_
  refine VL_still rfl rfl rfl (S_lss rfl rfl) ?_
  refine VL_nil ?_
  refine VQ_then ?_
  refine V_seq ?_
  refine V_cond rfl (fun hc13 => ?_) (fun hc13 => ?_)
  · skip
    have hlt : i < acts.length := by
      have := of_decide_eq_true hc13
      omega
    obtain ⟨bb, off, cap', e1, hcc⟩ := SlR.at_ acE hs' rfl hlt
    simp only [Value.slice.injEq] at e1
    obtain ⟨rfl, _, rfl⟩ := e1
    have hsn := growP_snoc acts i hlt
    obtain ⟨k0, k1⟩ := hok acts[i] (List.getElem_mem hlt)
    refine V_skip ?_
    refine VQ_then ?_
    refine V_seq ?_
    refine V_block ?_
    refine V_seq ?_
    refine V_region ?_
    refine VL_still rfl rfl rfl (X_at i Try.underlying22 tx36 rfl rfl hlt) ?_
    refine VL_still rfl rfl rfl (S_loads (vs := ac acts[i]) Try.underlying36 rfl ti36 rfl rfl (hcc.mono (Sub.refl _) (fun q hq => by simp at hq))) ?_
    refine VL_eff rfl (E_alloc rfl tz36) ?_
    rintro _ _ _ ⟨b7, hb7, rfl, rfl, rfl⟩
    refine VL_eff rfl (E_store ti36 rfl rfl rfl rfl rfl (by repeat (first | exact Has.here | apply Has.there)) (by repeat (first | exact PutR.nil | exact SetL.here | apply SetL.there | apply PutR.cons)) (by repeat (first | exact UpdG.here | apply UpdG.there))) ?_
    rintro _ _ _ ⟨rfl, rfl, rfl⟩
    refine VL_nil ?_
    refine VQ_then ?_
    refine V_seq ?_
    refine V_region ?_
    refine VL_still rfl rfl rfl (S_field (k := 0) Try.underlying36 rfl rfl ti3 rfl rfl) ?_
    first | refine VL_still rfl rfl rfl (S_load Try.underlying3 rfl rfl (Cell.trk (by repeat (first | exact Has.here | apply Has.there)) rfl)) ?_ | refine VL_still rfl rfl rfl (S_load Try.underlying3 rfl rfl (Cell.known (by first | assumption | exact (by assumption : Sub _ _) _ _ (by assumption) | exact (Sub.trans (by assumption) (by assumption)) _ _ (by assumption)) rfl)) ?_
    refine VL_still rfl rfl rfl (S_eql rfl rfl) ?_
    refine VL_nil ?_
    refine VQ_then ?_
    refine V_cond rfl (fun hc18 => ?_) (fun hc18 => ?_)
    · skip
      have hk : acts[i].k = 0 := of_decide_eq_true hc18
      have hst : stepP (growP (acts.take i)) acts[i] = insP (growP (acts.take i)) acts[i].key (acts[i].s, acts[i].l) := if_pos hk
      refine V_seq ?_
      refine V_region ?_
      refine VL_still rfl rfl rfl (S_move rfl) ?_
      refine VL_still rfl rfl rfl (S_field (k := 1) Try.underlying36 rfl rfl ti23 rfl rfl) ?_
      first | refine VL_still rfl rfl rfl (S_load Try.underlying23 rfl rfl (Cell.trk (by repeat (first | exact Has.here | apply Has.there)) rfl)) ?_ | refine VL_still rfl rfl rfl (S_load Try.underlying23 rfl rfl (Cell.known (by first | assumption | exact (by assumption : Sub _ _) _ _ (by assumption) | exact (Sub.trans (by assumption) (by assumption)) _ _ (by assumption)) rfl)) ?_
      refine VL_still rfl rfl rfl (S_field (k := 2) Try.underlying36 rfl rfl ti34 rfl rfl) ?_
      refine VL_still rfl rfl rfl (S_loads (vs := [.int .i64 acts[i].s, .int .i64 acts[i].l]) Try.underlying34 rfl ti34 rfl rfl (Cells.trk (by repeat (first | exact Has.here | apply Has.there)) (by repeat (first | exact TakeR.here (by repeat (first | exact HeadR.nil | apply HeadR.cons)) | apply TakeR.there)))) ?_
      refine VL_eff rfl (E_call rfl rfl rfl Try.call20 (tput_con b _ hh hT acts[i].key acts[i].s acts[i].l k0 k1 (by omega)) (by repeat (first | exact Split.nil | exact Pick.here | apply Pick.there | apply Split.cons))) ?_
      rintro _ hh24 _ ⟨v24, nb24, ⟨rfl, b2, rfl, hT2⟩, hs24, rfl, rfl⟩
      refine VL_still rfl rfl rfl (S_assign rfl) ?_
      refine VL_nil ?_
      refine VQ_then ?_
      refine V_region ?_
      refine VL_still rfl rfl rfl (S_move rfl) ?_
      refine VL_still rfl rfl rfl (S_field (k := 1) Try.underlying36 rfl rfl ti23 rfl rfl) ?_
      first | refine VL_still rfl rfl rfl (S_load Try.underlying23 rfl rfl (Cell.trk (by repeat (first | exact Has.here | apply Has.there)) rfl)) ?_ | refine VL_still rfl rfl rfl (S_load Try.underlying23 rfl rfl (Cell.known (by first | assumption | exact (by assumption : Sub _ _) _ _ (by assumption) | exact (Sub.trans (by assumption) (by assumption)) _ _ (by assumption)) rfl)) ?_
      refine VL_still rfl rfl rfl (S_field (k := 2) Try.underlying36 rfl rfl ti34 rfl rfl) ?_
      refine VL_still rfl rfl rfl (S_loads (vs := [.int .i64 acts[i].s, .int .i64 acts[i].l]) Try.underlying34 rfl ti34 rfl rfl (Cells.trk (by repeat (first | exact Has.here | apply Has.there)) (by repeat (first | exact TakeR.here (by repeat (first | exact HeadR.nil | apply HeadR.cons)) | apply TakeR.there)))) ?_
      refine VL_eff rfl (E_call rfl rfl rfl Try.call25 (rput_k vl _ hh24 (hL.sub hs24) (by omega) acts[i].key acts[i].s acts[i].l 0 top hgu) (by repeat (first | exact Split.nil | exact Pick.here | apply Pick.there | apply Split.cons))) ?_
      rintro _ hh30 _ ⟨v30, nb30, ⟨rfl, hL2⟩, hs30, rfl, rfl⟩
      refine VL_still rfl rfl rfl (S_assign rfl) ?_
      refine VL_nil ?_
      refine VQ_block_normal ?_
      refine VQ_then ?_
      refine V_region ?_
      first | refine VL_still rfl rfl rfl (S_addi rfl rfl (by omega) (by omega)) ?_ | refine VL_still rfl rfl rfl (S_add rfl rfl) ?_
      refine VL_still rfl rfl rfl (S_move rfl) ?_
      refine VL_nil ?_
      refine VQ_mid (i + 1, hh30, b2, v30) ⟨⟨by omega, hs1.trans (hs24.trans hs30), by rw [hsn, hst]; exact hT2.sub hs30, by rw [hsn, hst]; exact hL2⟩, by simp only; omega⟩ (by repeat (first | exact trivial | refine ⟨rfl, ?_⟩)) rfl (by repeat (first | exact SubB.nil | exact Pick.here | apply Pick.there | apply SubB.emp | apply SubB.cons))
    · skip
      have hk : ¬ acts[i].k = 0 := of_decide_eq_false hc18
      have hst : stepP (growP (acts.take i)) acts[i] = delP (growP (acts.take i)) acts[i].key := if_neg hk
      refine V_seq ?_
      refine V_region ?_
      refine VL_still rfl rfl rfl (S_move rfl) ?_
      refine VL_still rfl rfl rfl (S_field (k := 1) Try.underlying36 rfl rfl ti23 rfl rfl) ?_
      first | refine VL_still rfl rfl rfl (S_load Try.underlying23 rfl rfl (Cell.trk (by repeat (first | exact Has.here | apply Has.there)) rfl)) ?_ | refine VL_still rfl rfl rfl (S_load Try.underlying23 rfl rfl (Cell.known (by first | assumption | exact (by assumption : Sub _ _) _ _ (by assumption) | exact (Sub.trans (by assumption) (by assumption)) _ _ (by assumption)) rfl)) ?_
      refine VL_eff rfl (E_call rfl rfl rfl Try.call21 (tdel_con b _ hh hT acts[i].key k0 k1 (by omega)) (by repeat (first | exact Split.nil | exact Pick.here | apply Pick.there | apply Split.cons))) ?_
      rintro _ hh34 _ ⟨v34, nb34, ⟨rfl, b2, rfl, hT2⟩, hs34, rfl, rfl⟩
      refine VL_still rfl rfl rfl (S_assign rfl) ?_
      refine VL_nil ?_
      refine VQ_then ?_
      refine V_region ?_
      refine VL_still rfl rfl rfl (S_move rfl) ?_
      refine VL_still rfl rfl rfl (S_field (k := 1) Try.underlying36 rfl rfl ti23 rfl rfl) ?_
      first | refine VL_still rfl rfl rfl (S_load Try.underlying23 rfl rfl (Cell.trk (by repeat (first | exact Has.here | apply Has.there)) rfl)) ?_ | refine VL_still rfl rfl rfl (S_load Try.underlying23 rfl rfl (Cell.known (by first | assumption | exact (by assumption : Sub _ _) _ _ (by assumption) | exact (Sub.trans (by assumption) (by assumption)) _ _ (by assumption)) rfl)) ?_
      refine VL_eff rfl (E_call rfl rfl rfl Try.call26 (rdel_k vl _ hh34 (hL.sub hs34) (by omega) acts[i].key) (by repeat (first | exact Split.nil | exact Pick.here | apply Pick.there | apply Split.cons))) ?_
      rintro _ hh38 _ ⟨v38, nb38, ⟨rfl, hL2⟩, hs38, rfl, rfl⟩
      refine VL_still rfl rfl rfl (S_assign rfl) ?_
      refine VL_nil ?_
      refine VQ_block_normal ?_
      refine VQ_then ?_
      refine V_region ?_
      first | refine VL_still rfl rfl rfl (S_addi rfl rfl (by omega) (by omega)) ?_ | refine VL_still rfl rfl rfl (S_add rfl rfl) ?_
      refine VL_still rfl rfl rfl (S_move rfl) ?_
      refine VL_nil ?_
      refine VQ_mid (i + 1, hh38, b2, v38) ⟨⟨by omega, hs1.trans (hs34.trans hs38), by rw [hsn, hst]; exact hT2.sub hs38, by rw [hsn, hst]; exact hL2⟩, by simp only; omega⟩ (by repeat (first | exact trivial | refine ⟨rfl, ?_⟩)) rfl (by repeat (first | exact SubB.nil | exact Pick.here | apply Pick.there | apply SubB.emp | apply SubB.cons))
  · skip
    have hge : i = acts.length := by
      have := of_decide_eq_false hc13
      omega
    subst hge
    rw [List.take_length] at hT hL
    refine V_exit ?_
    refine VQ_then_exit ?_
    refine VQ_then_exit ?_
    refine VQ_block_exit ?_
    refine VQ_then ?_
    refine V_seq ?_
    refine V_region ?_
    refine VL_still rfl rfl rfl (S_move rfl) ?_
    refine VL_still rfl rfl rfl (S_move rfl) ?_
    refine VL_still rfl rfl rfl (S_assign rfl) ?_
    refine VL_still rfl rfl rfl (S_assign rfl) ?_
    refine VL_nil ?_
    refine VQ_then ?_
    refine V_ret ?_
    refine VQ_fin2 (nb := []) (by first | exact .inl rfl | exact .inr rfl) rfl (RV_tmp rfl) (RV_tmp rfl) ?sb ?po
    case po =>
      exact ⟨rfl, b, vl, rfl, hT, hL⟩
    case sb => exact (by repeat (first | exact SubB.nil | exact Pick.here | apply Pick.there | apply SubB.emp | apply SubB.cons))

end Go.Proofs.Ytdglignjoojimaa

/- What the laws' arguments read. No conditions. -/
set_option linter.unusedVariables false
set_option linter.unusedSimpArgs false
namespace Go.Proofs.Ytdglignjoojimaa

open Go.ChangeShapes Go.WideShapes Go.ChangeAt Go.RowKit
theorem Try.own : ownKnob Try.prog.godebug = none := by kernel_rfl
theorem Try.kids : Go.Kids Try.prog (· < Try.prog.types.size) := kids_rows (by kernel_rfl) (by kernel_rfl)
theorem Try.full : ∀ t e, t < Try.prog.types.size → Try.prog.underlying t = some (.slice e) → 0 < Try.prog.cellsOf e := slices_full_of Try.prog (by kernel_rfl)
theorem Try.cellsAct : Try.prog.cellsOf 36 = 4 := by kernel_rfl
theorem Try.cellsExt : Try.prog.cellsOf 34 = 2 := by kernel_rfl
theorem Try.cellsInt : Try.prog.cellsOf 3 = 1 := by kernel_rfl
theorem Try.cellsU : Try.prog.cellsOf 23 = 1 := by kernel_rfl
theorem u64_wf {n : Int} (h : (Lit.int .u64 n).wf = true) : 0 ≤ n ∧ n < top := by
  simp [Lit.wf, IntKind.min, IntKind.max, IntKind.signed, IntKind.bits] at h
  unfold top
  omega
section
variable {H : Type} {enc : TypeId × Value → H} {W : World} {sp : Nat → Bool} {held : Bool}
theorem int_at {n : Nat} {cs : List Value} {x : DataW H × List MemPlace} (h : DataW.trod enc Try.prog W 0 sp held n 3 cs = some x) : ∃ a, cs = [.int .i64 a] :=
  let ⟨a, e, _⟩ := DataW.trod_int Try.underlying3 h
  ⟨a, e⟩
theorem u64_at {n : Nat} {cs : List Value} {x : DataW H × List MemPlace} (h : DataW.trod enc Try.prog W 0 sp held n 23 cs = some x) : ∃ a, cs = [.int .u64 a] ∧ 0 ≤ a ∧ a < top :=
  let ⟨a, e, _, w⟩ := DataW.trod_int Try.underlying23 h
  ⟨a, e, u64_wf w⟩
theorem some_of {α : Type} {xs : List α} {i : Nat} {o : Option α} (h : o = xs[i]?) (hi : i < xs.length) : ∃ y, o = some y := ⟨xs[i], by rw [h, List.getElem?_eq_getElem hi]⟩
set_option maxRecDepth 100000 in
theorem ext_at {n : Nat} {c2 c3 : Value} {x : DataW H × List MemPlace} (h2 : DataW.trod enc Try.prog W 0 sp held n 34 [c2, c3] = some x) : ∃ a b, c2 = .int .i64 a ∧ c3 = .int .i64 b := by
  obtain ⟨ys, m', _, _, hl', hx', hf'⟩ := DataW.trod_struct Try.underlying34 h2
  have q0 : DataW.trod enc Try.prog W 0 sp held m' 3 (List.take (Try.prog.cellsOf 3) (List.drop 0 [c2, c3])) = ys[0]? := hf' 0 _ rfl
  have q1 : DataW.trod enc Try.prog W 0 sp held m' 3 (List.take (Try.prog.cellsOf 3) (List.drop 1 [c2, c3])) = ys[1]? := hf' 1 _ rfl
  obtain ⟨z0, k0⟩ := some_of q0 (by rw [hx']; decide)
  obtain ⟨z1, k1⟩ := some_of q1 (by rw [hx']; decide)
  simp only [Try.cellsInt, List.drop_zero, List.drop_succ_cons, List.take_succ_cons, List.take_zero] at k0 k1
  obtain ⟨a2, e2⟩ := int_at k0
  obtain ⟨a3, e3⟩ := int_at k1
  simp only [List.cons.injEq, and_true] at e2 e3
  exact ⟨a2, a3, e2, e3⟩
abbrev AcO := {a : Ac // OkA a}
def aco (a : AcO) : List Value := ac a.1
theorem acoE : Enc aco 4 := ⟨fun _ => rfl, fun _ => rfl⟩
set_option maxRecDepth 100000 in
theorem act_at {n : Nat} {cs : List Value} {x : DataW H × List MemPlace} (h : DataW.trod enc Try.prog W 0 sp held n 36 cs = some x) : ∃ a : AcO, cs = aco a := by
  obtain ⟨xs, m, _, _, hl, hx, hf⟩ := DataW.trod_struct Try.underlying36 h
  rw [Try.cellsAct] at hl
  match cs, hl with
  | [c0, c1, c2, c3], _ =>
  have g0 : DataW.trod enc Try.prog W 0 sp held m 3 (List.take (Try.prog.cellsOf 3) (List.drop 0 [c0, c1, c2, c3])) = xs[0]? := hf 0 _ rfl
  have g1 : DataW.trod enc Try.prog W 0 sp held m 23 (List.take (Try.prog.cellsOf 23) (List.drop 1 [c0, c1, c2, c3])) = xs[1]? := hf 1 _ rfl
  have g2 : DataW.trod enc Try.prog W 0 sp held m 34 (List.take (Try.prog.cellsOf 34) (List.drop 2 [c0, c1, c2, c3])) = xs[2]? := hf 2 _ rfl
  obtain ⟨y0, h0⟩ := some_of g0 (by rw [hx]; decide)
  obtain ⟨y1, h1⟩ := some_of g1 (by rw [hx]; decide)
  obtain ⟨y2, h2⟩ := some_of g2 (by rw [hx]; decide)
  simp only [Try.cellsInt, Try.cellsU, Try.cellsExt, List.drop_zero, List.drop_succ_cons, List.take_succ_cons, List.take_zero] at h0 h1 h2
  obtain ⟨a0, e0⟩ := int_at h0
  obtain ⟨a1, e1, w1⟩ := u64_at h1
  obtain ⟨a2, a3, e2, e3⟩ := ext_at h2
  simp only [List.cons.injEq, and_true] at e0 e1
  subst e0 e1 e2 e3
  exact ⟨⟨⟨a0, a1, a2, a3⟩, w1⟩, rfl⟩
set_option maxRecDepth 100000 in
theorem open_agg {r : Reach} {b0 : Nat} {t : TypeId} {fs : Array Field} {v : Value} {d : DataW H} {ps : List MemPlace} (ht : Try.prog.underlying t = some (.struct fs)) (hval : Value.okWide Try.prog W r b0 t v) (hd : DataW.Trod enc Try.prog W 0 sp held t v d ps) :
    ∃ cs : List Value, v = .agg cs.toArray ∧ ∃ n, DataW.trod enc Try.prog W 0 sp held n t cs = some (d, ps) := by
  unfold Value.okWide at hval
  rw [ht] at hval
  obtain ⟨cs, rfl, _⟩ := hval
  obtain ⟨fuel, hf⟩ := hd
  exact ⟨cs.toList, by simp, fuel, hf⟩
/-- What was done, read. -/
theorem acts_of {h : Hp} {v : Value} {l : List AcO} (s : SlR h [] v l.length (l.flatMap aco) 4) : ∃ acts : List Ac, AL h v acts ∧ ∀ a ∈ acts, OkA a := by
  refine ⟨l.map (fun a => a.1), ?_, fun a ha => ?_⟩
  · show SlR h [] v (l.map (fun a => a.1)).length ((l.map (fun a => a.1)).flatMap ac) 4
    rw [List.length_map, List.flatMap_map]
    exact s
  · obtain ⟨x, _, rfl⟩ := List.mem_map.1 ha
    exact x.2
end

end Go.Proofs.Ytdglignjoojimaa

/- The plain law of trees, part 8: what the laws say of pairs. No program in sight. No conditions. -/
set_option linter.unusedVariables false
set_option linter.unusedSimpArgs false
namespace Go.Proofs.Ytdglignjoojimaa

theorem ins_look (l : List Pr) (k : Int) (v : Int × Int) : lookP (insP l k v) k = some v := by
  unfold lookP insP
  rw [find_none_left (fun p hp => by have := (List.mem_filter.1 hp).2; simp at this; omega), List.find?_cons_of_pos (by simp)]; rfl
theorem del_look (l : List Pr) (k : Int) : lookP (delP l k) k = none := by
  unfold lookP delP
  rw [List.find?_eq_none.2 (fun p hp => by have := (List.mem_filter.1 hp).2; simpa using this)]; rfl
theorem ins_ge {l : List Pr} {k lo hi : Int} {v : Int × Int} (h : Up lo hi (keysP l)) : l.length ≤ (insP l k v).length := by
  rw [insP_len h]; split <;> omega
theorem filt2 (l : List Pr) (f g : Pr → Bool) : (l.filter f).filter g = l.filter (fun p => g p && f p) := by rw [List.filter_filter]
theorem filt_congr {l : List Pr} {f g : Pr → Bool} (h : ∀ p, f p = g p) : l.filter f = l.filter g := List.filter_congr fun p _ => h p
theorem ins_lt (l : List Pr) {a b : Int} (v u : Int × Int) (h : a < b) : insP (insP l a v) b u = insP (insP l b u) a v := by
  have e1 : insP (insP l a v) b u = l.filter (fun p => decide (p.1 < a)) ++ (a, v) :: l.filter (fun p => decide (a < p.1) && decide (p.1 < b)) ++ (b, u) :: l.filter (fun p => decide (b < p.1)) := by
    unfold insP
    rw [List.filter_append, List.filter_append, List.filter_cons_of_pos (by simpa using h), List.filter_cons_of_neg (by simp; omega), filt2, filt2, filt2, filt2]
    rw [filt_congr (g := fun p => decide (p.1 < a)) (fun p => by by_cases h1 : p.1 < a <;> by_cases h2 : p.1 < b <;> simp [h1, h2] <;> omega)]
    rw [filt_congr (f := fun p => decide (p.1 < b) && decide (a < p.1)) (g := fun p => decide (a < p.1) && decide (p.1 < b)) (fun p => Bool.and_comm _ _)]
    rw [filter_no (l := l) (p := fun p => decide (b < p.1) && decide (p.1 < a)) (fun p _ => by by_cases h1 : p.1 < a <;> by_cases h2 : b < p.1 <;> simp [h1, h2] <;> omega)]
    rw [filt_congr (f := fun p => decide (b < p.1) && decide (a < p.1)) (g := fun p => decide (b < p.1)) (fun p => by by_cases h1 : a < p.1 <;> by_cases h2 : b < p.1 <;> simp [h1, h2] <;> omega)]
    simp
  have e2 : insP (insP l b u) a v = l.filter (fun p => decide (p.1 < a)) ++ (a, v) :: l.filter (fun p => decide (a < p.1) && decide (p.1 < b)) ++ (b, u) :: l.filter (fun p => decide (b < p.1)) := by
    unfold insP
    rw [List.filter_append, List.filter_append, List.filter_cons_of_neg (by simp; omega), List.filter_cons_of_pos (by simpa using h), filt2, filt2, filt2, filt2]
    rw [filt_congr (f := fun p => decide (p.1 < a) && decide (p.1 < b)) (g := fun p => decide (p.1 < a)) (fun p => by by_cases h1 : p.1 < a <;> by_cases h2 : p.1 < b <;> simp [h1, h2] <;> omega)]
    rw [filter_no (l := l) (p := fun p => decide (p.1 < a) && decide (b < p.1)) (fun p _ => by by_cases h1 : p.1 < a <;> by_cases h2 : b < p.1 <;> simp [h1, h2] <;> omega)]
    rw [filt_congr (f := fun p => decide (a < p.1) && decide (b < p.1)) (g := fun p => decide (b < p.1)) (fun p => by by_cases h1 : a < p.1 <;> by_cases h2 : b < p.1 <;> simp [h1, h2] <;> omega)]
    simp
  rw [e1, e2]
theorem ins_comm (l : List Pr) {a b : Int} (v u : Int × Int) (h : a ≠ b) : insP (insP l a v) b u = insP (insP l b u) a v := by
  rcases Int.lt_or_gt_of_ne h with h | h
  · exact ins_lt l v u h
  · exact (ins_lt l u v h).symm
theorem del_split : ∀ {l : List Pr} {k lo hi : Int}, Up lo hi (keysP l) → delP l k = l.filter (fun p => decide (p.1 < k)) ++ l.filter (fun p => decide (k < p.1))
  | [], _, _, _, _ => rfl
  | p :: l, k, lo, hi, h => by
    obtain ⟨h1, h2, h3⟩ : lo ≤ p.1 ∧ p.1 < hi ∧ Up (p.1 + 1) hi (keysP l) := h
    have ih := del_split (k := k) h3
    unfold delP at ih ⊢
    rcases Int.lt_trichotomy p.1 k with hk | hk | hk
    · rw [List.filter_cons_of_pos (by simp; omega), List.filter_cons_of_pos (by simpa using hk), List.filter_cons_of_neg (by simp; omega), ih]; rfl
    · rw [List.filter_cons_of_neg (by simpa using hk), List.filter_cons_of_neg (by simp; omega), List.filter_cons_of_neg (by simp; omega), ih]
    · have hno : l.filter (fun q => decide (q.1 < k)) = [] := filter_no fun q hq => by
        have := h3.mem (x := q.1) (List.mem_map.2 ⟨q, hq, rfl⟩); simp; omega
      rw [List.filter_cons_of_pos (by simp; omega), List.filter_cons_of_neg (by simp; omega), List.filter_cons_of_pos (by simpa using hk), ih, hno]; rfl
theorem del_ins {l : List Pr} {k lo hi : Int} (v : Int × Int) (h : Up lo hi (keysP l)) : delP (insP l k v) k = delP l k := by
  rw [del_split h]
  unfold delP insP
  rw [List.filter_append, List.filter_cons_of_neg (by simp), filter_all (l := l.filter (fun p => decide (p.1 < k))) (fun p hp => by have := (List.mem_filter.1 hp).2; simp at this ⊢; omega), filter_all (l := l.filter (fun p => decide (k < p.1))) (fun p hp => by have := (List.mem_filter.1 hp).2; simp at this ⊢; omega)]
theorem Up.adj {l : List Pr} {lo hi : Int} (h : Up lo hi (keysP l)) {i : Nat} (hi' : i + 1 < l.length) : l[i].1 < l[i + 1].1 := by
  have := h.get_lt (i := i) (j := i + 1) (by omega) (by simpa [keysP] using hi')
  simpa [keysP] using this
end Go.Proofs.Ytdglignjoojimaa

/- The plain law of trees, part 9: which nodes are right, read as the reference reads them. No program in sight. No conditions. -/
set_option linter.unusedVariables false
set_option linter.unusedSimpArgs false
namespace Go.Proofs.Ytdglignjoojimaa

def riseB : List Int → Bool
  | x :: y :: r => decide (x < y) && riseB (y :: r)
  | _ => true
def formB (x : Nd) (root : Bool) : Bool :=
  decide (x.keys.length ≤ 7) && (root || decide (3 ≤ x.keys.length)) && riseB x.keys &&
    (if x.kids.length = 0 then decide (x.vals.length = x.keys.length) else decide (x.vals.length = 0) && decide (x.kids.length = x.keys.length + 1) && decide (2 ≤ x.kids.length))
/-- Is a key between those beside the kid i? -/
def inB (keys : List Int) (i : Nat) (x : Int) : Bool := (decide (i = 0) || decide (keys.getD (i - 1) 0 ≤ x)) && (decide (keys.length ≤ i) || decide (x < keys.getD i 0))
def segIn (L : List Nd) (keys : List Int) (i a m : Nat) : Bool := ((L.drop a).take m).all fun x => x.keys.all (inB keys i)
def rdK (f : Nat → Option (Nat × Nat × Tr)) (L : List Nd) (keys : List Int) (a : Nat) : List Int → Nat → Nat → Option Nat → List Tr → Option (Nat × Option Nat × List Tr)
  | [], _, size, deep, ts => some (size, deep, ts)
  | kid :: r, i, size, deep, ts =>
    if kid = ((a + size : Nat) : Int) then
      match f (a + size) with
      | none => none
      | some (m, d, t) => if deep = none ∨ deep = some d then (if segIn L keys i (a + size) m then rdK f L keys a r (i + 1) (size + m) (some d) (ts ++ [t]) else none) else none
    else none
/-- The tree of the nodes from a place on: how many they are, how deep, which tree. -/
def rdT : Nat → List Nd → Nat → Option (Nat × Nat × Tr)
  | 0, _, _ => none
  | n + 1, L, a =>
    match L[a]? with
    | none => none
    | some x =>
      if formB x (decide (a = 0)) then
        if x.kids.length = 0 then some (1, 0, .leaf (x.keys.zip x.vals))
        else match rdK (rdT n L) L x.keys a x.kids 0 1 none [] with
          | none => none
          | some (size, deep, ts) => some (size, deep.getD 0 + 1, .node x.keys ts)
      else none
theorem rdT_s (n : Nat) (L : List Nd) (a : Nat) : rdT (n + 1) L a = match L[a]? with
    | none => none
    | some x =>
      if formB x (decide (a = 0)) then
        if x.kids.length = 0 then some (1, 0, .leaf (x.keys.zip x.vals))
        else match rdK (rdT n L) L x.keys a x.kids 0 1 none [] with
          | none => none
          | some (size, deep, ts) => some (size, deep.getD 0 + 1, .node x.keys ts)
      else none := rfl
/-- What the kids' loop tells, where it ends well: of each kid, one behind the other. -/
inductive Kds (f : Nat → Option (Nat × Nat × Tr)) (L : List Nd) (keys : List Int) (a d : Nat) : List Int → Nat → Nat → Nat → List Tr → Prop
  | nil {i size : Nat} : Kds f L keys a d [] i size size []
  | cons {kid : Int} {r : List Int} {i size size' m : Nat} {t : Tr} {ts : List Tr} : kid = ((a + size : Nat) : Int) → f (a + size) = some (m, d, t) → segIn L keys i (a + size) m = true →
      Kds f L keys a d r (i + 1) (size + m) size' ts → Kds f L keys a d (kid :: r) i size size' (t :: ts)
theorem rdK_spec {f : Nat → Option (Nat × Nat × Tr)} {L : List Nd} {keys : List Int} {a : Nat} : ∀ {kids : List Int} {i size : Nat} {deep : Option Nat} {ts : List Tr} {size' : Nat} {deep' : Option Nat} {ts' : List Tr},
    rdK f L keys a kids i size deep ts = some (size', deep', ts') → ∃ us, ts' = ts ++ us ∧ ((kids = [] ∧ deep' = deep ∧ us = [] ∧ size' = size) ∨ ∃ d, deep' = some d ∧ (deep = none ∨ deep = some d) ∧ kids ≠ [] ∧ Kds f L keys a d kids i size size' us)
  | [], i, size, deep, ts, size', deep', ts', h => by
    simp only [rdK, Option.some.injEq, Prod.mk.injEq] at h
    obtain ⟨rfl, rfl, rfl⟩ := h
    exact ⟨[], by simp, .inl ⟨rfl, rfl, rfl, rfl⟩⟩
  | kid :: r, i, size, deep, ts, size', deep', ts', h => by
    unfold rdK at h
    split at h
    · rename_i hk
      split at h
      · cases h
      · rename_i m d t hf
        split at h
        · rename_i hd
          split at h
          · rename_i hs
            obtain ⟨us, e, hc⟩ := rdK_spec h
            refine ⟨t :: us, by rw [e]; simp, .inr ?_⟩
            rcases hc with ⟨rfl, rfl, rfl, rfl⟩ | ⟨d', e1, e2, _, hc⟩
            · exact ⟨d, rfl, hd, by simp, .cons hk hf hs .nil⟩
            · have : d = d' := by rcases e2 with e2 | e2; · cases e2
                                  · exact Option.some.inj e2
              subst this
              exact ⟨d, e1, hd, by simp, .cons hk hf hs hc⟩
          · cases h
        · cases h
    · cases h
theorem rdK_of {f : Nat → Option (Nat × Nat × Tr)} {L : List Nd} {keys : List Int} {a d : Nat} : ∀ {kids : List Int} {i size size' : Nat} {us : List Tr} {deep : Option Nat} {ts : List Tr},
    Kds f L keys a d kids i size size' us → kids ≠ [] → (deep = none ∨ deep = some d) → rdK f L keys a kids i size deep ts = some (size', some d, ts ++ us)
  | [], _, _, _, _, _, _, _, hne, _ => absurd rfl hne
  | kid :: r, i, size, size', _, deep, ts, .cons (t := t) (ts := us) (m := m) hk hf hs hc, _, hd => by
    unfold rdK
    rw [if_pos hk, hf]
    simp only
    rw [if_pos hd, if_pos hs]
    cases r with
    | nil => cases hc; simp [rdK]
    | cons k2 r => rw [rdK_of hc (by simp) (.inr rfl)]; simp
theorem rdT_leaf {n a m d : Nat} {L : List Nd} {t : Tr} (h : rdT (n + 1) L a = some (m, d, t)) : ∃ x, L[a]? = some x ∧ formB x (decide (a = 0)) = true ∧
    ((x.kids.length = 0 ∧ m = 1 ∧ d = 0 ∧ t = .leaf (x.keys.zip x.vals)) ∨ ∃ d' ts, x.kids.length ≠ 0 ∧ d = d' + 1 ∧ t = .node x.keys ts ∧ Kds (rdT n L) L x.keys a d' x.kids 0 1 m ts) := by
  rw [rdT_s] at h
  split at h
  · cases h
  · rename_i x hx
    split at h
    · rename_i hf
      refine ⟨x, hx, hf, ?_⟩
      split at h
      · rename_i hk
        simp only [Option.some.injEq, Prod.mk.injEq] at h
        exact .inl ⟨hk, h.1.symm, h.2.1.symm, h.2.2.symm⟩
      · rename_i hk
        split at h
        · cases h
        · rename_i size deep ts hr
          simp only [Option.some.injEq, Prod.mk.injEq] at h
          obtain ⟨rfl, rfl, rfl⟩ := h
          obtain ⟨us, e, hc⟩ := rdK_spec hr
          rcases hc with ⟨e0, _⟩ | ⟨d', e1, _, _, hc⟩
          · rw [e0] at hk; exact absurd rfl hk
          · rw [List.nil_append] at e
            subst e e1
            exact .inr ⟨d', ts, hk, rfl, rfl, hc⟩
    · cases h
theorem Kds.len {f : Nat → Option (Nat × Nat × Tr)} {L : List Nd} {keys : List Int} {a d : Nat} {kids : List Int} {i size size' : Nat} {ts : List Tr} (h : Kds f L keys a d kids i size size' ts) : ts.length = kids.length := by
  induction h with
  | nil => rfl
  | cons _ _ _ _ ih => simp [ih]
theorem Kds.le {f : Nat → Option (Nat × Nat × Tr)} {L : List Nd} {keys : List Int} {a d : Nat} {kids : List Int} {i size size' : Nat} {ts : List Tr} (h : Kds f L keys a d kids i size size' ts)
    (hf : ∀ b m d t, f b = some (m, d, t) → b + m ≤ L.length ∧ 1 ≤ m) (h0 : a + size ≤ L.length) : a + size' ≤ L.length ∧ size ≤ size' := by
  induction h with
  | nil => exact ⟨h0, Nat.le_refl _⟩
  | cons hk hf' hs hc ih =>
    have := hf _ _ _ _ hf'
    have := ih (by omega)
    omega
theorem rdT_le : ∀ {n a m d : Nat} {L : List Nd} {t : Tr}, rdT n L a = some (m, d, t) → a + m ≤ L.length ∧ 1 ≤ m
  | 0, a, m, d, L, t, h => by simp [rdT] at h
  | n + 1, a, m, d, L, t, h => by
    obtain ⟨x, hx, _, hc⟩ := rdT_leaf h
    have hlt := (List.getElem?_eq_some_iff.1 hx).1
    rcases hc with ⟨_, rfl, _⟩ | ⟨d', ts, _, _, _, hc⟩
    · omega
    · have := hc.le (fun b m d t h => rdT_le h) (by omega)
      omega
theorem formB_spec {x : Nd} {root : Bool} (h : formB x root = true) : x.keys.length ≤ 7 ∧ (root = true ∨ 3 ≤ x.keys.length) ∧ riseB x.keys = true ∧
    (x.kids.length = 0 → x.vals.length = x.keys.length) ∧ (x.kids.length ≠ 0 → x.vals.length = 0 ∧ x.kids.length = x.keys.length + 1 ∧ 2 ≤ x.kids.length) := by
  simp only [formB, Bool.and_eq_true, Bool.or_eq_true, decide_eq_true_eq] at h
  obtain ⟨⟨⟨h1, h2⟩, h3⟩, h4⟩ := h
  refine ⟨h1, h2, h3, fun hk => ?_, fun hk => ?_⟩
  · rw [if_pos hk] at h4; simpa using h4
  · rw [if_neg hk] at h4
    simp only [Bool.and_eq_true, decide_eq_true_eq] at h4
    exact ⟨h4.1.1, h4.1.2, h4.2⟩
theorem rise_up : ∀ {l : List Int} {lo hi : Int}, riseB l = true → (∀ x ∈ l, lo ≤ x ∧ x < hi) → Up lo hi l
  | [], _, _, _, _ => trivial
  | [x], lo, hi, _, h => by have := h x (by simp); exact ⟨this.1, this.2, trivial⟩
  | x :: y :: r, lo, hi, hr, h => by
    simp only [riseB, Bool.and_eq_true, decide_eq_true_eq] at hr
    have hx := h x (by simp)
    have hy := h y (by simp)
    have ih := rise_up (lo := lo) (hi := hi) hr.2 (fun z hz => h z (List.mem_cons_of_mem _ hz))
    exact ⟨hx.1, hx.2, by omega, hy.2, ih.2.2⟩
theorem up_rise : ∀ {l : List Int} {lo hi : Int}, Up lo hi l → riseB l = true
  | [], _, _, _ => rfl
  | [x], _, _, _ => rfl
  | x :: y :: r, lo, hi, ⟨_, _, h⟩ => by
    simp only [riseB, Bool.and_eq_true, decide_eq_true_eq]
    exact ⟨by have := h.1; omega, up_rise h⟩
/-- All keys of some nodes lie between. -/
def segB (L : List Nd) (a m : Nat) (lo hi : Int) : Prop := ∀ x ∈ (L.drop a).take m, ∀ k ∈ x.keys, lo ≤ k ∧ k < hi
theorem seg_sub {L : List Nd} {a m b k : Nat} (h : a ≤ b) (h2 : b + k ≤ a + m) : ∀ x ∈ (L.drop b).take k, x ∈ (L.drop a).take m := by
  intro x hx
  obtain ⟨j, hj, rfl⟩ := List.getElem_of_mem hx
  simp only [List.length_take, List.length_drop] at hj
  rw [List.getElem_take, List.getElem_drop]
  refine List.mem_of_getElem? (i := b - a + j) ?_
  rw [List.getElem?_take_of_lt (by omega), List.getElem?_drop, List.getElem?_eq_getElem (by omega)]
  congr 2
  omega
theorem segB.sub {L : List Nd} {a m b k : Nat} {lo hi : Int} (h : segB L a m lo hi) (h1 : a ≤ b) (h2 : b + k ≤ a + m) : segB L b k lo hi := fun x hx => h x (seg_sub h1 h2 x hx)
/-- The bounds of the kid i. -/
def lowK (keys : List Int) (lo : Int) (i : Nat) : Int := if i = 0 then lo else keys.getD (i - 1) 0
def highK (keys : List Int) (hi : Int) (i : Nat) : Int := if keys.length ≤ i then hi else keys.getD i 0
theorem seg_kid {L : List Nd} {keys : List Int} {i a m : Nat} {lo hi : Int} (h : segIn L keys i a m = true) (hb : segB L a m lo hi) : segB L a m (lowK keys lo i) (highK keys hi i) := by
  intro x hx k hk
  have h1 := hb x hx k hk
  have h2 := List.all_eq_true.1 (List.all_eq_true.1 h x hx) k hk
  simp only [inB, Bool.and_eq_true, Bool.or_eq_true, decide_eq_true_eq] at h2
  unfold lowK highK
  constructor
  · split
    · exact h1.1
    · rename_i hi'; exact h2.1.resolve_left hi'
  · split
    · exact h1.2
    · rename_i hi'; exact h2.2.resolve_left hi'
theorem seg_of {L : List Nd} {keys : List Int} {i a m : Nat} {lo hi : Int} (hb : segB L a m (lowK keys lo i) (highK keys hi i)) : segIn L keys i a m = true := by
  unfold segIn
  rw [List.all_eq_true]
  intro x hx
  rw [List.all_eq_true]
  intro k hk
  have h := hb x hx k hk
  unfold lowK highK at h
  simp only [inB, Bool.and_eq_true, Bool.or_eq_true, decide_eq_true_eq]
  constructor
  · by_cases h0 : i = 0
    · exact .inl h0
    · rw [if_neg h0] at h; exact .inr h.1
  · by_cases h0 : keys.length ≤ i
    · exact .inl h0
    · rw [if_neg h0] at h; exact .inr h.2
/-- Kids of which each is in order between its bounds, and not without keys, are a chain. -/
theorem chain_of {R : Int → Int → Tr → Prop} : ∀ {keys : List Int} {ts : List Tr} {lo hi : Int}, ts.length = keys.length + 1 → Up lo hi keys →
    (∀ (i : Nat) (hi' : i < ts.length), R (lowK keys lo i) (highK keys hi i) ts[i]) → (∀ (i : Nat) (hi' : i < keys.length), lowK keys lo i < highK keys hi i) → Ch R lo hi keys ts
  | [], ts, lo, hi, hl, _, hR, _ => by
    match ts, hl with
    | [t], _ => exact ⟨t, rfl, hR 0 (by simp)⟩
  | k :: ks, ts, lo, hi, hl, ⟨h1, h2, h3⟩, hR, hlt => by
    match ts, hl with
    | t :: ts, hl =>
      have hl' : ts.length = ks.length + 1 := by simpa using hl
      have h0 := hR 0 (by simp)
      have hl0 := hlt 0 (by simp)
      simp only [lowK, highK, if_true, List.length_cons, Nat.not_succ_le_zero, if_false, List.getD_cons_zero, List.getElem_cons_zero] at h0 hl0
      refine ⟨t, ts, rfl, hl0, h2, h0, chain_of hl' (h3.mono (by omega) (Int.le_refl _)) (fun i hi' => ?_) (fun i hi' => ?_)⟩
      · have := hR (i + 1) (by simpa using hi')
        simp only [lowK, highK, List.length_cons, List.getElem_cons_succ, Nat.add_sub_cancel, if_neg (Nat.succ_ne_zero i), Nat.add_le_add_iff_right, List.getD_cons_succ] at this ⊢
        cases i with
        | zero => simpa using this
        | succ i => simpa using this
      · have := hlt (i + 1) (by simpa using hi')
        simp only [lowK, highK, List.length_cons, Nat.add_sub_cancel, if_neg (Nat.succ_ne_zero i), Nat.add_le_add_iff_right, List.getD_cons_succ] at this ⊢
        cases i with
        | zero => simpa using this
        | succ i => simpa using this
theorem Kds.get {f : Nat → Option (Nat × Nat × Tr)} {L : List Nd} {keys : List Int} {a d : Nat} {kids : List Int} {i size size' : Nat} {ts : List Tr} (h : Kds f L keys a d kids i size size' ts)
    (hf : ∀ b m d t, f b = some (m, d, t) → b + m ≤ L.length ∧ 1 ≤ m) : ∀ (j : Nat) (hj : j < ts.length), ∃ b m, size ≤ b ∧ b + m ≤ size' ∧ f (a + b) = some (m, d, ts[j]) ∧ segIn L keys (i + j) (a + b) m = true := by
  induction h with
  | nil => intro j hj; simp at hj
  | cons hk hf' hs hc ih =>
    intro j hj
    have hle : ∀ {kids : List Int} {i size size' : Nat} {ts : List Tr}, Kds f L keys a d kids i size size' ts → size ≤ size' := by
      intro kids i size size' ts h
      induction h with
      | nil => exact Nat.le_refl _
      | cons _ _ _ _ ih => omega
    cases j with
    | zero => exact ⟨_, _, Nat.le_refl _, hle hc, hf', by simpa using hs⟩
    | succ j =>
      obtain ⟨b, m, h1, h2, h3, h4⟩ := ih j (by simpa using hj)
      exact ⟨b, m, by omega, h2, by simpa using h3, by rw [← Nat.add_right_comm] at h4; simpa [Nat.add_assoc] using h4⟩
/-- What is read is a tree, in order, of the right sizes. -/
theorem rd_ok : ∀ {n a m d : Nat} {L : List Nd} {t : Tr} {lo hi : Int}, rdT n L a = some (m, d, t) → segB L a m lo hi → In d lo hi t ∧ Kd d t ∧ nk t ≤ 7 ∧ (a ≠ 0 → 3 ≤ nk t) ∧ (d ≠ 0 → 1 ≤ nk t) ∧ (∀ k ∈ keysT t, lo ≤ k ∧ k < hi)
  | 0, a, m, d, L, t, lo, hi, h, _ => by simp [rdT] at h
  | n + 1, a, m, d, L, t, lo, hi, h, hb => by
    have hle := rdT_le h
    obtain ⟨x, hx, hf, hc⟩ := rdT_leaf h
    obtain ⟨f1, f2, f3, f4, f5⟩ := formB_spec hf
    have hlt := (List.getElem?_eq_some_iff.1 hx).1
    have hxm : x ∈ (L.drop a).take m := by
      refine List.mem_of_getElem? (i := 0) ?_
      rw [List.getElem?_take_of_lt (by omega), List.getElem?_drop]; exact hx
    have hkb := hb x hxm
    have hup := rise_up f3 hkb
    have ha3 : a ≠ 0 → 3 ≤ x.keys.length := fun h => f2.resolve_left (by simpa using h)
    rcases hc with ⟨k0, rfl, rfl, rfl⟩ | ⟨d', ts, k0, rfl, rfl, hc⟩
    · have hz : keysP (x.keys.zip x.vals) = x.keys := by
        unfold keysP
        exact List.map_fst_zip (by rw [f4 k0]; exact Nat.le_refl _)
      refine ⟨?_, trivial, ?_, ?_, fun h => absurd rfl h, ?_⟩
      · show Up lo hi (keysP _); rw [hz]; exact hup
      · show (keysP _).length ≤ 7; rw [hz]; exact f1
      · show a ≠ 0 → 3 ≤ (keysP _).length; rw [hz]; exact ha3
      · show ∀ k ∈ keysP _, _; rw [hz]; exact hkb
    · obtain ⟨g1, g2, g3⟩ := f5 k0
      have hlen := hc.len
      have hget := hc.get (fun b m d t h => rdT_le h)
      have hkid : ∀ (j : Nat) (hj : j < ts.length), In d' (lowK x.keys lo j) (highK x.keys hi j) ts[j] ∧ Kd d' ts[j] ∧ nk ts[j] ≤ 7 ∧ 3 ≤ nk ts[j] ∧ (∀ k ∈ keysT ts[j], lowK x.keys lo j ≤ k ∧ k < highK x.keys hi j) := by
        intro j hj
        obtain ⟨b, m', h1, h2, h3, h4⟩ := hget j hj
        rw [Nat.zero_add] at h4
        have := rd_ok h3 (seg_kid h4 (hb.sub (by omega) (by omega)))
        exact ⟨this.1, this.2.1, this.2.2.1, this.2.2.2.1 (by omega), this.2.2.2.2.2⟩
      refine ⟨chain_of (by omega) hup (fun i hi' => (hkid i hi').1) (fun i hi' => ?_), fun y hy => ?_, f1, ha3, fun _ => by show 1 ≤ x.keys.length; omega, hkb⟩
      · obtain ⟨_, _, _, h3, h4⟩ := hkid i (by omega)
        match hks : keysT ts[i], h3 with
        | k :: _, _ => have := h4 k (by rw [hks]; simp); omega
        | [], h3 => simp [nk, hks] at h3
      · obtain ⟨j, hj, rfl⟩ := List.getElem_of_mem hy
        obtain ⟨_, k2, k3, k4, _⟩ := hkid j hj
        exact ⟨k4, k3, k2⟩
theorem rd_flat : ∀ {n a m d : Nat} {L : List Nd} {t : Tr}, rdT n L a = some (m, d, t) → (flat d t).length ≤ 7 * m
  | 0, a, m, d, L, t, h => by simp [rdT] at h
  | n + 1, a, m, d, L, t, h => by
    obtain ⟨x, hx, hf, hc⟩ := rdT_leaf h
    obtain ⟨f1, f2, f3, f4, f5⟩ := formB_spec hf
    rcases hc with ⟨k0, rfl, rfl, rfl⟩ | ⟨d', ts, k0, rfl, rfl, hc⟩
    · rw [flat_0, List.length_zip]; omega
    · rw [flat_s]
      have key : ∀ {kids : List Int} {i size size' : Nat} {ts : List Tr}, Kds (rdT n L) L x.keys a d' kids i size size' ts → (ts.flatMap (flat d')).length + 7 * size ≤ 7 * size' := by
        intro kids i size size' ts h
        induction h with
        | nil => simp
        | cons hk hf' hs hc ih =>
          have := rd_flat hf'
          simp only [List.flatMap_cons, List.length_append]
          omega
      have := key hc
      omega
end Go.Proofs.Ytdglignjoojimaa

/- The plain law of trees, part 10: a tree's own nodes are read back as it. No program in sight. No conditions. -/
set_option linter.unusedVariables false
set_option linter.unusedSimpArgs false
namespace Go.Proofs.Ytdglignjoojimaa

theorem chain_get {R : Int → Int → Tr → Prop} : ∀ {keys : List Int} {ts : List Tr} {lo hi : Int}, Ch R lo hi keys ts → ∀ (i : Nat) (hi' : i < ts.length), R (lowK keys lo i) (highK keys hi i) ts[i] ∧ (lo ≤ lowK keys lo i ∧ highK keys hi i ≤ hi)
  | [], ts, lo, hi, ⟨t, e, h⟩, i, hi' => by
    subst e
    have : i = 0 := by simpa using hi'
    subst this
    exact ⟨h, Int.le_refl _, Int.le_refl _⟩
  | k :: ks, ts, lo, hi, ⟨t, ts', e, h1, h2, h3, h⟩, i, hi' => by
    subst e
    cases i with
    | zero =>
      simp only [lowK, highK, if_true, List.length_cons, Nat.not_succ_le_zero, if_false, List.getD_cons_zero, List.getElem_cons_zero]
      exact ⟨h3, Int.le_refl _, by omega⟩
    | succ i =>
      have := chain_get h i (by simpa using hi')
      simp only [lowK, highK, List.length_cons, List.getElem_cons_succ, Nat.add_sub_cancel, if_neg (Nat.succ_ne_zero i), Nat.add_le_add_iff_right, List.getD_cons_succ] at this ⊢
      cases i with
      | zero => simp only [if_true, List.getD_cons_zero] at this ⊢; exact ⟨this.1, by omega, this.2.2⟩
      | succ i => simp only [if_neg (Nat.succ_ne_zero i), Nat.add_sub_cancel, List.getD_cons_succ] at this ⊢; exact ⟨this.1, by omega, this.2.2⟩
/-- All keys of a tree's nodes lie between its bounds. -/
theorem keys_in : ∀ {d : Nat} {t : Tr} {lo hi : Int} {a : Nat}, In d lo hi t → ∀ x ∈ listT d t a, ∀ k ∈ x.keys, lo ≤ k ∧ k < hi
  | 0, .leaf l, lo, hi, a, h, x, hx, k, hk => by
    obtain rfl : x = ⟨keysP l, l.map (fun p => p.2), []⟩ := by simpa [listT] using hx
    exact Up.mem h hk
  | d + 1, .node ks ts, lo, hi, a, h, x, hx, k, hk => by
    have h : Ch (In d) lo hi ks ts := h
    rw [listT_s] at hx
    rcases List.mem_cons.1 hx with rfl | hx
    · have := h.seps.mem hk; omega
    · have key : ∀ (us : List Tr) (b : Nat), (∀ u ∈ us, u ∈ ts) → ∀ x ∈ (kidsT (listT d) us b).2, ∀ k ∈ x.keys, lo ≤ k ∧ k < hi := by
        intro us
        induction us with
        | nil => intro b _ x hx; simp [kidsT] at hx
        | cons u us ih =>
          intro b hu x hx k hk
          simp only [kidsT, List.mem_append] at hx
          rcases hx with hx | hx
          · obtain ⟨i, hi', e⟩ := List.getElem_of_mem (hu u (by simp))
            obtain ⟨c1, c2, c3⟩ := chain_get h i hi'
            rw [e] at c1
            have := keys_in c1 x hx k hk
            omega
          · exact ih _ (fun v hv => hu v (List.mem_cons_of_mem _ hv)) x hx k hk
      exact key ts (a + 1) (fun u hu => hu) x hx k hk
theorem zip_self (l : List Pr) : (keysP l).zip (l.map (fun p => p.2)) = l := by
  unfold keysP
  induction l with
  | nil => rfl
  | cons p l ih => simp [ih]
theorem drop_head {L : List Nd} {a : Nat} {x : Nd} {r : List Nd} (h : L.drop a = x :: r) : L[a]? = some x ∧ L.drop (a + 1) = r := by
  constructor
  · have := congrArg (fun l => l[0]?) h
    simpa using this
  · have := congrArg (List.drop 1) h
    simpa [List.drop_drop, Nat.add_comm] using this
theorem drop_app {L : List Nd} {a : Nat} {p r : List Nd} (h : L.drop a = p ++ r) : L.drop (a + p.length) = r ∧ (L.drop a).take p.length = p := by
  constructor
  · rw [← List.drop_drop, h, List.drop_left]
  · rw [h, List.take_left]
theorem rd_back : ∀ {d : Nat} {t : Tr} {a n : Nat} {L rest : List Nd} {lo hi : Int}, In d lo hi t → Kd d t → nk t ≤ 7 → (a = 0 ∨ 3 ≤ nk t) → (d ≠ 0 → 1 ≤ nk t) → L.drop a = listT d t a ++ rest → L.length < n + a → rdT n L a = some ((listT d t a).length, d, t)
  | d, t, a, 0, L, rest, lo, hi, h, hk, h7, h3, h1, hL, hn => by
    have e : L.drop a = [] := List.drop_of_length_le (by omega)
    rw [e] at hL
    have hne : listT d t a = [] := (List.append_eq_nil_iff.1 hL.symm).1
    cases d with
    | zero => cases t with
      | leaf l => simp [listT] at hne
      | node ks ts => exact absurd h (by simp [In])
    | succ d => cases t with
      | leaf l => exact absurd h (by simp [In])
      | node ks ts => rw [listT_s] at hne; cases hne
  | 0, .leaf l, a, n + 1, L, rest, lo, hi, h, hk, h7, h3, h1, hL, hn => by
    have h : Up lo hi (keysP l) := h
    have h7 : (keysP l).length ≤ 7 := h7
    have h3 : a = 0 ∨ 3 ≤ (keysP l).length := h3
    rw [listT_0] at hL ⊢
    obtain ⟨hx, _⟩ := drop_head hL
    rw [rdT_s]
    simp only [hx]
    have hf : formB ⟨keysP l, l.map (fun p => p.2), []⟩ (decide (a = 0)) = true := by
      simp only [formB, Bool.and_eq_true, Bool.or_eq_true, decide_eq_true_eq, List.length_nil, if_true]
      exact ⟨⟨⟨h7, h3⟩, up_rise h⟩, by simp [keysP]⟩
    rw [if_pos hf]
    simp only [List.length_nil, if_true, zip_self, List.length_cons]
  | d + 1, .node ks ts, a, n + 1, L, rest, lo, hi, h, hk, h7, h3, h1, hL, hn => by
    have h : Ch (In d) lo hi ks ts := h
    have h7 : ks.length ≤ 7 := h7
    have h3 : a = 0 ∨ 3 ≤ ks.length := h3
    have h1 : 1 ≤ ks.length := h1 (by omega)
    have hk : ∀ x ∈ ts, 3 ≤ nk x ∧ nk x ≤ 7 ∧ Kd d x := hk
    have hlen := h.len
    rw [listT_s] at hL ⊢
    rw [List.cons_append] at hL
    obtain ⟨hx, hrest⟩ := drop_head hL
    have hst := kidsT_len (listT d) ts (a + 1)
    rw [rdT_s]
    simp only [hx]
    have hf : formB ⟨ks, [], (kidsT (listT d) ts (a + 1)).1⟩ (decide (a = 0)) = true := by
      simp only [formB, Bool.and_eq_true, Bool.or_eq_true, decide_eq_true_eq, hst]
      rw [if_neg (by omega)]
      simp only [Bool.and_eq_true, decide_eq_true_eq, List.length_nil]
      exact ⟨⟨⟨h7, h3⟩, up_rise h.seps⟩, ⟨trivial, by omega⟩, by omega⟩
    rw [if_pos hf]
    rw [if_neg (by rw [hst]; omega)]
    have key : ∀ (us : List Tr) (i size : Nat) (r : List Nd), (∀ (j : Nat) (hj : j < us.length), ts[i + j]? = some us[j]) → 1 ≤ size → L.drop (a + size) = (kidsT (listT d) us (a + size)).2 ++ r →
        Kds (rdT n L) L ks a d (kidsT (listT d) us (a + size)).1 i size (size + (kidsT (listT d) us (a + size)).2.length) us := by
      intro us
      induction us with
      | nil => intro i size r _ _ _; exact .nil
      | cons u us ih =>
        intro i size r hu hsz hdr
        simp only [kidsT] at hdr ⊢
        rw [List.append_assoc] at hdr
        obtain ⟨d1, d2⟩ := drop_app hdr
        have hu0 := hu 0 (by simp)
        simp only [Nat.add_zero, List.getElem_cons_zero] at hu0
        obtain ⟨hlt, e⟩ := List.getElem?_eq_some_iff.1 hu0
        obtain ⟨c1, c2, c3⟩ := chain_get h i hlt
        rw [e] at c1
        have hku := hk u (List.mem_of_getElem? hu0)
        have hr := rd_back (n := n) c1 hku.2.2 hku.2.1 (.inr hku.1) (fun _ => by omega) hdr (by omega)
        have := ih (i + 1) (size + (listT d u (a + size)).length) r (fun j hj => by
          have := hu (j + 1) (by simpa using hj)
          rw [show i + 1 + j = i + (j + 1) by omega]
          simpa using this) (by omega) (by rw [← Nat.add_assoc]; exact d1)
        rw [← Nat.add_assoc] at this
        refine .cons rfl hr (seg_of (lo := lo) (hi := hi) fun x hx k hk' => ?_) ?_
        · rw [d2] at hx
          exact keys_in c1 x hx k hk'
        · rw [List.length_append, ← Nat.add_assoc]; exact this
    have hkds := key ts 0 1 rest (fun j hj => by rw [Nat.zero_add]; exact List.getElem?_eq_getElem hj) (Nat.le_refl _) hrest
    rw [rdK_of hkds (by intro e; rw [e] at hst; simp at hst; omega) (.inl rfl)]
    simp only [List.nil_append, Option.getD_some, List.length_cons]
    rw [Nat.add_comm 1]
/-- A whole tree, read back. -/
theorem TOk.back {d : Nat} {t : Tr} {l : List Pr} (h : TOk d t l) : rdT ((listT d t 0).length + 1) (listT d t 0) 0 = some ((listT d t 0).length, d, t) :=
  rd_back (rest := []) h.in_ h.kids h.few (.inl rfl) h.some_ (by simp) (by omega)
/-- What is read of all nodes is a whole tree. -/
theorem rd_tok {n m d : Nat} {L : List Nd} {t : Tr} (h : rdT n L 0 = some (m, d, t)) (hb : ∀ x ∈ L, ∀ k ∈ x.keys, 0 ≤ k ∧ k < top) : TOk d t (flat d t) := by
  obtain ⟨h1, h2, h3, _, h5, _⟩ := rd_ok (lo := 0) (hi := top) h (fun x hx => hb x (List.mem_of_mem_drop (List.mem_of_mem_take hx)))
  exact ⟨h1, h2, h3, h5, rfl⟩
end Go.Proofs.Ytdglignjoojimaa

/- The plain law of trees, part 11: what the program's reader accepts is what the reference reads. No program in sight. No conditions. -/
set_option linter.unusedVariables false
set_option linter.unusedSimpArgs false
namespace Go.Proofs.Ytdglignjoojimaa

def gdK (f : Nat → Option Nat → Int → Int → Option (Nat × Tr × Nat)) (keys : List Int) (lo hi : Int) (a : Nat) : List Int → Nat → Nat → Option Nat → List Tr → Option (Nat × Option Nat × List Tr)
  | [], _, size, dp, ts => some (size, dp, ts)
  | kid :: r, i, size, dp, ts =>
    if kid = ((a + size : Nat) : Int) then
      match f (a + size) dp (lowK keys lo i) (highK keys hi i) with
      | none => none
      | some (m, t, D) => gdK f keys lo hi a r (i + 1) (size + m) (some D) (ts ++ [t])
    else none
/-- The program's reader, where nothing is bad: how many nodes, which tree, where its leaves are. -/
def gdT : Nat → List Nd → Nat → Nat → Option Nat → Int → Int → Option (Nat × Tr × Nat)
  | 0, _, _, _, _, _, _ => none
  | n + 1, L, depth, a, dp, lo, hi =>
    match L[a]? with
    | none => none
    | some x =>
      if formB x (decide (a = 0)) then
        if x.keys.any (fun k => decide (k < lo) || decide (hi ≤ k)) then none
        else if x.kids.length = 0 then (if dp = none ∨ dp = some depth then some (1, .leaf (x.keys.zip x.vals), depth) else none)
        else match gdK (gdT n L (depth + 1)) x.keys lo hi a x.kids 0 1 dp [] with
          | none => none
          | some (size, dp', ts) => some (size, .node x.keys ts, dp'.getD 0)
      else none
theorem gdT_s (n : Nat) (L : List Nd) (depth a : Nat) (dp : Option Nat) (lo hi : Int) : gdT (n + 1) L depth a dp lo hi = match L[a]? with
    | none => none
    | some x =>
      if formB x (decide (a = 0)) then
        if x.keys.any (fun k => decide (k < lo) || decide (hi ≤ k)) then none
        else if x.kids.length = 0 then (if dp = none ∨ dp = some depth then some (1, .leaf (x.keys.zip x.vals), depth) else none)
        else match gdK (gdT n L (depth + 1)) x.keys lo hi a x.kids 0 1 dp [] with
          | none => none
          | some (size, dp', ts) => some (size, .node x.keys ts, dp'.getD 0)
      else none := rfl
theorem any_out {keys : List Int} {lo hi : Int} : keys.any (fun k => decide (k < lo) || decide (hi ≤ k)) = false ↔ ∀ k ∈ keys, lo ≤ k ∧ k < hi := by
  rw [List.any_eq_false]
  constructor
  · intro h k hk
    have := h k hk
    simp only [Bool.or_eq_true, decide_eq_true_eq, not_or] at this
    omega
  · intro h k hk
    have := h k hk
    simp only [Bool.or_eq_true, decide_eq_true_eq, not_or]
    omega
theorem seg_one {L : List Nd} {a : Nat} {x : Nd} (hx : L[a]? = some x) : (L.drop a).take 1 = [x] := by
  obtain ⟨h, e⟩ := List.getElem?_eq_some_iff.1 hx
  rw [List.drop_eq_getElem_cons h, List.take_succ_cons, List.take_zero, e]
theorem segB_head {L : List Nd} {a m : Nat} {x : Nd} {lo hi : Int} (hx : L[a]? = some x) (hm : 1 ≤ m) (h1 : ∀ k ∈ x.keys, lo ≤ k ∧ k < hi) (h2 : segB L (a + 1) (m - 1) lo hi) : segB L a m lo hi := by
  obtain ⟨hlt, e⟩ := List.getElem?_eq_some_iff.1 hx
  intro y hy
  rw [List.drop_eq_getElem_cons hlt, show m = m - 1 + 1 by omega, List.take_succ_cons, e] at hy
  rcases List.mem_cons.1 hy with rfl | hy
  · exact h1
  · exact h2 y hy
theorem segB_app {L : List Nd} {a m k : Nat} {lo hi : Int} (h1 : segB L a m lo hi) (h2 : segB L (a + m) k lo hi) : segB L a (m + k) lo hi := by
  intro y hy
  rw [List.take_add, List.drop_drop] at hy
  rcases List.mem_append.1 hy with hy | hy
  · exact h1 y hy
  · exact h2 y hy
theorem segB_widen {L : List Nd} {keys : List Int} {i a m : Nat} {lo hi : Int} (hk : ∀ k ∈ keys, lo ≤ k ∧ k < hi) (hi' : i ≤ keys.length) (h : segB L a m (lowK keys lo i) (highK keys hi i)) : segB L a m lo hi := by
  intro y hy k hk'
  have := h y hy k hk'
  unfold lowK highK at this
  constructor
  · by_cases h0 : i = 0
    · rw [if_pos h0] at this; exact this.1
    · rw [if_neg h0] at this
      have h1 : i - 1 < keys.length := by omega
      have h2 := hk (keys.getD (i - 1) 0) (by rw [List.getD_eq_getElem?_getD, List.getElem?_eq_getElem h1]; exact List.getElem_mem h1)
      omega
  · by_cases h0 : keys.length ≤ i
    · rw [if_pos h0] at this; exact this.2
    · rw [if_neg h0] at this
      have h1 : i < keys.length := by omega
      have h2 := hk (keys.getD i 0) (by rw [List.getD_eq_getElem?_getD, List.getElem?_eq_getElem h1]; exact List.getElem_mem h1)
      omega
theorem segB_nil {L : List Nd} {a : Nat} {lo hi : Int} : segB L a 0 lo hi := fun x hx => by simp at hx
/-- What the reader accepts, the reference reads. -/
theorem gd_rd : ∀ {n : Nat} {L : List Nd} {depth a : Nat} {dp : Option Nat} {lo hi : Int} {m D : Nat} {t : Tr}, gdT n L depth a dp lo hi = some (m, t, D) →
    ∃ d, rdT n L a = some (m, d, t) ∧ D = depth + d ∧ (dp = none ∨ dp = some D) ∧ segB L a m lo hi
  | 0, _, _, _, _, _, _, _, _, _, h => by simp [gdT] at h
  | n + 1, L, depth, a, dp, lo, hi, m, D, t, h => by
    rw [gdT_s] at h
    rw [rdT_s]
    cases hx : L[a]? with
    | none => rw [hx] at h; cases h
    | some x =>
      rw [hx] at h
      simp only at h ⊢
      by_cases hf : formB x (decide (a = 0)) = true
      · rw [if_pos hf] at h ⊢
        obtain ⟨f1, f2, f3, f4, f5⟩ := formB_spec hf
        cases ho : x.keys.any (fun k => decide (k < lo) || decide (hi ≤ k)) with
        | true => rw [ho] at h; simp at h
        | false =>
          rw [ho] at h
          rw [if_neg (by simp)] at h
          have hkb := any_out.1 ho
          by_cases hk : x.kids.length = 0
          · rw [if_pos hk] at h ⊢
            split at h
            · rename_i hd
              simp only [Option.some.injEq, Prod.mk.injEq] at h
              obtain ⟨rfl, rfl, rfl⟩ := h
              exact ⟨0, rfl, rfl, hd, fun y hy => by rw [seg_one hx] at hy; obtain rfl := List.mem_singleton.1 hy; exact hkb⟩
            · cases h
          · rw [if_neg hk] at h ⊢
            obtain ⟨g1, g2, g3⟩ := f5 hk
            -- the kids
            have key : ∀ (kids : List Int) (i size : Nat) (dp : Option Nat) (deep : Option Nat) (ts : List Tr) (size' : Nat) (dp' : Option Nat) (ts' : List Tr), i + kids.length ≤ x.keys.length + 1 → (deep = none ∨ ∃ d, deep = some d ∧ dp = some (depth + 1 + d)) →
                gdK (gdT n L (depth + 1)) x.keys lo hi a kids i size dp ts = some (size', dp', ts') →
                ∃ deep', rdK (rdT n L) L x.keys a kids i size deep ts = some (size', deep', ts') ∧ segB L (a + size) (size' - size) lo hi ∧ size ≤ size' ∧
                  ((kids = [] ∧ deep' = deep ∧ dp' = dp) ∨ ∃ d, deep' = some d ∧ dp' = some (depth + 1 + d) ∧ (dp = none ∨ dp = dp')) := by
              intro kids
              induction kids with
              | nil =>
                intro i size dp deep ts size' dp' ts' _ _ h
                simp only [gdK, Option.some.injEq, Prod.mk.injEq] at h
                obtain ⟨rfl, rfl, rfl⟩ := h
                refine ⟨deep, rfl, ?_, Nat.le_refl _, .inl ⟨rfl, rfl, rfl⟩⟩
                rw [Nat.sub_self]; exact segB_nil
              | cons kid r ih =>
                intro i size dp deep ts size' dp' ts' hi' hdeep h
                unfold gdK at h
                unfold rdK
                split at h
                · rename_i hkid
                  rw [if_pos hkid]
                  split at h
                  · cases h
                  · rename_i m1 t1 D1 hg
                    obtain ⟨d1, r1, r2, r3, r4⟩ := gd_rd hg
                    rw [r1]
                    simp only
                    have hdd : deep = none ∨ deep = some d1 := by
                      rcases hdeep with e | ⟨d, e, e2⟩
                      · exact .inl e
                      · right
                        rw [e2] at r3
                        rcases r3 with e3 | e3
                        · cases e3
                        · simp only [Option.some.injEq] at e3
                          rw [e]; congr 1; omega
                    rw [if_pos hdd, if_pos (seg_of r4)]
                    obtain ⟨deep', e1, e2, e3, e4⟩ := ih (i + 1) (size + m1) (some D1) (some d1) (ts ++ [t1]) size' dp' ts' (by simp at hi'; omega) (.inr ⟨d1, rfl, by rw [r2]⟩) h
                    have hw := segB_widen hkb (by simp at hi'; omega) r4
                    refine ⟨deep', e1, ?_, by omega, .inr ?_⟩
                    · have := segB_app hw (by rw [Nat.add_assoc]; exact e2)
                      rwa [show m1 + (size' - (size + m1)) = size' - size by omega] at this
                    · rcases e4 with ⟨_, e5, e6⟩ | ⟨d, e5, e6, e7⟩
                      · exact ⟨d1, e5, by rw [e6, r2], by rw [e6]; exact r3⟩
                      · refine ⟨d, e5, e6, ?_⟩
                        rcases e7 with e7 | e7
                        · cases e7
                        · rw [← e7]; exact r3
                · cases h
            cases hg : gdK (gdT n L (depth + 1)) x.keys lo hi a x.kids 0 1 dp [] with
            | none => rw [hg] at h; cases h
            | some q =>
              obtain ⟨size, dp', ts⟩ := q
              rw [hg] at h
              simp only [Option.some.injEq, Prod.mk.injEq] at h
              obtain ⟨rfl, rfl, rfl⟩ := h
              obtain ⟨deep', e1, e2, e3, e4⟩ := key x.kids 0 1 dp none [] size dp' ts (by omega) (.inl rfl) hg
              rw [e1]
              rcases e4 with ⟨e4, _⟩ | ⟨d, rfl, rfl, e4⟩
              · rw [e4] at hk; exact absurd rfl hk
              · exact ⟨d + 1, rfl, by simp; omega, e4, segB_head hx e3 hkb e2⟩
      · rw [if_neg hf] at h; cases h
/-- What the reference reads, the reader accepts. -/
theorem rd_gd : ∀ {n : Nat} {L : List Nd} {depth a : Nat} {dp : Option Nat} {lo hi : Int} {m d : Nat} {t : Tr}, rdT n L a = some (m, d, t) → (dp = none ∨ dp = some (depth + d)) → segB L a m lo hi →
    gdT n L depth a dp lo hi = some (m, t, depth + d)
  | 0, _, _, _, _, _, _, _, _, _, h, _, _ => by simp [rdT] at h
  | n + 1, L, depth, a, dp, lo, hi, m, d, t, h, hdp, hb => by
    have hle := rdT_le h
    obtain ⟨x, hx, hf, hc⟩ := rdT_leaf h
    obtain ⟨f1, f2, f3, f4, f5⟩ := formB_spec hf
    have hxm : x ∈ (L.drop a).take m := by
      refine List.mem_of_getElem? (i := 0) ?_
      rw [List.getElem?_take_of_lt (by omega), List.getElem?_drop]; exact hx
    have hkb := hb x hxm
    rw [gdT_s, hx]
    simp only
    rw [if_pos hf, any_out.2 hkb, if_neg (by simp)]
    rcases hc with ⟨k0, rfl, rfl, rfl⟩ | ⟨d', ts, k0, rfl, rfl, hc⟩
    · rw [Nat.add_zero] at hdp
      rw [if_pos k0, if_pos hdp]; rfl
    · rw [if_neg k0]
      have key : ∀ {kids : List Int} {i size size' : Nat} {us : List Tr}, Kds (rdT n L) L x.keys a d' kids i size size' us → kids ≠ [] → size' ≤ m → 1 ≤ size → ∀ (dp : Option Nat) (ts : List Tr), (dp = none ∨ dp = some (depth + 1 + d')) →
          gdK (gdT n L (depth + 1)) x.keys lo hi a kids i size dp ts = some (size', some (depth + 1 + d'), ts ++ us) := by
        intro kids i size size' us h
        induction h with
        | nil => intro h; exact absurd rfl h
        | cons hk hf' hs hc' ih =>
          rename_i kid r i size size' m1 t us
          intro _ hm h1 dp ts hdp
          have hle' := hc'.le (fun b m d t h => rdT_le h) (by have := rdT_le hf'; omega)
          unfold gdK
          rw [if_pos hk, rd_gd (depth := depth + 1) hf' hdp (seg_kid hs (hb.sub (by omega) (by omega)))]
          simp only
          cases r with
          | nil => cases hc'; simp [gdK]
          | cons k2 r => rw [ih (by simp) hm (by omega) _ _ (.inr rfl)]; simp
      rw [key hc (by intro e; rw [e] at k0; exact k0 rfl) (Nat.le_refl _) (Nat.le_refl _) dp [] (by rw [show depth + 1 + d' = depth + (d' + 1) by omega]; exact hdp)]
      simp only [List.nil_append, Option.getD_some]
      rw [show depth + 1 + d' = depth + (d' + 1) by omega]
end Go.Proofs.Ytdglignjoojimaa

/- The plain law of trees, part 12: nodes that are read have few keys. No program in sight. No conditions. -/
set_option linter.unusedVariables false
set_option linter.unusedSimpArgs false
namespace Go.Proofs.Ytdglignjoojimaa

theorem take_app_mem {L : List Nd} {a m k : Nat} {Q : Nd → Prop} (h1 : ∀ x ∈ (L.drop a).take m, Q x) (h2 : ∀ x ∈ (L.drop (a + m)).take k, Q x) : ∀ x ∈ (L.drop a).take (m + k), Q x := by
  intro y hy
  rw [List.take_add, List.drop_drop] at hy
  rcases List.mem_append.1 hy with hy | hy
  · exact h1 y hy
  · exact h2 y hy
theorem rd_small : ∀ {n a m d : Nat} {L : List Nd} {t : Tr}, rdT n L a = some (m, d, t) → ∀ x ∈ (L.drop a).take m, x.keys.length ≤ 7
  | 0, a, m, d, L, t, h => by simp [rdT] at h
  | n + 1, a, m, d, L, t, h => by
    have hle := rdT_le h
    obtain ⟨x, hx, hf, hc⟩ := rdT_leaf h
    obtain ⟨f1, f2, f3, f4, f5⟩ := formB_spec hf
    have h1 : ∀ y ∈ (L.drop a).take 1, y.keys.length ≤ 7 := fun y hy => by rw [seg_one hx] at hy; obtain rfl := List.mem_singleton.1 hy; exact f1
    rcases hc with ⟨k0, rfl, rfl, rfl⟩ | ⟨d', ts, k0, rfl, rfl, hc⟩
    · exact h1
    · have key : ∀ {kids : List Int} {i size size' : Nat} {us : List Tr}, Kds (rdT n L) L x.keys a d' kids i size size' us → size ≤ size' ∧ ∀ y ∈ (L.drop (a + size)).take (size' - size), y.keys.length ≤ 7 := by
        intro kids i size size' us h
        induction h with
        | nil => rename_i i size; exact ⟨Nat.le_refl _, fun y hy => by rw [Nat.sub_self] at hy; simp at hy⟩
        | cons hk hf' hs hc' ih =>
          rename_i kid r i size size' m1 t us
          obtain ⟨i1, i2⟩ := ih
          refine ⟨by omega, ?_⟩
          have := take_app_mem (rd_small hf') (by rw [Nat.add_assoc]; exact i2)
          rwa [show m1 + (size' - (size + m1)) = size' - size by omega] at this
      obtain ⟨k1, k2⟩ := key hc
      have := take_app_mem h1 k2
      rwa [show 1 + (m - 1) = m by omega] at this
theorem rd_small_at {n a m d j : Nat} {L : List Nd} {t : Tr} (h : rdT n L a = some (m, d, t)) (hj : j < m) (hl : a + j < L.length) : L[a + j].keys.length ≤ 7 := by
  refine rd_small h _ (List.mem_of_getElem? (i := j) ?_)
  rw [List.getElem?_take_of_lt hj, List.getElem?_drop, List.getElem?_eq_getElem hl]
theorem rdT_none {n a : Nat} {L : List Nd} (h : L.length ≤ a) : rdT n L a = none := by
  cases n with
  | zero => rfl
  | succ n => rw [rdT_s, List.getElem?_eq_none h]
theorem rdT_bad {n a : Nat} {L : List Nd} (ha : a < L.length) (h : formB L[a] (decide (a = 0)) = false) : rdT n L a = none := by
  cases n with
  | zero => rfl
  | succ n =>
    rw [rdT_s, List.getElem?_eq_getElem ha]
    simp only
    rw [if_neg (by rw [h]; simp)]
end Go.Proofs.Ytdglignjoojimaa

/- The end of a function of four results. No conditions. -/
set_option linter.unusedVariables false
set_option linter.unusedSimpArgs false
namespace Go.Proofs.Ytdglignjoojimaa
section
variable {P : Program} {N : Nat} {σ : List (Nat × Value)} {h : Hp} {bl : Bl} {w0 : World} {blA nb : Bl} {h0 : Hp} {post : Value → Hp → Bl → Prop} {fn : Func} {e : Exit}
theorem VQ_fin4 {r s q p : ResultVar} {v u x y : Value} (he : e = .normal ∨ e = .ret) (hr : fn.results = #[r, s, q, p]) (h1 : RV P N σ h bl r v) (h2 : RV P N σ h bl s u) (h3 : RV P N σ h bl q x) (h4 : RV P N σ h bl p y) (hb : SubB bl nb)
    (hp : post (.tuple #[v, u, x, y]) h nb) : VQ ⟨w0, fun b => b ∈ blA.flatten.map Prod.fst, h0⟩ N (bodyPost P fn (Ret w0 blA h0 post)) e σ h bl := by
  refine bodyPost_of he (fun a w ha hk => ?_) (Ret_of hb hp)
  cases r <;> cases s <;> cases q <;> cases p <;> (first | have k1 := h1.tmp ha hk | obtain ⟨q1, w1, e1, e1'⟩ := h1.run ha hk) <;> (first | have k2 := h2.tmp ha hk | obtain ⟨q2, w2, e2, e2'⟩ := h2.run ha hk) <;>
    (first | have k3 := h3.tmp ha hk | obtain ⟨q3, w3, e3, e3'⟩ := h3.run ha hk) <;> (first | have k4 := h4.tmp ha hk | obtain ⟨q4, w4, e4, e4'⟩ := h4.run ha hk) <;> simp_all [results]
end
end Go.Proofs.Ytdglignjoojimaa

/- Which nodes are right: the forms. No conditions. -/
set_option linter.unusedVariables false
set_option linter.unusedSimpArgs false
namespace Go.Proofs.Ytdglignjoojimaa

/-- Nodes in a slice that is known for good. -/
def NL (h : Hp) (v : Value) (L : List Nd) : Prop := ∃ cs, SlR h [] v L.length (tris cs) 3 ∧ All2 (NdR h) cs L
theorem NL.sub {h h' : Hp} {v : Value} {L : List Nd} (n : NL h v L) (s : Sub h h') : NL h' v L :=
  let ⟨cs, a, b⟩ := n
  ⟨cs, SlR.sub a s, b.mono fun _ _ r => NdR.sub s r⟩
theorem NL.form {h : Hp} {v : Value} {L : List Nd} (n : NL h v L) : ∃ A cap, v = .slice A L.length cap ∧ L.length ≤ cap ∧ cap ≤ 9223372036854775807 :=
  let ⟨_, a, _⟩ := n; SlR.form a
theorem BN.kn {h : Hp} {v : Value} {cs : List (Sv × Sv × Sv)} {G : Gr} {L : List Nd} (B : BN v cs G) (k : KnowG h G) (a : All2 (NdR h) cs L) : NL h v L :=
  ⟨cs, by have := B.known k; rwa [a.len] at this, a⟩
theorem NdR.form {h : Hp} {c : Sv × Sv × Sv} {x : Nd} (n : NdR h c x) : ∃ A1 c1 A2 c2 A3 c3, c = ((A1, x.keys.length, c1), (A2, x.vals.length, c2), (A3, x.kids.length, c3)) ∧ x.keys.length ≤ c1 ∧ x.vals.length ≤ c2 ∧ x.kids.length ≤ c3 ∧
    c1 ≤ 9223372036854775807 ∧ c2 ≤ 9223372036854775807 ∧ c3 ≤ 9223372036854775807 := by
  obtain ⟨⟨A1, n1, c1⟩, ⟨A2, n2, c2⟩, ⟨A3, n3, c3⟩⟩ := c
  obtain ⟨h1, h2, h3⟩ := n
  obtain ⟨_, _, e1, l1, m1⟩ := SlR.form h1
  obtain ⟨_, _, e2, l2, m2⟩ := SlR.form h2
  obtain ⟨_, _, e3, l3, m3⟩ := SlR.form h3
  simp only [sv, Value.slice.injEq] at e1 e2 e3
  obtain ⟨rfl, rfl, rfl⟩ := e1
  obtain ⟨rfl, rfl, rfl⟩ := e2
  obtain ⟨rfl, rfl, rfl⟩ := e3
  exact ⟨_, _, _, _, _, _, rfl, l1, l2, l3, m1, m2, m3⟩
/-- The node i of such a list. -/
theorem NL.at_ {h : Hp} {v : Value} {L : List Nd} (n : NL h v L) {i : Nat} (hi : i < L.length) : ∃ b off cap c, v = .slice (some ⟨b, off, none⟩) L.length cap ∧ Cells h [] b (off + i * 3) (tri c) ∧ NdR h c L[i] := by
  obtain ⟨cs, a, al⟩ := n
  obtain ⟨c, hc, hr⟩ := al.get (List.getElem?_eq_getElem hi)
  obtain ⟨b, off, cap, e, cc⟩ := SlR.at_ triE a al.len hi
  have : cs[i]'(by rw [al.len]; exact hi) = c := by
    have hlt : i < cs.length := by rw [al.len]; exact hi
    rw [List.getElem?_eq_getElem hlt] at hc; exact Option.some.inj hc
  rw [this] at cc
  exact ⟨b, off, cap, c, e, cc, hr⟩
theorem rise_iff : ∀ {l : List Int}, riseB l = true ↔ ∀ (i : Nat) (h : i + 1 < l.length), l[i] < l[i + 1]
  | [] => ⟨fun _ i h => absurd h (by simp), fun _ => rfl⟩
  | [x] => ⟨fun _ i h => absurd h (by simp), fun _ => rfl⟩
  | x :: y :: r => by
    simp only [riseB, Bool.and_eq_true, decide_eq_true_eq, rise_iff (l := y :: r)]
    constructor
    · rintro ⟨h1, h2⟩ i hi
      cases i with
      | zero => exact h1
      | succ i => exact h2 i (by simpa using hi)
    · intro h
      exact ⟨h 0 (by simp), fun i hi => h (i + 1) (by simpa using hi)⟩
/-- A node as a value. -/
abbrev ndv (c : Sv × Sv × Sv) : Value := .agg (List.toArray (tri c))

set_option maxRecDepth 100000 in
theorem form_con (c : Sv × Sv × Sv) (x : Nd) (root : Bool) (h : Hp) (hN : NdR h c x) : Con Try.prog 68 [ndv c, .bool root] h [] (fun r h' nb => r = .bool (formB x root) ∧ h = h' ∧ nb = []) := by
  obtain ⟨A1, c1, A2, c2, A3, c3, rfl, lk, lv, lc, mk, mv, mc⟩ := NdR.form hN
  obtain ⟨hk, hv, hc⟩ := hN
  show Con Try.prog 68 [.agg #[.slice A1 x.keys.length c1, .slice A2 x.vals.length c2, .slice A3 x.kids.length c3], .bool root] h [] _
  refine Con_of Try.func68 rfl Try.ntmps68 (Nat.le_of_ble_eq_true rfl) (fun w0 => ?_)
  refine V_seq ?_
  refine V_region ?_
  refine VL_eff rfl (E_box rfl rfl rfl) ?_
  rintro _ _ _ ⟨b2, hb2, rfl, rfl, rfl⟩
  refine VL_still rfl rfl rfl (S_assign rfl) ?_
  refine VL_nil ?_
  refine VQ_then ?_
  refine V_seq ?_
  refine V_seq ?_
  refine V_region ?_
  refine VL_still rfl rfl rfl (S_field (k := 0) Try.underlying108 rfl rfl ti88 rfl rfl) ?_
  first | refine VL_still rfl rfl rfl (S_load Try.underlying88 rfl rfl (Cell.trk (by repeat (first | exact Has.here | apply Has.there)) rfl)) ?_ | refine VL_still rfl rfl rfl (S_load Try.underlying88 rfl rfl (Cell.known (by first | assumption | exact (by assumption : Sub _ _) _ _ (by assumption) | exact (Sub.trans (by assumption) (by assumption)) _ _ (by assumption)) rfl)) ?_
  refine VL_still rfl rfl rfl (S_len Try.underlying88 rfl) ?_
  refine VL_still rfl rfl rfl (S_gtr rfl rfl) ?_
  refine VL_still rfl rfl rfl (S_move rfl) ?_
  refine VL_bool 10 rfl (fun hc10 => ?_) (fun hc10 => ?_)
  · skip
    have h7 : ¬ x.keys.length ≤ 7 := by
      have := of_decide_eq_true hc10
      omega
    refine VL_skip rfl rfl rfl ?_
    refine VL_skip rfl rfl rfl ?_
    refine VL_skip rfl rfl rfl ?_
    refine VL_skip rfl rfl rfl ?_
    refine VL_skip rfl rfl rfl ?_
    refine VL_skip rfl rfl rfl ?_
    refine VL_skip rfl rfl rfl ?_
    refine VL_skip rfl rfl rfl ?_
    first | refine VL_still rfl rfl rfl (S_pick_t rfl rfl) ?_ | refine VL_still rfl rfl rfl (S_pick_f rfl rfl) ?_
    refine VL_nil ?_
    refine VQ_then ?_
    refine V_cond_true rfl ?_
    refine V_seq ?_
    refine V_region ?_
    refine VL_still rfl rfl rfl (S_assign rfl) ?_
    refine VL_nil ?_
    refine VQ_then ?_
    refine V_ret ?_
    refine VQ_then_ret ?_
    refine VQ_fin1 (nb := []) (by first | exact .inl rfl | exact .inr rfl) rfl (RV_tmp rfl) ?sb ?po
    case po =>
      exact ⟨by simp [formB, h7], rfl, rfl⟩
    case sb => exact (by repeat (first | exact SubB.nil | exact Pick.here | apply Pick.there | apply SubB.emp | apply SubB.cons))
  · skip
    have h7 : x.keys.length ≤ 7 := by
      have := of_decide_eq_false hc10
      omega
    refine VL_still rfl rfl rfl (S_move rfl) ?_
    refine VL_still rfl rfl rfl (S_not rfl) ?_
    refine VL_still rfl rfl rfl (S_move rfl) ?_
    refine VL_bool 13 rfl (fun hc13 => ?_) (fun hc13 => ?_)
    · skip
      obtain rfl : root = false := by simpa using hc13
      refine VL_still rfl rfl rfl (S_field (k := 0) Try.underlying108 rfl rfl ti88 rfl rfl) ?_
      first | refine VL_still rfl rfl rfl (S_load Try.underlying88 rfl rfl (Cell.trk (by repeat (first | exact Has.here | apply Has.there)) rfl)) ?_ | refine VL_still rfl rfl rfl (S_load Try.underlying88 rfl rfl (Cell.known (by first | assumption | exact (by assumption : Sub _ _) _ _ (by assumption) | exact (Sub.trans (by assumption) (by assumption)) _ _ (by assumption)) rfl)) ?_
      refine VL_still rfl rfl rfl (S_len Try.underlying88 rfl) ?_
      refine VL_still rfl rfl rfl (S_lss rfl rfl) ?_
      first | refine VL_still rfl rfl rfl (S_pick_t rfl rfl) ?_ | refine VL_still rfl rfl rfl (S_pick_f rfl rfl) ?_
      first | refine VL_still rfl rfl rfl (S_pick_t rfl rfl) ?_ | refine VL_still rfl rfl rfl (S_pick_f rfl rfl) ?_
      refine VL_nil ?_
      refine VQ_then ?_
      refine V_cond rfl (fun hc19 => ?_) (fun hc19 => ?_)
      · skip
        have h3 : ¬ 3 ≤ x.keys.length := by
          have := of_decide_eq_true hc19
          omega
        refine V_seq ?_
        refine V_region ?_
        refine VL_still rfl rfl rfl (S_assign rfl) ?_
        refine VL_nil ?_
        refine VQ_then ?_
        refine V_ret ?_
        refine VQ_then_ret ?_
        refine VQ_fin1 (nb := []) (by first | exact .inl rfl | exact .inr rfl) rfl (RV_tmp rfl) ?sb ?po
        case po =>
          exact ⟨by simp [formB, h7, h3], rfl, rfl⟩
        case sb => exact (by repeat (first | exact SubB.nil | exact Pick.here | apply Pick.there | apply SubB.emp | apply SubB.cons))
      · skip
        have h3 : 3 ≤ x.keys.length := by
          have := of_decide_eq_false hc19
          omega
        refine V_skip ?_
        refine VQ_then ?_
        refine V_seq ?_
        refine V_seq ?_
        refine V_region ?_
        refine VL_still rfl rfl rfl (S_assign rfl) ?_
        refine VL_nil ?_
        refine VQ_then ?_
        refine V_block ?_
        refine V_loop (ι := Nat) (fun i => x.keys.length + 1 - i) (fun i => 1 ≤ i ∧ i ≤ x.keys.length + 1 ∧ ∀ (j : Nat) (hj : j + 1 < x.keys.length), j + 1 < i → x.keys[j] < x.keys[j + 1]) (fun i => [(1, .bool false), (2, ptr b2), (5, .int .i64 i)]) (fun _ => h) (fun _ => [[(b2, .cells (List.toArray [.slice A1 x.keys.length c1, .slice A2 x.vals.length c2, .slice A3 x.kids.length c3]) 108 (0, 0))]]) 1 ⟨Nat.le_refl _, by omega, fun j hj hj' => absurd hj' (by omega)⟩ (by repeat (first | exact trivial | refine ⟨rfl, ?_⟩)) rfl (by repeat (first | exact SubB.nil | exact Pick.here | apply Pick.there | apply SubB.emp | apply SubB.cons)) (fun i hi => ?_)
        obtain ⟨hi1, hi2, hi3⟩ := hi
        refine V_seq ?_
        refine V_seq ?_
        refine V_region ?_
        refine VL_still rfl rfl rfl (S_move rfl) ?_
        refine VL_still rfl rfl rfl (S_field (k := 0) Try.underlying108 rfl rfl ti88 rfl rfl) ?_
        first | refine VL_still rfl rfl rfl (S_load Try.underlying88 rfl rfl (Cell.trk (by repeat (first | exact Has.here | apply Has.there)) rfl)) ?_ | refine VL_still rfl rfl rfl (S_load Try.underlying88 rfl rfl (Cell.known (by first | assumption | exact (by assumption : Sub _ _) _ _ (by assumption) | exact (Sub.trans (by assumption) (by assumption)) _ _ (by assumption)) rfl)) ?_
        refine VL_still rfl rfl rfl (S_len Try.underlying88 rfl) ?_
        refine VL_still rfl rfl rfl (S_lss rfl rfl) ?_
        refine VL_nil ?_
        refine VQ_then ?_
        refine V_cond rfl (fun hc24 => ?_) (fun hc24 => ?_)
        · skip
          have hlt : i < x.keys.length := by
            have := of_decide_eq_true hc24
            omega
          have hlt1 : i - 1 < x.keys.length := by omega
          obtain ⟨bb, off, cap', e1, hcc⟩ := SlR.at_ kcE hk rfl hlt
          obtain ⟨bb2, off2, cap2', e2, hcc1⟩ := SlR.at_ kcE hk rfl hlt1
          simp only [sv, Value.slice.injEq] at e1 e2
          obtain ⟨rfl, _, rfl⟩ := e1
          obtain ⟨e3, _, rfl⟩ := e2
          simp only [Option.some.injEq, Addr.mk.injEq, and_true] at e3
          obtain ⟨rfl, rfl⟩ := e3
          have hidx : x.keys[i - 1 + 1]'(by omega) = x.keys[i] := by congr 1; omega
          refine V_skip ?_
          refine VQ_then ?_
          refine V_seq ?_
          refine V_block ?_
          refine V_seq ?_
          refine V_draw _ _ 0 Try.mixed (by kernel_rfl) (Sub.refl _) (SubB.refl _) ?_
          refine VD_still rfl rfl rfl rfl (S_field (k := 0) Try.underlying108 rfl rfl ti88 rfl rfl) ?_
          first | refine VD_still rfl rfl rfl rfl (S_load Try.underlying88 rfl rfl (Cell.trk (by repeat (first | exact Has.here | apply Has.there)) rfl)) ?_ | refine VD_still rfl rfl rfl rfl (S_load Try.underlying88 rfl rfl (Cell.known (by first | assumption | exact (by assumption : Sub _ _) _ _ (by assumption) | exact (Sub.trans (by assumption) (by assumption)) _ _ (by assumption)) rfl)) ?_
          refine VD_still rfl rfl rfl rfl (S_move rfl) ?_
          refine VD_still rfl rfl rfl rfl (X_at i Try.underlying88 tx23 rfl rfl hlt) ?_
          refine VD_still rfl rfl rfl rfl (S_load Try.underlying23 rfl rfl hcc.1.mem) ?_
          refine VD_still rfl rfl rfl rfl (S_field (k := 0) Try.underlying108 rfl rfl ti88 rfl rfl) ?_
          first | refine VD_still rfl rfl rfl rfl (S_load Try.underlying88 rfl rfl (Cell.trk (by repeat (first | exact Has.here | apply Has.there)) rfl)) ?_ | refine VD_still rfl rfl rfl rfl (S_load Try.underlying88 rfl rfl (Cell.known (by first | assumption | exact (by assumption : Sub _ _) _ _ (by assumption) | exact (Sub.trans (by assumption) (by assumption)) _ _ (by assumption)) rfl)) ?_
          refine VD_still rfl rfl rfl rfl (S_move rfl) ?_
          refine VD_still rfl rfl rfl rfl (S_subn i 1 rfl rfl (by omega) (by omega)) ?_
          refine VD_still rfl rfl rfl rfl (X_at (i - 1) Try.underlying88 tx23 rfl rfl hlt1) ?_
          refine VD_still rfl rfl rfl rfl (S_load Try.underlying23 rfl rfl hcc1.1.mem) ?_
          refine VD_still rfl rfl rfl rfl (S_leq rfl rfl) ?_
          refine VD_nil ?_
          refine VQ_then ?_
          refine V_cond rfl (fun hc38 => ?_) (fun hc38 => ?_)
          · skip
            have hle : ¬ x.keys[i - 1] < x.keys[i] := by
              have := of_decide_eq_true hc38
              omega
            refine V_seq ?_
            refine V_region ?_
            refine VL_still rfl rfl rfl (S_assign rfl) ?_
            refine VL_nil ?_
            refine VQ_then ?_
            refine V_ret ?_
            refine VQ_block_ret ?_
            refine VQ_then_ret ?_
            refine VQ_then_ret ?_
            refine VQ_block_ret ?_
            refine VQ_then_ret ?_
            refine VQ_fin1 (nb := []) (by first | exact .inl rfl | exact .inr rfl) rfl (RV_tmp rfl) ?sb ?po
            case po =>
              have hr : riseB x.keys = false := by
                cases hr : riseB x.keys with
                | false => rfl
                | true => exact absurd (by have := rise_iff.1 hr (i - 1) (by omega); rwa [hidx] at this) hle
              exact ⟨by simp [formB, hr], rfl, rfl⟩
            case sb => exact (by repeat (first | exact SubB.nil | exact Pick.here | apply Pick.there | apply SubB.emp | apply SubB.cons))
          · skip
            have hle' : x.keys[i - 1] < x.keys[i] := by
              have := of_decide_eq_false hc38
              omega
            have hle : ∀ (j : Nat), j + 1 = i → ∀ (hj : j + 1 < x.keys.length), x.keys[j] < x.keys[j + 1] := by
              rintro j rfl hj
              simpa using hle'
            refine V_skip ?_
            refine VQ_block_normal ?_
            refine VQ_then ?_
            refine V_region ?_
            refine VL_still rfl rfl rfl (S_move rfl) ?_
            first | refine VL_still rfl rfl rfl (S_addi rfl rfl (by omega) (by omega)) ?_ | refine VL_still rfl rfl rfl (S_add rfl rfl) ?_
            refine VL_still rfl rfl rfl (S_assign rfl) ?_
            refine VL_nil ?_
            refine VQ_mid (i + 1) ⟨⟨by omega, by omega, fun j hj hj' => ?_⟩, by omega⟩ (by repeat (first | exact trivial | refine ⟨rfl, ?_⟩)) rfl (by repeat (first | exact SubB.nil | exact Pick.here | apply Pick.there | apply SubB.emp | apply SubB.cons))
            rcases Nat.lt_or_ge (j + 1) i with h1 | h1
            · exact hi3 j hj h1
            · exact hle j (by omega) hj
        · skip
          have hge : x.keys.length ≤ i := by
            have := of_decide_eq_false hc24
            omega
          have hr : riseB x.keys = true := rise_iff.2 fun j hj => hi3 j hj (by omega)
          refine V_exit ?_
          refine VQ_then_exit ?_
          refine VQ_then_exit ?_
          refine VQ_block_exit ?_
          refine VQ_then ?_
          refine V_seq ?_
          refine V_seq ?_
          refine V_region ?_
          refine VL_still rfl rfl rfl (S_field (k := 2) Try.underlying108 rfl rfl ti71 rfl rfl) ?_
          first | refine VL_still rfl rfl rfl (S_load Try.underlying71 rfl rfl (Cell.trk (by repeat (first | exact Has.here | apply Has.there)) rfl)) ?_ | refine VL_still rfl rfl rfl (S_load Try.underlying71 rfl rfl (Cell.known (by first | assumption | exact (by assumption : Sub _ _) _ _ (by assumption) | exact (Sub.trans (by assumption) (by assumption)) _ _ (by assumption)) rfl)) ?_
          refine VL_still rfl rfl rfl (S_len Try.underlying71 rfl) ?_
          refine VL_still rfl rfl rfl (S_eql rfl rfl) ?_
          refine VL_nil ?_
          refine VQ_then ?_
          refine V_cond rfl (fun hc42 => ?_) (fun hc42 => ?_)
          · skip
            have hk0 : x.kids.length = 0 := by
              have := of_decide_eq_true hc42
              omega
            refine V_seq ?_
            refine V_region ?_
            refine VL_still rfl rfl rfl (S_field (k := 1) Try.underlying108 rfl rfl ti89 rfl rfl) ?_
            first | refine VL_still rfl rfl rfl (S_load Try.underlying89 rfl rfl (Cell.trk (by repeat (first | exact Has.here | apply Has.there)) rfl)) ?_ | refine VL_still rfl rfl rfl (S_load Try.underlying89 rfl rfl (Cell.known (by first | assumption | exact (by assumption : Sub _ _) _ _ (by assumption) | exact (Sub.trans (by assumption) (by assumption)) _ _ (by assumption)) rfl)) ?_
            refine VL_still rfl rfl rfl (S_len Try.underlying89 rfl) ?_
            refine VL_still rfl rfl rfl (S_field (k := 0) Try.underlying108 rfl rfl ti88 rfl rfl) ?_
            first | refine VL_still rfl rfl rfl (S_load Try.underlying88 rfl rfl (Cell.trk (by repeat (first | exact Has.here | apply Has.there)) rfl)) ?_ | refine VL_still rfl rfl rfl (S_load Try.underlying88 rfl rfl (Cell.known (by first | assumption | exact (by assumption : Sub _ _) _ _ (by assumption) | exact (Sub.trans (by assumption) (by assumption)) _ _ (by assumption)) rfl)) ?_
            refine VL_still rfl rfl rfl (S_len Try.underlying88 rfl) ?_
            refine VL_still rfl rfl rfl (S_eql rfl rfl) ?_
            refine VL_still rfl rfl rfl (S_assign rfl) ?_
            refine VL_nil ?_
            refine VQ_then ?_
            refine V_ret ?_
            refine VQ_then_ret ?_
            refine VQ_fin1 (nb := []) (by first | exact .inl rfl | exact .inr rfl) rfl (RV_tmp rfl) ?sb ?po
            case po =>
              refine ⟨?_, rfl, rfl⟩
              simp [formB, h7, h3, hr, hk0]
              try omega
            case sb => exact (by repeat (first | exact SubB.nil | exact Pick.here | apply Pick.there | apply SubB.emp | apply SubB.cons))
          · skip
            have hk0 : ¬ x.kids.length = 0 := by
              have := of_decide_eq_false hc42
              omega
            refine V_skip ?_
            refine VQ_then ?_
            refine V_seq ?_
            refine V_region ?_
            refine VL_still rfl rfl rfl (S_field (k := 1) Try.underlying108 rfl rfl ti89 rfl rfl) ?_
            first | refine VL_still rfl rfl rfl (S_load Try.underlying89 rfl rfl (Cell.trk (by repeat (first | exact Has.here | apply Has.there)) rfl)) ?_ | refine VL_still rfl rfl rfl (S_load Try.underlying89 rfl rfl (Cell.known (by first | assumption | exact (by assumption : Sub _ _) _ _ (by assumption) | exact (Sub.trans (by assumption) (by assumption)) _ _ (by assumption)) rfl)) ?_
            refine VL_still rfl rfl rfl (S_len Try.underlying89 rfl) ?_
            refine VL_still rfl rfl rfl (S_eql rfl rfl) ?_
            refine VL_still rfl rfl rfl (S_move rfl) ?_
            refine VL_bool 54 rfl (fun hc54 => ?_) (fun hc54 => ?_)
            · skip
              have hv0 : x.vals.length = 0 := by
                have := of_decide_eq_true hc54
                omega
              refine VL_still rfl rfl rfl (S_field (k := 2) Try.underlying108 rfl rfl ti71 rfl rfl) ?_
              first | refine VL_still rfl rfl rfl (S_load Try.underlying71 rfl rfl (Cell.trk (by repeat (first | exact Has.here | apply Has.there)) rfl)) ?_ | refine VL_still rfl rfl rfl (S_load Try.underlying71 rfl rfl (Cell.known (by first | assumption | exact (by assumption : Sub _ _) _ _ (by assumption) | exact (Sub.trans (by assumption) (by assumption)) _ _ (by assumption)) rfl)) ?_
              refine VL_still rfl rfl rfl (S_len Try.underlying71 rfl) ?_
              refine VL_still rfl rfl rfl (S_field (k := 0) Try.underlying108 rfl rfl ti88 rfl rfl) ?_
              first | refine VL_still rfl rfl rfl (S_load Try.underlying88 rfl rfl (Cell.trk (by repeat (first | exact Has.here | apply Has.there)) rfl)) ?_ | refine VL_still rfl rfl rfl (S_load Try.underlying88 rfl rfl (Cell.known (by first | assumption | exact (by assumption : Sub _ _) _ _ (by assumption) | exact (Sub.trans (by assumption) (by assumption)) _ _ (by assumption)) rfl)) ?_
              refine VL_still rfl rfl rfl (S_len Try.underlying88 rfl) ?_
              first | refine VL_still rfl rfl rfl (S_addi rfl rfl (by omega) (by omega)) ?_ | refine VL_still rfl rfl rfl (S_add rfl rfl) ?_
              refine VL_still rfl rfl rfl (S_eql rfl rfl) ?_
              first | refine VL_still rfl rfl rfl (S_pick_t rfl rfl) ?_ | refine VL_still rfl rfl rfl (S_pick_f rfl rfl) ?_
              refine VL_still rfl rfl rfl (S_move rfl) ?_
              refine VL_bool 64 rfl (fun hc64 => ?_) (fun hc64 => ?_)
              · skip
                have hkk : x.kids.length = x.keys.length + 1 := by
                  have := of_decide_eq_true hc64
                  omega
                refine VL_still rfl rfl rfl (S_field (k := 2) Try.underlying108 rfl rfl ti71 rfl rfl) ?_
                first | refine VL_still rfl rfl rfl (S_load Try.underlying71 rfl rfl (Cell.trk (by repeat (first | exact Has.here | apply Has.there)) rfl)) ?_ | refine VL_still rfl rfl rfl (S_load Try.underlying71 rfl rfl (Cell.known (by first | assumption | exact (by assumption : Sub _ _) _ _ (by assumption) | exact (Sub.trans (by assumption) (by assumption)) _ _ (by assumption)) rfl)) ?_
                refine VL_still rfl rfl rfl (S_len Try.underlying71 rfl) ?_
                refine VL_still rfl rfl rfl (S_gtr rfl rfl) ?_
                first | refine VL_still rfl rfl rfl (S_pick_t rfl rfl) ?_ | refine VL_still rfl rfl rfl (S_pick_f rfl rfl) ?_
                refine VL_still rfl rfl rfl (S_assign rfl) ?_
                refine VL_nil ?_
                refine VQ_then ?_
                refine V_ret ?_
                refine VQ_fin1 (nb := []) (by first | exact .inl rfl | exact .inr rfl) rfl (RV_tmp rfl) ?sb ?po
                case po =>
                  refine ⟨?_, rfl, rfl⟩
                  simp [formB, h7, h3, hr, hk0, hv0, hkk]
                  try omega
                case sb => exact (by repeat (first | exact SubB.nil | exact Pick.here | apply Pick.there | apply SubB.emp | apply SubB.cons))
              · skip
                have hkk : ¬ x.kids.length = x.keys.length + 1 := by
                  have := of_decide_eq_false hc64
                  omega
                refine VL_skip rfl rfl rfl ?_
                refine VL_skip rfl rfl rfl ?_
                refine VL_skip rfl rfl rfl ?_
                refine VL_skip rfl rfl rfl ?_
                first | refine VL_still rfl rfl rfl (S_pick_t rfl rfl) ?_ | refine VL_still rfl rfl rfl (S_pick_f rfl rfl) ?_
                refine VL_still rfl rfl rfl (S_assign rfl) ?_
                refine VL_nil ?_
                refine VQ_then ?_
                refine V_ret ?_
                refine VQ_fin1 (nb := []) (by first | exact .inl rfl | exact .inr rfl) rfl (RV_tmp rfl) ?sb ?po
                case po =>
                  refine ⟨?_, rfl, rfl⟩
                  simp [formB, h7, h3, hr, hk0, hv0, hkk]
                case sb => exact (by repeat (first | exact SubB.nil | exact Pick.here | apply Pick.there | apply SubB.emp | apply SubB.cons))
            · skip
              have hv0 : ¬ x.vals.length = 0 := by
                have := of_decide_eq_false hc54
                omega
              refine VL_skip rfl rfl rfl ?_
              refine VL_skip rfl rfl rfl ?_
              refine VL_skip rfl rfl rfl ?_
              refine VL_skip rfl rfl rfl ?_
              refine VL_skip rfl rfl rfl ?_
              refine VL_skip rfl rfl rfl ?_
              refine VL_skip rfl rfl rfl ?_
              refine VL_skip rfl rfl rfl ?_
              first | refine VL_still rfl rfl rfl (S_pick_t rfl rfl) ?_ | refine VL_still rfl rfl rfl (S_pick_f rfl rfl) ?_
              refine VL_still rfl rfl rfl (S_move rfl) ?_
              refine VL_skip rfl rfl rfl ?_
              refine VL_skip rfl rfl rfl ?_
              refine VL_skip rfl rfl rfl ?_
              refine VL_skip rfl rfl rfl ?_
              first | refine VL_still rfl rfl rfl (S_pick_t rfl rfl) ?_ | refine VL_still rfl rfl rfl (S_pick_f rfl rfl) ?_
              refine VL_still rfl rfl rfl (S_assign rfl) ?_
              refine VL_nil ?_
              refine VQ_then ?_
              refine V_ret ?_
              refine VQ_fin1 (nb := []) (by first | exact .inl rfl | exact .inr rfl) rfl (RV_tmp rfl) ?sb ?po
              case po =>
                refine ⟨?_, rfl, rfl⟩
                simp [formB, h7, h3, hr, hk0, hv0]
              case sb => exact (by repeat (first | exact SubB.nil | exact Pick.here | apply Pick.there | apply SubB.emp | apply SubB.cons))
    · skip
      obtain rfl : root = true := by simpa using hc13
      refine VL_skip rfl rfl rfl ?_
      refine VL_skip rfl rfl rfl ?_
      refine VL_skip rfl rfl rfl ?_
      refine VL_skip rfl rfl rfl ?_
      first | refine VL_still rfl rfl rfl (S_pick_t rfl rfl) ?_ | refine VL_still rfl rfl rfl (S_pick_f rfl rfl) ?_
      first | refine VL_still rfl rfl rfl (S_pick_t rfl rfl) ?_ | refine VL_still rfl rfl rfl (S_pick_f rfl rfl) ?_
      refine VL_nil ?_
      refine VQ_then ?_
      refine V_cond_false rfl ?_
      refine V_skip ?_
      refine VQ_then ?_
      refine V_seq ?_
      refine V_seq ?_
      refine V_region ?_
      refine VL_still rfl rfl rfl (S_assign rfl) ?_
      refine VL_nil ?_
      refine VQ_then ?_
      refine V_block ?_
      refine V_loop (ι := Nat) (fun i => x.keys.length + 1 - i) (fun i => 1 ≤ i ∧ i ≤ x.keys.length + 1 ∧ ∀ (j : Nat) (hj : j + 1 < x.keys.length), j + 1 < i → x.keys[j] < x.keys[j + 1]) (fun i => [(1, .bool true), (2, ptr b2), (5, .int .i64 i)]) (fun _ => h) (fun _ => [[(b2, .cells (List.toArray [.slice A1 x.keys.length c1, .slice A2 x.vals.length c2, .slice A3 x.kids.length c3]) 108 (0, 0))]]) 1 ⟨Nat.le_refl _, by omega, fun j hj hj' => absurd hj' (by omega)⟩ (by repeat (first | exact trivial | refine ⟨rfl, ?_⟩)) rfl (by repeat (first | exact SubB.nil | exact Pick.here | apply Pick.there | apply SubB.emp | apply SubB.cons)) (fun i hi => ?_)
      obtain ⟨hi1, hi2, hi3⟩ := hi
      refine V_seq ?_
      refine V_seq ?_
      refine V_region ?_
      refine VL_still rfl rfl rfl (S_move rfl) ?_
      refine VL_still rfl rfl rfl (S_field (k := 0) Try.underlying108 rfl rfl ti88 rfl rfl) ?_
      first | refine VL_still rfl rfl rfl (S_load Try.underlying88 rfl rfl (Cell.trk (by repeat (first | exact Has.here | apply Has.there)) rfl)) ?_ | refine VL_still rfl rfl rfl (S_load Try.underlying88 rfl rfl (Cell.known (by first | assumption | exact (by assumption : Sub _ _) _ _ (by assumption) | exact (Sub.trans (by assumption) (by assumption)) _ _ (by assumption)) rfl)) ?_
      refine VL_still rfl rfl rfl (S_len Try.underlying88 rfl) ?_
      refine VL_still rfl rfl rfl (S_lss rfl rfl) ?_
      refine VL_nil ?_
      refine VQ_then ?_
      refine V_cond rfl (fun hc24 => ?_) (fun hc24 => ?_)
      · skip
        have hlt : i < x.keys.length := by
          have := of_decide_eq_true hc24
          omega
        have hlt1 : i - 1 < x.keys.length := by omega
        obtain ⟨bb, off, cap', e1, hcc⟩ := SlR.at_ kcE hk rfl hlt
        obtain ⟨bb2, off2, cap2', e2, hcc1⟩ := SlR.at_ kcE hk rfl hlt1
        simp only [sv, Value.slice.injEq] at e1 e2
        obtain ⟨rfl, _, rfl⟩ := e1
        obtain ⟨e3, _, rfl⟩ := e2
        simp only [Option.some.injEq, Addr.mk.injEq, and_true] at e3
        obtain ⟨rfl, rfl⟩ := e3
        have hidx : x.keys[i - 1 + 1]'(by omega) = x.keys[i] := by congr 1; omega
        refine V_skip ?_
        refine VQ_then ?_
        refine V_seq ?_
        refine V_block ?_
        refine V_seq ?_
        refine V_draw _ _ 0 Try.mixed (by kernel_rfl) (Sub.refl _) (SubB.refl _) ?_
        refine VD_still rfl rfl rfl rfl (S_field (k := 0) Try.underlying108 rfl rfl ti88 rfl rfl) ?_
        first | refine VD_still rfl rfl rfl rfl (S_load Try.underlying88 rfl rfl (Cell.trk (by repeat (first | exact Has.here | apply Has.there)) rfl)) ?_ | refine VD_still rfl rfl rfl rfl (S_load Try.underlying88 rfl rfl (Cell.known (by first | assumption | exact (by assumption : Sub _ _) _ _ (by assumption) | exact (Sub.trans (by assumption) (by assumption)) _ _ (by assumption)) rfl)) ?_
        refine VD_still rfl rfl rfl rfl (S_move rfl) ?_
        refine VD_still rfl rfl rfl rfl (X_at i Try.underlying88 tx23 rfl rfl hlt) ?_
        refine VD_still rfl rfl rfl rfl (S_load Try.underlying23 rfl rfl hcc.1.mem) ?_
        refine VD_still rfl rfl rfl rfl (S_field (k := 0) Try.underlying108 rfl rfl ti88 rfl rfl) ?_
        first | refine VD_still rfl rfl rfl rfl (S_load Try.underlying88 rfl rfl (Cell.trk (by repeat (first | exact Has.here | apply Has.there)) rfl)) ?_ | refine VD_still rfl rfl rfl rfl (S_load Try.underlying88 rfl rfl (Cell.known (by first | assumption | exact (by assumption : Sub _ _) _ _ (by assumption) | exact (Sub.trans (by assumption) (by assumption)) _ _ (by assumption)) rfl)) ?_
        refine VD_still rfl rfl rfl rfl (S_move rfl) ?_
        refine VD_still rfl rfl rfl rfl (S_subn i 1 rfl rfl (by omega) (by omega)) ?_
        refine VD_still rfl rfl rfl rfl (X_at (i - 1) Try.underlying88 tx23 rfl rfl hlt1) ?_
        refine VD_still rfl rfl rfl rfl (S_load Try.underlying23 rfl rfl hcc1.1.mem) ?_
        refine VD_still rfl rfl rfl rfl (S_leq rfl rfl) ?_
        refine VD_nil ?_
        refine VQ_then ?_
        refine V_cond rfl (fun hc38 => ?_) (fun hc38 => ?_)
        · skip
          have hle : ¬ x.keys[i - 1] < x.keys[i] := by
            have := of_decide_eq_true hc38
            omega
          refine V_seq ?_
          refine V_region ?_
          refine VL_still rfl rfl rfl (S_assign rfl) ?_
          refine VL_nil ?_
          refine VQ_then ?_
          refine V_ret ?_
          refine VQ_block_ret ?_
          refine VQ_then_ret ?_
          refine VQ_then_ret ?_
          refine VQ_block_ret ?_
          refine VQ_then_ret ?_
          refine VQ_fin1 (nb := []) (by first | exact .inl rfl | exact .inr rfl) rfl (RV_tmp rfl) ?sb ?po
          case po =>
            have hr : riseB x.keys = false := by
              cases hr : riseB x.keys with
              | false => rfl
              | true => exact absurd (by have := rise_iff.1 hr (i - 1) (by omega); rwa [hidx] at this) hle
            exact ⟨by simp [formB, hr], rfl, rfl⟩
          case sb => exact (by repeat (first | exact SubB.nil | exact Pick.here | apply Pick.there | apply SubB.emp | apply SubB.cons))
        · skip
          have hle' : x.keys[i - 1] < x.keys[i] := by
            have := of_decide_eq_false hc38
            omega
          have hle : ∀ (j : Nat), j + 1 = i → ∀ (hj : j + 1 < x.keys.length), x.keys[j] < x.keys[j + 1] := by
            rintro j rfl hj
            simpa using hle'
          refine V_skip ?_
          refine VQ_block_normal ?_
          refine VQ_then ?_
          refine V_region ?_
          refine VL_still rfl rfl rfl (S_move rfl) ?_
          first | refine VL_still rfl rfl rfl (S_addi rfl rfl (by omega) (by omega)) ?_ | refine VL_still rfl rfl rfl (S_add rfl rfl) ?_
          refine VL_still rfl rfl rfl (S_assign rfl) ?_
          refine VL_nil ?_
          refine VQ_mid (i + 1) ⟨⟨by omega, by omega, fun j hj hj' => ?_⟩, by omega⟩ (by repeat (first | exact trivial | refine ⟨rfl, ?_⟩)) rfl (by repeat (first | exact SubB.nil | exact Pick.here | apply Pick.there | apply SubB.emp | apply SubB.cons))
          rcases Nat.lt_or_ge (j + 1) i with h1 | h1
          · exact hi3 j hj h1
          · exact hle j (by omega) hj
      · skip
        have hge : x.keys.length ≤ i := by
          have := of_decide_eq_false hc24
          omega
        have hr : riseB x.keys = true := rise_iff.2 fun j hj => hi3 j hj (by omega)
        refine V_exit ?_
        refine VQ_then_exit ?_
        refine VQ_then_exit ?_
        refine VQ_block_exit ?_
        refine VQ_then ?_
        refine V_seq ?_
        refine V_seq ?_
        refine V_region ?_
        refine VL_still rfl rfl rfl (S_field (k := 2) Try.underlying108 rfl rfl ti71 rfl rfl) ?_
        first | refine VL_still rfl rfl rfl (S_load Try.underlying71 rfl rfl (Cell.trk (by repeat (first | exact Has.here | apply Has.there)) rfl)) ?_ | refine VL_still rfl rfl rfl (S_load Try.underlying71 rfl rfl (Cell.known (by first | assumption | exact (by assumption : Sub _ _) _ _ (by assumption) | exact (Sub.trans (by assumption) (by assumption)) _ _ (by assumption)) rfl)) ?_
        refine VL_still rfl rfl rfl (S_len Try.underlying71 rfl) ?_
        refine VL_still rfl rfl rfl (S_eql rfl rfl) ?_
        refine VL_nil ?_
        refine VQ_then ?_
        refine V_cond rfl (fun hc42 => ?_) (fun hc42 => ?_)
        · skip
          have hk0 : x.kids.length = 0 := by
            have := of_decide_eq_true hc42
            omega
          refine V_seq ?_
          refine V_region ?_
          refine VL_still rfl rfl rfl (S_field (k := 1) Try.underlying108 rfl rfl ti89 rfl rfl) ?_
          first | refine VL_still rfl rfl rfl (S_load Try.underlying89 rfl rfl (Cell.trk (by repeat (first | exact Has.here | apply Has.there)) rfl)) ?_ | refine VL_still rfl rfl rfl (S_load Try.underlying89 rfl rfl (Cell.known (by first | assumption | exact (by assumption : Sub _ _) _ _ (by assumption) | exact (Sub.trans (by assumption) (by assumption)) _ _ (by assumption)) rfl)) ?_
          refine VL_still rfl rfl rfl (S_len Try.underlying89 rfl) ?_
          refine VL_still rfl rfl rfl (S_field (k := 0) Try.underlying108 rfl rfl ti88 rfl rfl) ?_
          first | refine VL_still rfl rfl rfl (S_load Try.underlying88 rfl rfl (Cell.trk (by repeat (first | exact Has.here | apply Has.there)) rfl)) ?_ | refine VL_still rfl rfl rfl (S_load Try.underlying88 rfl rfl (Cell.known (by first | assumption | exact (by assumption : Sub _ _) _ _ (by assumption) | exact (Sub.trans (by assumption) (by assumption)) _ _ (by assumption)) rfl)) ?_
          refine VL_still rfl rfl rfl (S_len Try.underlying88 rfl) ?_
          refine VL_still rfl rfl rfl (S_eql rfl rfl) ?_
          refine VL_still rfl rfl rfl (S_assign rfl) ?_
          refine VL_nil ?_
          refine VQ_then ?_
          refine V_ret ?_
          refine VQ_then_ret ?_
          refine VQ_fin1 (nb := []) (by first | exact .inl rfl | exact .inr rfl) rfl (RV_tmp rfl) ?sb ?po
          case po =>
            refine ⟨?_, rfl, rfl⟩
            simp [formB, h7, hr, hk0]
            try omega
          case sb => exact (by repeat (first | exact SubB.nil | exact Pick.here | apply Pick.there | apply SubB.emp | apply SubB.cons))
        · skip
          have hk0 : ¬ x.kids.length = 0 := by
            have := of_decide_eq_false hc42
            omega
          refine V_skip ?_
          refine VQ_then ?_
          refine V_seq ?_
          refine V_region ?_
          refine VL_still rfl rfl rfl (S_field (k := 1) Try.underlying108 rfl rfl ti89 rfl rfl) ?_
          first | refine VL_still rfl rfl rfl (S_load Try.underlying89 rfl rfl (Cell.trk (by repeat (first | exact Has.here | apply Has.there)) rfl)) ?_ | refine VL_still rfl rfl rfl (S_load Try.underlying89 rfl rfl (Cell.known (by first | assumption | exact (by assumption : Sub _ _) _ _ (by assumption) | exact (Sub.trans (by assumption) (by assumption)) _ _ (by assumption)) rfl)) ?_
          refine VL_still rfl rfl rfl (S_len Try.underlying89 rfl) ?_
          refine VL_still rfl rfl rfl (S_eql rfl rfl) ?_
          refine VL_still rfl rfl rfl (S_move rfl) ?_
          refine VL_bool 54 rfl (fun hc54 => ?_) (fun hc54 => ?_)
          · skip
            have hv0 : x.vals.length = 0 := by
              have := of_decide_eq_true hc54
              omega
            refine VL_still rfl rfl rfl (S_field (k := 2) Try.underlying108 rfl rfl ti71 rfl rfl) ?_
            first | refine VL_still rfl rfl rfl (S_load Try.underlying71 rfl rfl (Cell.trk (by repeat (first | exact Has.here | apply Has.there)) rfl)) ?_ | refine VL_still rfl rfl rfl (S_load Try.underlying71 rfl rfl (Cell.known (by first | assumption | exact (by assumption : Sub _ _) _ _ (by assumption) | exact (Sub.trans (by assumption) (by assumption)) _ _ (by assumption)) rfl)) ?_
            refine VL_still rfl rfl rfl (S_len Try.underlying71 rfl) ?_
            refine VL_still rfl rfl rfl (S_field (k := 0) Try.underlying108 rfl rfl ti88 rfl rfl) ?_
            first | refine VL_still rfl rfl rfl (S_load Try.underlying88 rfl rfl (Cell.trk (by repeat (first | exact Has.here | apply Has.there)) rfl)) ?_ | refine VL_still rfl rfl rfl (S_load Try.underlying88 rfl rfl (Cell.known (by first | assumption | exact (by assumption : Sub _ _) _ _ (by assumption) | exact (Sub.trans (by assumption) (by assumption)) _ _ (by assumption)) rfl)) ?_
            refine VL_still rfl rfl rfl (S_len Try.underlying88 rfl) ?_
            first | refine VL_still rfl rfl rfl (S_addi rfl rfl (by omega) (by omega)) ?_ | refine VL_still rfl rfl rfl (S_add rfl rfl) ?_
            refine VL_still rfl rfl rfl (S_eql rfl rfl) ?_
            first | refine VL_still rfl rfl rfl (S_pick_t rfl rfl) ?_ | refine VL_still rfl rfl rfl (S_pick_f rfl rfl) ?_
            refine VL_still rfl rfl rfl (S_move rfl) ?_
            refine VL_bool 64 rfl (fun hc64 => ?_) (fun hc64 => ?_)
            · skip
              have hkk : x.kids.length = x.keys.length + 1 := by
                have := of_decide_eq_true hc64
                omega
              refine VL_still rfl rfl rfl (S_field (k := 2) Try.underlying108 rfl rfl ti71 rfl rfl) ?_
              first | refine VL_still rfl rfl rfl (S_load Try.underlying71 rfl rfl (Cell.trk (by repeat (first | exact Has.here | apply Has.there)) rfl)) ?_ | refine VL_still rfl rfl rfl (S_load Try.underlying71 rfl rfl (Cell.known (by first | assumption | exact (by assumption : Sub _ _) _ _ (by assumption) | exact (Sub.trans (by assumption) (by assumption)) _ _ (by assumption)) rfl)) ?_
              refine VL_still rfl rfl rfl (S_len Try.underlying71 rfl) ?_
              refine VL_still rfl rfl rfl (S_gtr rfl rfl) ?_
              first | refine VL_still rfl rfl rfl (S_pick_t rfl rfl) ?_ | refine VL_still rfl rfl rfl (S_pick_f rfl rfl) ?_
              refine VL_still rfl rfl rfl (S_assign rfl) ?_
              refine VL_nil ?_
              refine VQ_then ?_
              refine V_ret ?_
              refine VQ_fin1 (nb := []) (by first | exact .inl rfl | exact .inr rfl) rfl (RV_tmp rfl) ?sb ?po
              case po =>
                refine ⟨?_, rfl, rfl⟩
                simp [formB, h7, hr, hk0, hv0, hkk]
                try omega
              case sb => exact (by repeat (first | exact SubB.nil | exact Pick.here | apply Pick.there | apply SubB.emp | apply SubB.cons))
            · skip
              have hkk : ¬ x.kids.length = x.keys.length + 1 := by
                have := of_decide_eq_false hc64
                omega
              refine VL_skip rfl rfl rfl ?_
              refine VL_skip rfl rfl rfl ?_
              refine VL_skip rfl rfl rfl ?_
              refine VL_skip rfl rfl rfl ?_
              first | refine VL_still rfl rfl rfl (S_pick_t rfl rfl) ?_ | refine VL_still rfl rfl rfl (S_pick_f rfl rfl) ?_
              refine VL_still rfl rfl rfl (S_assign rfl) ?_
              refine VL_nil ?_
              refine VQ_then ?_
              refine V_ret ?_
              refine VQ_fin1 (nb := []) (by first | exact .inl rfl | exact .inr rfl) rfl (RV_tmp rfl) ?sb ?po
              case po =>
                refine ⟨?_, rfl, rfl⟩
                simp [formB, h7, hr, hk0, hv0, hkk]
              case sb => exact (by repeat (first | exact SubB.nil | exact Pick.here | apply Pick.there | apply SubB.emp | apply SubB.cons))
          · skip
            have hv0 : ¬ x.vals.length = 0 := by
              have := of_decide_eq_false hc54
              omega
            refine VL_skip rfl rfl rfl ?_
            refine VL_skip rfl rfl rfl ?_
            refine VL_skip rfl rfl rfl ?_
            refine VL_skip rfl rfl rfl ?_
            refine VL_skip rfl rfl rfl ?_
            refine VL_skip rfl rfl rfl ?_
            refine VL_skip rfl rfl rfl ?_
            refine VL_skip rfl rfl rfl ?_
            first | refine VL_still rfl rfl rfl (S_pick_t rfl rfl) ?_ | refine VL_still rfl rfl rfl (S_pick_f rfl rfl) ?_
            refine VL_still rfl rfl rfl (S_move rfl) ?_
            refine VL_skip rfl rfl rfl ?_
            refine VL_skip rfl rfl rfl ?_
            refine VL_skip rfl rfl rfl ?_
            refine VL_skip rfl rfl rfl ?_
            first | refine VL_still rfl rfl rfl (S_pick_t rfl rfl) ?_ | refine VL_still rfl rfl rfl (S_pick_f rfl rfl) ?_
            refine VL_still rfl rfl rfl (S_assign rfl) ?_
            refine VL_nil ?_
            refine VQ_then ?_
            refine V_ret ?_
            refine VQ_fin1 (nb := []) (by first | exact .inl rfl | exact .inr rfl) rfl (RV_tmp rfl) ?sb ?po
            case po =>
              refine ⟨?_, rfl, rfl⟩
              simp [formB, h7, hr, hk0, hv0]
            case sb => exact (by repeat (first | exact SubB.nil | exact Pick.here | apply Pick.there | apply SubB.emp | apply SubB.cons))

set_option maxRecDepth 100000 in
theorem fits_con (br : Nat) (c : Sv × Sv × Sv) (x : Nd) (root : Bool) (h : Hp) (hN : NdR h c x) : Con Try.prog 70 [ptr br, ndv c, .bool root] h [] (fun r h' nb => r = .bool (formB x root) ∧ h = h' ∧ nb = []) := by
  obtain ⟨A1, c1, A2, c2, A3, c3, rfl, lk, lv, lc, mk, mv, mc⟩ := NdR.form hN
  obtain ⟨hk, hv, hc⟩ := hN
  show Con Try.prog 70 [ptr br, .agg #[.slice A1 x.keys.length c1, .slice A2 x.vals.length c2, .slice A3 x.kids.length c3], .bool root] h [] _
  refine Con_of Try.func70 rfl Try.ntmps70 (Nat.le_of_ble_eq_true rfl) (fun w0 => ?_)
  refine V_seq ?_
  refine V_region ?_
  refine VL_eff rfl (E_box rfl rfl rfl) ?_
  rintro _ _ _ ⟨b4, hb4, rfl, rfl, rfl⟩
  refine VL_still rfl rfl rfl (S_assign rfl) ?_
  refine VL_nil ?_
  refine VQ_then ?_
  refine V_seq ?_
  refine V_seq ?_
  refine V_region ?_
  refine VL_still rfl rfl rfl (S_field (k := 0) Try.underlying108 rfl rfl ti88 rfl rfl) ?_
  first | refine VL_still rfl rfl rfl (S_load Try.underlying88 rfl rfl (Cell.trk (by repeat (first | exact Has.here | apply Has.there)) rfl)) ?_ | refine VL_still rfl rfl rfl (S_load Try.underlying88 rfl rfl (Cell.known (by first | assumption | exact (by assumption : Sub _ _) _ _ (by assumption) | exact (Sub.trans (by assumption) (by assumption)) _ _ (by assumption)) rfl)) ?_
  refine VL_still rfl rfl rfl (S_len Try.underlying88 rfl) ?_
  refine VL_still rfl rfl rfl (S_gtr rfl rfl) ?_
  refine VL_still rfl rfl rfl (S_move rfl) ?_
  refine VL_bool 12 rfl (fun hc12 => ?_) (fun hc12 => ?_)
  · skip
    have h7 : ¬ x.keys.length ≤ 7 := by
      have := of_decide_eq_true hc12
      omega
    refine VL_skip rfl rfl rfl ?_
    refine VL_skip rfl rfl rfl ?_
    refine VL_skip rfl rfl rfl ?_
    refine VL_skip rfl rfl rfl ?_
    refine VL_skip rfl rfl rfl ?_
    refine VL_skip rfl rfl rfl ?_
    refine VL_skip rfl rfl rfl ?_
    refine VL_skip rfl rfl rfl ?_
    first | refine VL_still rfl rfl rfl (S_pick_t rfl rfl) ?_ | refine VL_still rfl rfl rfl (S_pick_f rfl rfl) ?_
    refine VL_nil ?_
    refine VQ_then ?_
    refine V_cond_true rfl ?_
    refine V_seq ?_
    refine V_region ?_
    refine VL_still rfl rfl rfl (S_assign rfl) ?_
    refine VL_nil ?_
    refine VQ_then ?_
    refine V_ret ?_
    refine VQ_then_ret ?_
    refine VQ_fin1 (nb := []) (by first | exact .inl rfl | exact .inr rfl) rfl (RV_tmp rfl) ?sb ?po
    case po =>
      exact ⟨by simp [formB, h7], rfl, rfl⟩
    case sb => exact (by repeat (first | exact SubB.nil | exact Pick.here | apply Pick.there | apply SubB.emp | apply SubB.cons))
  · skip
    have h7 : x.keys.length ≤ 7 := by
      have := of_decide_eq_false hc12
      omega
    refine VL_still rfl rfl rfl (S_move rfl) ?_
    refine VL_still rfl rfl rfl (S_not rfl) ?_
    refine VL_still rfl rfl rfl (S_move rfl) ?_
    refine VL_bool 15 rfl (fun hc15 => ?_) (fun hc15 => ?_)
    · skip
      obtain rfl : root = false := by simpa using hc15
      refine VL_still rfl rfl rfl (S_field (k := 0) Try.underlying108 rfl rfl ti88 rfl rfl) ?_
      first | refine VL_still rfl rfl rfl (S_load Try.underlying88 rfl rfl (Cell.trk (by repeat (first | exact Has.here | apply Has.there)) rfl)) ?_ | refine VL_still rfl rfl rfl (S_load Try.underlying88 rfl rfl (Cell.known (by first | assumption | exact (by assumption : Sub _ _) _ _ (by assumption) | exact (Sub.trans (by assumption) (by assumption)) _ _ (by assumption)) rfl)) ?_
      refine VL_still rfl rfl rfl (S_len Try.underlying88 rfl) ?_
      refine VL_still rfl rfl rfl (S_lss rfl rfl) ?_
      first | refine VL_still rfl rfl rfl (S_pick_t rfl rfl) ?_ | refine VL_still rfl rfl rfl (S_pick_f rfl rfl) ?_
      first | refine VL_still rfl rfl rfl (S_pick_t rfl rfl) ?_ | refine VL_still rfl rfl rfl (S_pick_f rfl rfl) ?_
      refine VL_nil ?_
      refine VQ_then ?_
      refine V_cond rfl (fun hc21 => ?_) (fun hc21 => ?_)
      · skip
        have h3 : ¬ 3 ≤ x.keys.length := by
          have := of_decide_eq_true hc21
          omega
        refine V_seq ?_
        refine V_region ?_
        refine VL_still rfl rfl rfl (S_assign rfl) ?_
        refine VL_nil ?_
        refine VQ_then ?_
        refine V_ret ?_
        refine VQ_then_ret ?_
        refine VQ_fin1 (nb := []) (by first | exact .inl rfl | exact .inr rfl) rfl (RV_tmp rfl) ?sb ?po
        case po =>
          exact ⟨by simp [formB, h7, h3], rfl, rfl⟩
        case sb => exact (by repeat (first | exact SubB.nil | exact Pick.here | apply Pick.there | apply SubB.emp | apply SubB.cons))
      · skip
        have h3 : 3 ≤ x.keys.length := by
          have := of_decide_eq_false hc21
          omega
        refine V_skip ?_
        refine VQ_then ?_
        refine V_seq ?_
        refine V_seq ?_
        refine V_region ?_
        refine VL_still rfl rfl rfl (S_assign rfl) ?_
        refine VL_nil ?_
        refine VQ_then ?_
        refine V_block ?_
        refine V_loop (ι := Nat) (fun i => x.keys.length + 1 - i) (fun i => 1 ≤ i ∧ i ≤ x.keys.length + 1 ∧ ∀ (j : Nat) (hj : j + 1 < x.keys.length), j + 1 < i → x.keys[j] < x.keys[j + 1]) (fun i => [(2, .bool false), (4, ptr b4), (7, .int .i64 i)]) (fun _ => h) (fun _ => [[(b4, .cells (List.toArray [.slice A1 x.keys.length c1, .slice A2 x.vals.length c2, .slice A3 x.kids.length c3]) 108 (0, 0))]]) 1 ⟨Nat.le_refl _, by omega, fun j hj hj' => absurd hj' (by omega)⟩ (by repeat (first | exact trivial | refine ⟨rfl, ?_⟩)) rfl (by repeat (first | exact SubB.nil | exact Pick.here | apply Pick.there | apply SubB.emp | apply SubB.cons)) (fun i hi => ?_)
        obtain ⟨hi1, hi2, hi3⟩ := hi
        refine V_seq ?_
        refine V_seq ?_
        refine V_region ?_
        refine VL_still rfl rfl rfl (S_move rfl) ?_
        refine VL_still rfl rfl rfl (S_field (k := 0) Try.underlying108 rfl rfl ti88 rfl rfl) ?_
        first | refine VL_still rfl rfl rfl (S_load Try.underlying88 rfl rfl (Cell.trk (by repeat (first | exact Has.here | apply Has.there)) rfl)) ?_ | refine VL_still rfl rfl rfl (S_load Try.underlying88 rfl rfl (Cell.known (by first | assumption | exact (by assumption : Sub _ _) _ _ (by assumption) | exact (Sub.trans (by assumption) (by assumption)) _ _ (by assumption)) rfl)) ?_
        refine VL_still rfl rfl rfl (S_len Try.underlying88 rfl) ?_
        refine VL_still rfl rfl rfl (S_lss rfl rfl) ?_
        refine VL_nil ?_
        refine VQ_then ?_
        refine V_cond rfl (fun hc26 => ?_) (fun hc26 => ?_)
        · skip
          have hlt : i < x.keys.length := by
            have := of_decide_eq_true hc26
            omega
          have hlt1 : i - 1 < x.keys.length := by omega
          obtain ⟨bb, off, cap', e1, hcc⟩ := SlR.at_ kcE hk rfl hlt
          obtain ⟨bb2, off2, cap2', e2, hcc1⟩ := SlR.at_ kcE hk rfl hlt1
          simp only [sv, Value.slice.injEq] at e1 e2
          obtain ⟨rfl, _, rfl⟩ := e1
          obtain ⟨e3, _, rfl⟩ := e2
          simp only [Option.some.injEq, Addr.mk.injEq, and_true] at e3
          obtain ⟨rfl, rfl⟩ := e3
          have hidx : x.keys[i - 1 + 1]'(by omega) = x.keys[i] := by congr 1; omega
          refine V_skip ?_
          refine VQ_then ?_
          refine V_seq ?_
          refine V_block ?_
          refine V_seq ?_
          refine V_draw _ _ 0 Try.mixed (by kernel_rfl) (Sub.refl _) (SubB.refl _) ?_
          refine VD_still rfl rfl rfl rfl (S_field (k := 0) Try.underlying108 rfl rfl ti88 rfl rfl) ?_
          first | refine VD_still rfl rfl rfl rfl (S_load Try.underlying88 rfl rfl (Cell.trk (by repeat (first | exact Has.here | apply Has.there)) rfl)) ?_ | refine VD_still rfl rfl rfl rfl (S_load Try.underlying88 rfl rfl (Cell.known (by first | assumption | exact (by assumption : Sub _ _) _ _ (by assumption) | exact (Sub.trans (by assumption) (by assumption)) _ _ (by assumption)) rfl)) ?_
          refine VD_still rfl rfl rfl rfl (S_move rfl) ?_
          refine VD_still rfl rfl rfl rfl (S_subn i 1 rfl rfl (by omega) (by omega)) ?_
          refine VD_still rfl rfl rfl rfl (X_at (i - 1) Try.underlying88 tx23 rfl rfl hlt1) ?_
          refine VD_still rfl rfl rfl rfl (S_load Try.underlying23 rfl rfl hcc1.1.mem) ?_
          refine VD_still rfl rfl rfl rfl (S_field (k := 0) Try.underlying108 rfl rfl ti88 rfl rfl) ?_
          first | refine VD_still rfl rfl rfl rfl (S_load Try.underlying88 rfl rfl (Cell.trk (by repeat (first | exact Has.here | apply Has.there)) rfl)) ?_ | refine VD_still rfl rfl rfl rfl (S_load Try.underlying88 rfl rfl (Cell.known (by first | assumption | exact (by assumption : Sub _ _) _ _ (by assumption) | exact (Sub.trans (by assumption) (by assumption)) _ _ (by assumption)) rfl)) ?_
          refine VD_still rfl rfl rfl rfl (S_move rfl) ?_
          refine VD_still rfl rfl rfl rfl (X_at i Try.underlying88 tx23 rfl rfl hlt) ?_
          refine VD_still rfl rfl rfl rfl (S_load Try.underlying23 rfl rfl hcc.1.mem) ?_
          refine VD_still rfl rfl rfl rfl (S_geq rfl rfl) ?_
          refine VD_nil ?_
          refine VQ_then ?_
          refine V_cond rfl (fun hc40 => ?_) (fun hc40 => ?_)
          · skip
            have hle : ¬ x.keys[i - 1] < x.keys[i] := by
              have := of_decide_eq_true hc40
              omega
            refine V_seq ?_
            refine V_region ?_
            refine VL_still rfl rfl rfl (S_assign rfl) ?_
            refine VL_nil ?_
            refine VQ_then ?_
            refine V_ret ?_
            refine VQ_block_ret ?_
            refine VQ_then_ret ?_
            refine VQ_then_ret ?_
            refine VQ_block_ret ?_
            refine VQ_then_ret ?_
            refine VQ_fin1 (nb := []) (by first | exact .inl rfl | exact .inr rfl) rfl (RV_tmp rfl) ?sb ?po
            case po =>
              have hr : riseB x.keys = false := by
                cases hr : riseB x.keys with
                | false => rfl
                | true => exact absurd (by have := rise_iff.1 hr (i - 1) (by omega); rwa [hidx] at this) hle
              exact ⟨by simp [formB, hr], rfl, rfl⟩
            case sb => exact (by repeat (first | exact SubB.nil | exact Pick.here | apply Pick.there | apply SubB.emp | apply SubB.cons))
          · skip
            have hle' : x.keys[i - 1] < x.keys[i] := by
              have := of_decide_eq_false hc40
              omega
            have hle : ∀ (j : Nat), j + 1 = i → ∀ (hj : j + 1 < x.keys.length), x.keys[j] < x.keys[j + 1] := by
              rintro j rfl hj
              simpa using hle'
            refine V_skip ?_
            refine VQ_block_normal ?_
            refine VQ_then ?_
            refine V_region ?_
            refine VL_still rfl rfl rfl (S_move rfl) ?_
            first | refine VL_still rfl rfl rfl (S_addi rfl rfl (by omega) (by omega)) ?_ | refine VL_still rfl rfl rfl (S_add rfl rfl) ?_
            refine VL_still rfl rfl rfl (S_assign rfl) ?_
            refine VL_nil ?_
            refine VQ_mid (i + 1) ⟨⟨by omega, by omega, fun j hj hj' => ?_⟩, by omega⟩ (by repeat (first | exact trivial | refine ⟨rfl, ?_⟩)) rfl (by repeat (first | exact SubB.nil | exact Pick.here | apply Pick.there | apply SubB.emp | apply SubB.cons))
            rcases Nat.lt_or_ge (j + 1) i with h1 | h1
            · exact hi3 j hj h1
            · exact hle j (by omega) hj
        · skip
          have hge : x.keys.length ≤ i := by
            have := of_decide_eq_false hc26
            omega
          have hr : riseB x.keys = true := rise_iff.2 fun j hj => hi3 j hj (by omega)
          refine V_exit ?_
          refine VQ_then_exit ?_
          refine VQ_then_exit ?_
          refine VQ_block_exit ?_
          refine VQ_then ?_
          refine V_seq ?_
          refine V_seq ?_
          refine V_region ?_
          refine VL_still rfl rfl rfl (S_field (k := 2) Try.underlying108 rfl rfl ti71 rfl rfl) ?_
          first | refine VL_still rfl rfl rfl (S_load Try.underlying71 rfl rfl (Cell.trk (by repeat (first | exact Has.here | apply Has.there)) rfl)) ?_ | refine VL_still rfl rfl rfl (S_load Try.underlying71 rfl rfl (Cell.known (by first | assumption | exact (by assumption : Sub _ _) _ _ (by assumption) | exact (Sub.trans (by assumption) (by assumption)) _ _ (by assumption)) rfl)) ?_
          refine VL_still rfl rfl rfl (S_len Try.underlying71 rfl) ?_
          refine VL_still rfl rfl rfl (S_eql rfl rfl) ?_
          refine VL_nil ?_
          refine VQ_then ?_
          refine V_cond rfl (fun hc44 => ?_) (fun hc44 => ?_)
          · skip
            have hk0 : x.kids.length = 0 := by
              have := of_decide_eq_true hc44
              omega
            refine V_seq ?_
            refine V_region ?_
            refine VL_still rfl rfl rfl (S_field (k := 1) Try.underlying108 rfl rfl ti89 rfl rfl) ?_
            first | refine VL_still rfl rfl rfl (S_load Try.underlying89 rfl rfl (Cell.trk (by repeat (first | exact Has.here | apply Has.there)) rfl)) ?_ | refine VL_still rfl rfl rfl (S_load Try.underlying89 rfl rfl (Cell.known (by first | assumption | exact (by assumption : Sub _ _) _ _ (by assumption) | exact (Sub.trans (by assumption) (by assumption)) _ _ (by assumption)) rfl)) ?_
            refine VL_still rfl rfl rfl (S_len Try.underlying89 rfl) ?_
            refine VL_still rfl rfl rfl (S_field (k := 0) Try.underlying108 rfl rfl ti88 rfl rfl) ?_
            first | refine VL_still rfl rfl rfl (S_load Try.underlying88 rfl rfl (Cell.trk (by repeat (first | exact Has.here | apply Has.there)) rfl)) ?_ | refine VL_still rfl rfl rfl (S_load Try.underlying88 rfl rfl (Cell.known (by first | assumption | exact (by assumption : Sub _ _) _ _ (by assumption) | exact (Sub.trans (by assumption) (by assumption)) _ _ (by assumption)) rfl)) ?_
            refine VL_still rfl rfl rfl (S_len Try.underlying88 rfl) ?_
            refine VL_still rfl rfl rfl (S_eql rfl rfl) ?_
            refine VL_still rfl rfl rfl (S_assign rfl) ?_
            refine VL_nil ?_
            refine VQ_then ?_
            refine V_ret ?_
            refine VQ_then_ret ?_
            refine VQ_fin1 (nb := []) (by first | exact .inl rfl | exact .inr rfl) rfl (RV_tmp rfl) ?sb ?po
            case po =>
              refine ⟨?_, rfl, rfl⟩
              simp [formB, h7, h3, hr, hk0]
              try omega
            case sb => exact (by repeat (first | exact SubB.nil | exact Pick.here | apply Pick.there | apply SubB.emp | apply SubB.cons))
          · skip
            have hk0 : ¬ x.kids.length = 0 := by
              have := of_decide_eq_false hc44
              omega
            refine V_skip ?_
            refine VQ_then ?_
            refine V_seq ?_
            refine V_region ?_
            refine VL_still rfl rfl rfl (S_field (k := 1) Try.underlying108 rfl rfl ti89 rfl rfl) ?_
            first | refine VL_still rfl rfl rfl (S_load Try.underlying89 rfl rfl (Cell.trk (by repeat (first | exact Has.here | apply Has.there)) rfl)) ?_ | refine VL_still rfl rfl rfl (S_load Try.underlying89 rfl rfl (Cell.known (by first | assumption | exact (by assumption : Sub _ _) _ _ (by assumption) | exact (Sub.trans (by assumption) (by assumption)) _ _ (by assumption)) rfl)) ?_
            refine VL_still rfl rfl rfl (S_len Try.underlying89 rfl) ?_
            refine VL_still rfl rfl rfl (S_eql rfl rfl) ?_
            refine VL_still rfl rfl rfl (S_move rfl) ?_
            refine VL_bool 56 rfl (fun hc56 => ?_) (fun hc56 => ?_)
            · skip
              have hv0 : x.vals.length = 0 := by
                have := of_decide_eq_true hc56
                omega
              refine VL_still rfl rfl rfl (S_field (k := 2) Try.underlying108 rfl rfl ti71 rfl rfl) ?_
              first | refine VL_still rfl rfl rfl (S_load Try.underlying71 rfl rfl (Cell.trk (by repeat (first | exact Has.here | apply Has.there)) rfl)) ?_ | refine VL_still rfl rfl rfl (S_load Try.underlying71 rfl rfl (Cell.known (by first | assumption | exact (by assumption : Sub _ _) _ _ (by assumption) | exact (Sub.trans (by assumption) (by assumption)) _ _ (by assumption)) rfl)) ?_
              refine VL_still rfl rfl rfl (S_len Try.underlying71 rfl) ?_
              refine VL_still rfl rfl rfl (S_field (k := 0) Try.underlying108 rfl rfl ti88 rfl rfl) ?_
              first | refine VL_still rfl rfl rfl (S_load Try.underlying88 rfl rfl (Cell.trk (by repeat (first | exact Has.here | apply Has.there)) rfl)) ?_ | refine VL_still rfl rfl rfl (S_load Try.underlying88 rfl rfl (Cell.known (by first | assumption | exact (by assumption : Sub _ _) _ _ (by assumption) | exact (Sub.trans (by assumption) (by assumption)) _ _ (by assumption)) rfl)) ?_
              refine VL_still rfl rfl rfl (S_len Try.underlying88 rfl) ?_
              first | refine VL_still rfl rfl rfl (S_addi rfl rfl (by omega) (by omega)) ?_ | refine VL_still rfl rfl rfl (S_add rfl rfl) ?_
              refine VL_still rfl rfl rfl (S_eql rfl rfl) ?_
              first | refine VL_still rfl rfl rfl (S_pick_t rfl rfl) ?_ | refine VL_still rfl rfl rfl (S_pick_f rfl rfl) ?_
              refine VL_still rfl rfl rfl (S_move rfl) ?_
              refine VL_bool 66 rfl (fun hc66 => ?_) (fun hc66 => ?_)
              · skip
                have hkk : x.kids.length = x.keys.length + 1 := by
                  have := of_decide_eq_true hc66
                  omega
                refine VL_still rfl rfl rfl (S_field (k := 2) Try.underlying108 rfl rfl ti71 rfl rfl) ?_
                first | refine VL_still rfl rfl rfl (S_load Try.underlying71 rfl rfl (Cell.trk (by repeat (first | exact Has.here | apply Has.there)) rfl)) ?_ | refine VL_still rfl rfl rfl (S_load Try.underlying71 rfl rfl (Cell.known (by first | assumption | exact (by assumption : Sub _ _) _ _ (by assumption) | exact (Sub.trans (by assumption) (by assumption)) _ _ (by assumption)) rfl)) ?_
                refine VL_still rfl rfl rfl (S_len Try.underlying71 rfl) ?_
                refine VL_still rfl rfl rfl (S_geq rfl rfl) ?_
                first | refine VL_still rfl rfl rfl (S_pick_t rfl rfl) ?_ | refine VL_still rfl rfl rfl (S_pick_f rfl rfl) ?_
                refine VL_still rfl rfl rfl (S_assign rfl) ?_
                refine VL_nil ?_
                refine VQ_then ?_
                refine V_ret ?_
                refine VQ_fin1 (nb := []) (by first | exact .inl rfl | exact .inr rfl) rfl (RV_tmp rfl) ?sb ?po
                case po =>
                  refine ⟨?_, rfl, rfl⟩
                  simp [formB, h7, h3, hr, hk0, hv0, hkk]
                  try omega
                case sb => exact (by repeat (first | exact SubB.nil | exact Pick.here | apply Pick.there | apply SubB.emp | apply SubB.cons))
              · skip
                have hkk : ¬ x.kids.length = x.keys.length + 1 := by
                  have := of_decide_eq_false hc66
                  omega
                refine VL_skip rfl rfl rfl ?_
                refine VL_skip rfl rfl rfl ?_
                refine VL_skip rfl rfl rfl ?_
                refine VL_skip rfl rfl rfl ?_
                first | refine VL_still rfl rfl rfl (S_pick_t rfl rfl) ?_ | refine VL_still rfl rfl rfl (S_pick_f rfl rfl) ?_
                refine VL_still rfl rfl rfl (S_assign rfl) ?_
                refine VL_nil ?_
                refine VQ_then ?_
                refine V_ret ?_
                refine VQ_fin1 (nb := []) (by first | exact .inl rfl | exact .inr rfl) rfl (RV_tmp rfl) ?sb ?po
                case po =>
                  refine ⟨?_, rfl, rfl⟩
                  simp [formB, h7, h3, hr, hk0, hv0, hkk]
                case sb => exact (by repeat (first | exact SubB.nil | exact Pick.here | apply Pick.there | apply SubB.emp | apply SubB.cons))
            · skip
              have hv0 : ¬ x.vals.length = 0 := by
                have := of_decide_eq_false hc56
                omega
              refine VL_skip rfl rfl rfl ?_
              refine VL_skip rfl rfl rfl ?_
              refine VL_skip rfl rfl rfl ?_
              refine VL_skip rfl rfl rfl ?_
              refine VL_skip rfl rfl rfl ?_
              refine VL_skip rfl rfl rfl ?_
              refine VL_skip rfl rfl rfl ?_
              refine VL_skip rfl rfl rfl ?_
              first | refine VL_still rfl rfl rfl (S_pick_t rfl rfl) ?_ | refine VL_still rfl rfl rfl (S_pick_f rfl rfl) ?_
              refine VL_still rfl rfl rfl (S_move rfl) ?_
              refine VL_skip rfl rfl rfl ?_
              refine VL_skip rfl rfl rfl ?_
              refine VL_skip rfl rfl rfl ?_
              refine VL_skip rfl rfl rfl ?_
              first | refine VL_still rfl rfl rfl (S_pick_t rfl rfl) ?_ | refine VL_still rfl rfl rfl (S_pick_f rfl rfl) ?_
              refine VL_still rfl rfl rfl (S_assign rfl) ?_
              refine VL_nil ?_
              refine VQ_then ?_
              refine V_ret ?_
              refine VQ_fin1 (nb := []) (by first | exact .inl rfl | exact .inr rfl) rfl (RV_tmp rfl) ?sb ?po
              case po =>
                refine ⟨?_, rfl, rfl⟩
                simp [formB, h7, h3, hr, hk0, hv0]
              case sb => exact (by repeat (first | exact SubB.nil | exact Pick.here | apply Pick.there | apply SubB.emp | apply SubB.cons))
    · skip
      obtain rfl : root = true := by simpa using hc15
      refine VL_skip rfl rfl rfl ?_
      refine VL_skip rfl rfl rfl ?_
      refine VL_skip rfl rfl rfl ?_
      refine VL_skip rfl rfl rfl ?_
      first | refine VL_still rfl rfl rfl (S_pick_t rfl rfl) ?_ | refine VL_still rfl rfl rfl (S_pick_f rfl rfl) ?_
      first | refine VL_still rfl rfl rfl (S_pick_t rfl rfl) ?_ | refine VL_still rfl rfl rfl (S_pick_f rfl rfl) ?_
      refine VL_nil ?_
      refine VQ_then ?_
      refine V_cond_false rfl ?_
      refine V_skip ?_
      refine VQ_then ?_
      refine V_seq ?_
      refine V_seq ?_
      refine V_region ?_
      refine VL_still rfl rfl rfl (S_assign rfl) ?_
      refine VL_nil ?_
      refine VQ_then ?_
      refine V_block ?_
      refine V_loop (ι := Nat) (fun i => x.keys.length + 1 - i) (fun i => 1 ≤ i ∧ i ≤ x.keys.length + 1 ∧ ∀ (j : Nat) (hj : j + 1 < x.keys.length), j + 1 < i → x.keys[j] < x.keys[j + 1]) (fun i => [(2, .bool true), (4, ptr b4), (7, .int .i64 i)]) (fun _ => h) (fun _ => [[(b4, .cells (List.toArray [.slice A1 x.keys.length c1, .slice A2 x.vals.length c2, .slice A3 x.kids.length c3]) 108 (0, 0))]]) 1 ⟨Nat.le_refl _, by omega, fun j hj hj' => absurd hj' (by omega)⟩ (by repeat (first | exact trivial | refine ⟨rfl, ?_⟩)) rfl (by repeat (first | exact SubB.nil | exact Pick.here | apply Pick.there | apply SubB.emp | apply SubB.cons)) (fun i hi => ?_)
      obtain ⟨hi1, hi2, hi3⟩ := hi
      refine V_seq ?_
      refine V_seq ?_
      refine V_region ?_
      refine VL_still rfl rfl rfl (S_move rfl) ?_
      refine VL_still rfl rfl rfl (S_field (k := 0) Try.underlying108 rfl rfl ti88 rfl rfl) ?_
      first | refine VL_still rfl rfl rfl (S_load Try.underlying88 rfl rfl (Cell.trk (by repeat (first | exact Has.here | apply Has.there)) rfl)) ?_ | refine VL_still rfl rfl rfl (S_load Try.underlying88 rfl rfl (Cell.known (by first | assumption | exact (by assumption : Sub _ _) _ _ (by assumption) | exact (Sub.trans (by assumption) (by assumption)) _ _ (by assumption)) rfl)) ?_
      refine VL_still rfl rfl rfl (S_len Try.underlying88 rfl) ?_
      refine VL_still rfl rfl rfl (S_lss rfl rfl) ?_
      refine VL_nil ?_
      refine VQ_then ?_
      refine V_cond rfl (fun hc26 => ?_) (fun hc26 => ?_)
      · skip
        have hlt : i < x.keys.length := by
          have := of_decide_eq_true hc26
          omega
        have hlt1 : i - 1 < x.keys.length := by omega
        obtain ⟨bb, off, cap', e1, hcc⟩ := SlR.at_ kcE hk rfl hlt
        obtain ⟨bb2, off2, cap2', e2, hcc1⟩ := SlR.at_ kcE hk rfl hlt1
        simp only [sv, Value.slice.injEq] at e1 e2
        obtain ⟨rfl, _, rfl⟩ := e1
        obtain ⟨e3, _, rfl⟩ := e2
        simp only [Option.some.injEq, Addr.mk.injEq, and_true] at e3
        obtain ⟨rfl, rfl⟩ := e3
        have hidx : x.keys[i - 1 + 1]'(by omega) = x.keys[i] := by congr 1; omega
        refine V_skip ?_
        refine VQ_then ?_
        refine V_seq ?_
        refine V_block ?_
        refine V_seq ?_
        refine V_draw _ _ 0 Try.mixed (by kernel_rfl) (Sub.refl _) (SubB.refl _) ?_
        refine VD_still rfl rfl rfl rfl (S_field (k := 0) Try.underlying108 rfl rfl ti88 rfl rfl) ?_
        first | refine VD_still rfl rfl rfl rfl (S_load Try.underlying88 rfl rfl (Cell.trk (by repeat (first | exact Has.here | apply Has.there)) rfl)) ?_ | refine VD_still rfl rfl rfl rfl (S_load Try.underlying88 rfl rfl (Cell.known (by first | assumption | exact (by assumption : Sub _ _) _ _ (by assumption) | exact (Sub.trans (by assumption) (by assumption)) _ _ (by assumption)) rfl)) ?_
        refine VD_still rfl rfl rfl rfl (S_move rfl) ?_
        refine VD_still rfl rfl rfl rfl (S_subn i 1 rfl rfl (by omega) (by omega)) ?_
        refine VD_still rfl rfl rfl rfl (X_at (i - 1) Try.underlying88 tx23 rfl rfl hlt1) ?_
        refine VD_still rfl rfl rfl rfl (S_load Try.underlying23 rfl rfl hcc1.1.mem) ?_
        refine VD_still rfl rfl rfl rfl (S_field (k := 0) Try.underlying108 rfl rfl ti88 rfl rfl) ?_
        first | refine VD_still rfl rfl rfl rfl (S_load Try.underlying88 rfl rfl (Cell.trk (by repeat (first | exact Has.here | apply Has.there)) rfl)) ?_ | refine VD_still rfl rfl rfl rfl (S_load Try.underlying88 rfl rfl (Cell.known (by first | assumption | exact (by assumption : Sub _ _) _ _ (by assumption) | exact (Sub.trans (by assumption) (by assumption)) _ _ (by assumption)) rfl)) ?_
        refine VD_still rfl rfl rfl rfl (S_move rfl) ?_
        refine VD_still rfl rfl rfl rfl (X_at i Try.underlying88 tx23 rfl rfl hlt) ?_
        refine VD_still rfl rfl rfl rfl (S_load Try.underlying23 rfl rfl hcc.1.mem) ?_
        refine VD_still rfl rfl rfl rfl (S_geq rfl rfl) ?_
        refine VD_nil ?_
        refine VQ_then ?_
        refine V_cond rfl (fun hc40 => ?_) (fun hc40 => ?_)
        · skip
          have hle : ¬ x.keys[i - 1] < x.keys[i] := by
            have := of_decide_eq_true hc40
            omega
          refine V_seq ?_
          refine V_region ?_
          refine VL_still rfl rfl rfl (S_assign rfl) ?_
          refine VL_nil ?_
          refine VQ_then ?_
          refine V_ret ?_
          refine VQ_block_ret ?_
          refine VQ_then_ret ?_
          refine VQ_then_ret ?_
          refine VQ_block_ret ?_
          refine VQ_then_ret ?_
          refine VQ_fin1 (nb := []) (by first | exact .inl rfl | exact .inr rfl) rfl (RV_tmp rfl) ?sb ?po
          case po =>
            have hr : riseB x.keys = false := by
              cases hr : riseB x.keys with
              | false => rfl
              | true => exact absurd (by have := rise_iff.1 hr (i - 1) (by omega); rwa [hidx] at this) hle
            exact ⟨by simp [formB, hr], rfl, rfl⟩
          case sb => exact (by repeat (first | exact SubB.nil | exact Pick.here | apply Pick.there | apply SubB.emp | apply SubB.cons))
        · skip
          have hle' : x.keys[i - 1] < x.keys[i] := by
            have := of_decide_eq_false hc40
            omega
          have hle : ∀ (j : Nat), j + 1 = i → ∀ (hj : j + 1 < x.keys.length), x.keys[j] < x.keys[j + 1] := by
            rintro j rfl hj
            simpa using hle'
          refine V_skip ?_
          refine VQ_block_normal ?_
          refine VQ_then ?_
          refine V_region ?_
          refine VL_still rfl rfl rfl (S_move rfl) ?_
          first | refine VL_still rfl rfl rfl (S_addi rfl rfl (by omega) (by omega)) ?_ | refine VL_still rfl rfl rfl (S_add rfl rfl) ?_
          refine VL_still rfl rfl rfl (S_assign rfl) ?_
          refine VL_nil ?_
          refine VQ_mid (i + 1) ⟨⟨by omega, by omega, fun j hj hj' => ?_⟩, by omega⟩ (by repeat (first | exact trivial | refine ⟨rfl, ?_⟩)) rfl (by repeat (first | exact SubB.nil | exact Pick.here | apply Pick.there | apply SubB.emp | apply SubB.cons))
          rcases Nat.lt_or_ge (j + 1) i with h1 | h1
          · exact hi3 j hj h1
          · exact hle j (by omega) hj
      · skip
        have hge : x.keys.length ≤ i := by
          have := of_decide_eq_false hc26
          omega
        have hr : riseB x.keys = true := rise_iff.2 fun j hj => hi3 j hj (by omega)
        refine V_exit ?_
        refine VQ_then_exit ?_
        refine VQ_then_exit ?_
        refine VQ_block_exit ?_
        refine VQ_then ?_
        refine V_seq ?_
        refine V_seq ?_
        refine V_region ?_
        refine VL_still rfl rfl rfl (S_field (k := 2) Try.underlying108 rfl rfl ti71 rfl rfl) ?_
        first | refine VL_still rfl rfl rfl (S_load Try.underlying71 rfl rfl (Cell.trk (by repeat (first | exact Has.here | apply Has.there)) rfl)) ?_ | refine VL_still rfl rfl rfl (S_load Try.underlying71 rfl rfl (Cell.known (by first | assumption | exact (by assumption : Sub _ _) _ _ (by assumption) | exact (Sub.trans (by assumption) (by assumption)) _ _ (by assumption)) rfl)) ?_
        refine VL_still rfl rfl rfl (S_len Try.underlying71 rfl) ?_
        refine VL_still rfl rfl rfl (S_eql rfl rfl) ?_
        refine VL_nil ?_
        refine VQ_then ?_
        refine V_cond rfl (fun hc44 => ?_) (fun hc44 => ?_)
        · skip
          have hk0 : x.kids.length = 0 := by
            have := of_decide_eq_true hc44
            omega
          refine V_seq ?_
          refine V_region ?_
          refine VL_still rfl rfl rfl (S_field (k := 1) Try.underlying108 rfl rfl ti89 rfl rfl) ?_
          first | refine VL_still rfl rfl rfl (S_load Try.underlying89 rfl rfl (Cell.trk (by repeat (first | exact Has.here | apply Has.there)) rfl)) ?_ | refine VL_still rfl rfl rfl (S_load Try.underlying89 rfl rfl (Cell.known (by first | assumption | exact (by assumption : Sub _ _) _ _ (by assumption) | exact (Sub.trans (by assumption) (by assumption)) _ _ (by assumption)) rfl)) ?_
          refine VL_still rfl rfl rfl (S_len Try.underlying89 rfl) ?_
          refine VL_still rfl rfl rfl (S_field (k := 0) Try.underlying108 rfl rfl ti88 rfl rfl) ?_
          first | refine VL_still rfl rfl rfl (S_load Try.underlying88 rfl rfl (Cell.trk (by repeat (first | exact Has.here | apply Has.there)) rfl)) ?_ | refine VL_still rfl rfl rfl (S_load Try.underlying88 rfl rfl (Cell.known (by first | assumption | exact (by assumption : Sub _ _) _ _ (by assumption) | exact (Sub.trans (by assumption) (by assumption)) _ _ (by assumption)) rfl)) ?_
          refine VL_still rfl rfl rfl (S_len Try.underlying88 rfl) ?_
          refine VL_still rfl rfl rfl (S_eql rfl rfl) ?_
          refine VL_still rfl rfl rfl (S_assign rfl) ?_
          refine VL_nil ?_
          refine VQ_then ?_
          refine V_ret ?_
          refine VQ_then_ret ?_
          refine VQ_fin1 (nb := []) (by first | exact .inl rfl | exact .inr rfl) rfl (RV_tmp rfl) ?sb ?po
          case po =>
            refine ⟨?_, rfl, rfl⟩
            simp [formB, h7, hr, hk0]
            try omega
          case sb => exact (by repeat (first | exact SubB.nil | exact Pick.here | apply Pick.there | apply SubB.emp | apply SubB.cons))
        · skip
          have hk0 : ¬ x.kids.length = 0 := by
            have := of_decide_eq_false hc44
            omega
          refine V_skip ?_
          refine VQ_then ?_
          refine V_seq ?_
          refine V_region ?_
          refine VL_still rfl rfl rfl (S_field (k := 1) Try.underlying108 rfl rfl ti89 rfl rfl) ?_
          first | refine VL_still rfl rfl rfl (S_load Try.underlying89 rfl rfl (Cell.trk (by repeat (first | exact Has.here | apply Has.there)) rfl)) ?_ | refine VL_still rfl rfl rfl (S_load Try.underlying89 rfl rfl (Cell.known (by first | assumption | exact (by assumption : Sub _ _) _ _ (by assumption) | exact (Sub.trans (by assumption) (by assumption)) _ _ (by assumption)) rfl)) ?_
          refine VL_still rfl rfl rfl (S_len Try.underlying89 rfl) ?_
          refine VL_still rfl rfl rfl (S_eql rfl rfl) ?_
          refine VL_still rfl rfl rfl (S_move rfl) ?_
          refine VL_bool 56 rfl (fun hc56 => ?_) (fun hc56 => ?_)
          · skip
            have hv0 : x.vals.length = 0 := by
              have := of_decide_eq_true hc56
              omega
            refine VL_still rfl rfl rfl (S_field (k := 2) Try.underlying108 rfl rfl ti71 rfl rfl) ?_
            first | refine VL_still rfl rfl rfl (S_load Try.underlying71 rfl rfl (Cell.trk (by repeat (first | exact Has.here | apply Has.there)) rfl)) ?_ | refine VL_still rfl rfl rfl (S_load Try.underlying71 rfl rfl (Cell.known (by first | assumption | exact (by assumption : Sub _ _) _ _ (by assumption) | exact (Sub.trans (by assumption) (by assumption)) _ _ (by assumption)) rfl)) ?_
            refine VL_still rfl rfl rfl (S_len Try.underlying71 rfl) ?_
            refine VL_still rfl rfl rfl (S_field (k := 0) Try.underlying108 rfl rfl ti88 rfl rfl) ?_
            first | refine VL_still rfl rfl rfl (S_load Try.underlying88 rfl rfl (Cell.trk (by repeat (first | exact Has.here | apply Has.there)) rfl)) ?_ | refine VL_still rfl rfl rfl (S_load Try.underlying88 rfl rfl (Cell.known (by first | assumption | exact (by assumption : Sub _ _) _ _ (by assumption) | exact (Sub.trans (by assumption) (by assumption)) _ _ (by assumption)) rfl)) ?_
            refine VL_still rfl rfl rfl (S_len Try.underlying88 rfl) ?_
            first | refine VL_still rfl rfl rfl (S_addi rfl rfl (by omega) (by omega)) ?_ | refine VL_still rfl rfl rfl (S_add rfl rfl) ?_
            refine VL_still rfl rfl rfl (S_eql rfl rfl) ?_
            first | refine VL_still rfl rfl rfl (S_pick_t rfl rfl) ?_ | refine VL_still rfl rfl rfl (S_pick_f rfl rfl) ?_
            refine VL_still rfl rfl rfl (S_move rfl) ?_
            refine VL_bool 66 rfl (fun hc66 => ?_) (fun hc66 => ?_)
            · skip
              have hkk : x.kids.length = x.keys.length + 1 := by
                have := of_decide_eq_true hc66
                omega
              refine VL_still rfl rfl rfl (S_field (k := 2) Try.underlying108 rfl rfl ti71 rfl rfl) ?_
              first | refine VL_still rfl rfl rfl (S_load Try.underlying71 rfl rfl (Cell.trk (by repeat (first | exact Has.here | apply Has.there)) rfl)) ?_ | refine VL_still rfl rfl rfl (S_load Try.underlying71 rfl rfl (Cell.known (by first | assumption | exact (by assumption : Sub _ _) _ _ (by assumption) | exact (Sub.trans (by assumption) (by assumption)) _ _ (by assumption)) rfl)) ?_
              refine VL_still rfl rfl rfl (S_len Try.underlying71 rfl) ?_
              refine VL_still rfl rfl rfl (S_geq rfl rfl) ?_
              first | refine VL_still rfl rfl rfl (S_pick_t rfl rfl) ?_ | refine VL_still rfl rfl rfl (S_pick_f rfl rfl) ?_
              refine VL_still rfl rfl rfl (S_assign rfl) ?_
              refine VL_nil ?_
              refine VQ_then ?_
              refine V_ret ?_
              refine VQ_fin1 (nb := []) (by first | exact .inl rfl | exact .inr rfl) rfl (RV_tmp rfl) ?sb ?po
              case po =>
                refine ⟨?_, rfl, rfl⟩
                simp [formB, h7, hr, hk0, hv0, hkk]
                try omega
              case sb => exact (by repeat (first | exact SubB.nil | exact Pick.here | apply Pick.there | apply SubB.emp | apply SubB.cons))
            · skip
              have hkk : ¬ x.kids.length = x.keys.length + 1 := by
                have := of_decide_eq_false hc66
                omega
              refine VL_skip rfl rfl rfl ?_
              refine VL_skip rfl rfl rfl ?_
              refine VL_skip rfl rfl rfl ?_
              refine VL_skip rfl rfl rfl ?_
              first | refine VL_still rfl rfl rfl (S_pick_t rfl rfl) ?_ | refine VL_still rfl rfl rfl (S_pick_f rfl rfl) ?_
              refine VL_still rfl rfl rfl (S_assign rfl) ?_
              refine VL_nil ?_
              refine VQ_then ?_
              refine V_ret ?_
              refine VQ_fin1 (nb := []) (by first | exact .inl rfl | exact .inr rfl) rfl (RV_tmp rfl) ?sb ?po
              case po =>
                refine ⟨?_, rfl, rfl⟩
                simp [formB, h7, hr, hk0, hv0, hkk]
              case sb => exact (by repeat (first | exact SubB.nil | exact Pick.here | apply Pick.there | apply SubB.emp | apply SubB.cons))
          · skip
            have hv0 : ¬ x.vals.length = 0 := by
              have := of_decide_eq_false hc56
              omega
            refine VL_skip rfl rfl rfl ?_
            refine VL_skip rfl rfl rfl ?_
            refine VL_skip rfl rfl rfl ?_
            refine VL_skip rfl rfl rfl ?_
            refine VL_skip rfl rfl rfl ?_
            refine VL_skip rfl rfl rfl ?_
            refine VL_skip rfl rfl rfl ?_
            refine VL_skip rfl rfl rfl ?_
            first | refine VL_still rfl rfl rfl (S_pick_t rfl rfl) ?_ | refine VL_still rfl rfl rfl (S_pick_f rfl rfl) ?_
            refine VL_still rfl rfl rfl (S_move rfl) ?_
            refine VL_skip rfl rfl rfl ?_
            refine VL_skip rfl rfl rfl ?_
            refine VL_skip rfl rfl rfl ?_
            refine VL_skip rfl rfl rfl ?_
            first | refine VL_still rfl rfl rfl (S_pick_t rfl rfl) ?_ | refine VL_still rfl rfl rfl (S_pick_f rfl rfl) ?_
            refine VL_still rfl rfl rfl (S_assign rfl) ?_
            refine VL_nil ?_
            refine VQ_then ?_
            refine V_ret ?_
            refine VQ_fin1 (nb := []) (by first | exact .inl rfl | exact .inr rfl) rfl (RV_tmp rfl) ?sb ?po
            case po =>
              refine ⟨?_, rfl, rfl⟩
              simp [formB, h7, hr, hk0, hv0]
            case sb => exact (by repeat (first | exact SubB.nil | exact Pick.here | apply Pick.there | apply SubB.emp | apply SubB.cons))

end Go.Proofs.Ytdglignjoojimaa
