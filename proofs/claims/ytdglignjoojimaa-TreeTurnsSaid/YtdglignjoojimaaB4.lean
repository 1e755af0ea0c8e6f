/- Contracts of the library's Grow and Concat. No conditions. -/
import Derived.Test.YtdglignjoojimaaB1
import Derived.Test.YtdglignjoojimaaB2
import Derived.Test.YtdglignjoojimaaB3
set_option linter.unusedVariables false
set_option linter.unusedSimpArgs false
namespace Go.Proofs.Ytdglignjoojimaa

/-- What is put together, one behind the other. -/
def tot (ps : List (Value × Nat × List Value)) : Nat := (ps.map (fun x => x.2.1)).sum
def catL (ps : List (Value × Nat × List Value)) : List Value := ps.flatMap (fun x => x.2.2)
theorem tot_snoc (ps : List (Value × Nat × List Value)) (i : Nat) (hi : i < ps.length) : tot (ps.take (i + 1)) = tot (ps.take i) + ps[i].2.1 := by
  rw [List.take_succ_eq_append_getElem hi]; unfold tot; rw [List.map_append, List.sum_append]; simp
theorem catL_snoc (ps : List (Value × Nat × List Value)) (i : Nat) (hi : i < ps.length) : catL (ps.take (i + 1)) = catL (ps.take i) ++ ps[i].2.2 := by
  rw [List.take_succ_eq_append_getElem hi]; unfold catL; rw [List.flatMap_append]; simp
theorem tot_le (ps : List (Value × Nat × List Value)) (i : Nat) : tot (ps.take i) ≤ tot ps := by
  conv => rhs; rw [← List.take_append_drop i ps]
  unfold tot; rw [List.map_append, List.sum_append]; omega

set_option maxRecDepth 100000 in
theorem x_grow (m : Nat) (h : Hp) (hn : m ≤ 1000000) : Con Try.prog 105 [.slice none 0 0, .int .i64 (m : Int)] h [] (fun r h' nb => h = h' ∧ ∃ G', Buf 34 2 r 0 [] G' ∧ nb = [G']) := by
  refine Con_of Try.func105 rfl Try.ntmps105 (Nat.le_of_ble_eq_true rfl) (fun w0 => ?_)
  refine V_seq ?_
  refine V_region ?_
  refine VL_still rfl rfl rfl (S_assign rfl) ?_
  refine VL_nil ?_
  refine VQ_then ?_
  refine V_seq ?_
  refine V_seq ?_
  refine V_region ?_
  refine VL_still rfl rfl rfl (S_move rfl) ?_
  refine VL_still rfl rfl rfl (S_lss rfl rfl) ?_
  refine VL_nil ?_
  refine VQ_then ?_
  refine V_cond rfl (fun hc6 => ?_) (fun hc6 => ?_)
  · skip
    have := of_decide_eq_true hc6
    omega
  · skip
    refine V_skip ?_
    refine VQ_then ?_
    refine V_seq ?_
    refine V_seq ?_
    refine V_region ?_
    refine VL_still rfl rfl rfl (S_move rfl) ?_
    refine VL_still rfl rfl rfl (S_move rfl) ?_
    refine VL_still rfl rfl rfl (S_cap Try.underlying89 rfl) ?_
    refine VL_still rfl rfl rfl (S_move rfl) ?_
    refine VL_still rfl rfl rfl (S_len Try.underlying89 rfl) ?_
    first | refine VL_still rfl rfl rfl (S_subi rfl rfl (by omega) (by omega)) ?_ | refine VL_still rfl rfl rfl (S_sub rfl rfl) ?_
    rw [show ((0 : Nat) : Int) - ((0 : Nat) : Int) = 0 by omega]
    first | refine VL_still rfl rfl rfl (S_subi rfl rfl (by omega) (by omega)) ?_ | refine VL_still rfl rfl rfl (S_sub rfl rfl) ?_
    rw [show (m : Int) - 0 = m by omega]
    refine VL_still rfl rfl rfl (S_assign rfl) ?_
    refine VL_nil ?_
    refine VQ_then ?_
    refine V_seq ?_
    refine V_region ?_
    refine VL_still rfl rfl rfl (S_move rfl) ?_
    refine VL_still rfl rfl rfl (S_gtr rfl rfl) ?_
    refine VL_nil ?_
    refine VQ_then ?_
    refine V_cond rfl (fun hc16 => ?_) (fun hc16 => ?_)
    · skip
      have hm : (0 : Int) < m := of_decide_eq_true hc16
      refine V_region ?_
      refine VL_still rfl rfl rfl (S_move rfl) ?_
      refine VL_still rfl rfl rfl (S_move rfl) ?_
      refine VL_still rfl rfl rfl (S_cap Try.underlying89 rfl) ?_
      refine VL_still rfl rfl rfl (X_to 0 (by simp) Try.underlying89 tx34 rfl rfl (by omega)) ?_
      refine VL_still rfl rfl rfl (S_move rfl) ?_
      refine VL_eff rfl (X_append_zeros (m := (m : Int)) rfl Try.underlying89 Try.underlying3 tx34 rfl rfl rfl rfl rfl (SlR.nil 2) (by omega) (by omega) (by omega)) ?_
      rintro _ _ _ ⟨b9, cap9, sp9, hb9, k1, k2, k3, rfl, rfl, rfl⟩
      refine VL_still rfl rfl rfl (S_move rfl) ?_
      refine VL_still rfl rfl rfl (S_len Try.underlying89 rfl) ?_
      refine VL_still rfl rfl rfl (X_to 0 (by simp) Try.underlying89 tx34 rfl rfl (by omega)) ?_
      refine VL_still rfl rfl rfl (S_assign rfl) ?_
      refine VL_nil ?_
      refine VQ_then ?_
      refine V_seq ?_
      refine V_region ?_
      refine VL_still rfl rfl rfl (S_move rfl) ?_
      refine VL_still rfl rfl rfl (S_assign rfl) ?_
      refine VL_nil ?_
      refine VQ_then ?_
      refine V_ret ?_
      refine VQ_fin1 (nb := [[(b9, .cells (List.toArray ([] ++ fillC (.agg #[(.int .i64 0), (.int .i64 0)]) (m : Int).toNat ++ sp9)) 34 (0, 0))]]) (by first | exact .inl rfl | exact .inr rfl) rfl (RV_tmp rfl) ?sb ?po
      case po =>
        exact ⟨rfl, _, .inr ⟨b9, cap9, fillC (.agg #[(.int .i64 0), (.int .i64 0)]) (m : Int).toNat ++ sp9, rfl, by simp, by omega, by omega, by simp, by simpa using k3⟩, rfl⟩
      case sb => exact (by repeat (first | exact SubB.nil | exact Pick.here | apply Pick.there | apply SubB.emp | apply SubB.cons))
    · skip
      refine V_skip ?_
      refine VQ_then ?_
      refine V_seq ?_
      refine V_region ?_
      refine VL_still rfl rfl rfl (S_move rfl) ?_
      refine VL_still rfl rfl rfl (S_assign rfl) ?_
      refine VL_nil ?_
      refine VQ_then ?_
      refine V_ret ?_
      refine VQ_fin1 (nb := [[]]) (by first | exact .inl rfl | exact .inr rfl) rfl (RV_tmp rfl) ?sb ?po
      case po =>
        exact ⟨rfl, [], Buf.nil _ _, rfl⟩
      case sb => exact (by repeat (first | exact SubB.nil | exact Pick.here | apply Pick.there | apply SubB.emp | apply SubB.cons))

set_option maxRecDepth 100000 in
theorem x_concat (b2 : Nat) (ps : List (Value × Nat × List Value)) (h : Hp) (hp : ∀ x ∈ ps, SlR h [] x.1 x.2.1 x.2.2 2) (ho : ∀ x ∈ ps, ones x.2.2 = true) (hn : tot ps ≤ 1000000) (hl : ps.length ≤ 1000000) : Con Try.prog 87 [.slice (some ⟨b2, 0, none⟩) ps.length ps.length] h [[(b2, .cells (List.toArray (ps.map (fun x => x.1))) 89 (0, 0))]] (fun r h' nb => h = h' ∧ ∃ G', Buf 34 2 r (tot ps) (catL ps) G' ∧ nb = [G']) := by
  refine Con_of Try.func87 rfl Try.ntmps87 (Nat.le_of_ble_eq_true rfl) (fun w0 => ?_)
  refine V_seq ?_
  refine V_region ?_
  refine VL_still rfl rfl rfl (S_assign rfl) ?_
  refine VL_nil ?_
  refine VQ_then ?_
  refine V_seq ?_
  refine V_region ?_
  refine VL_still rfl rfl rfl (S_assign rfl) ?_
  refine VL_nil ?_
  refine VQ_then ?_
  refine V_seq ?_
  refine V_seq ?_
  refine V_region ?_
  refine VL_still rfl rfl rfl (S_move rfl) ?_
  refine VL_still rfl rfl rfl (S_len Try.underlying189 rfl) ?_
  refine VL_still rfl rfl rfl (S_move rfl) ?_
  refine VL_nil ?_
  refine VQ_then ?_
  refine V_block ?_
  refine V_loop (ι := Nat) (fun i => ps.length - i) (fun i => i ≤ ps.length) (fun i => [(0, (.slice (some ⟨b2, 0, none⟩) ps.length ps.length)), (3, .int .i64 (tot (ps.take i) : Int)), (9, (.slice (some ⟨b2, 0, none⟩) ps.length ps.length)), (10, .int .i64 ps.length), (11, .int .i64 i)]) (fun _ => h) (fun _ => [[(b2, .cells (List.toArray (ps.map (fun x => x.1))) 89 (0, 0))]]) 0 (Nat.zero_le _) (by repeat (first | exact trivial | refine ⟨rfl, ?_⟩)) rfl (by repeat (first | exact SubB.nil | exact Pick.here | apply Pick.there | apply SubB.emp | apply SubB.cons)) (fun i hi => ?_)
  refine V_seq ?_
  refine V_region ?_
  refine VL_still rfl rfl rfl (S_lss rfl rfl) ?_
  refine VL_nil ?_
  refine VQ_then ?_
  refine V_seq ?_
  refine V_cond rfl (fun hc12 => ?_) (fun hc12 => ?_)
  · skip
    have hlt : i < ps.length := by
      have := of_decide_eq_true hc12
      omega
    have hpi := hp ps[i] (List.getElem_mem hlt)
    obtain ⟨Ai, ci, ei, li1, li2⟩ := hpi.form
    have hti := tot_snoc ps i hlt
    have htl := tot_le ps (i + 1)
    have hv : (ps.map (fun x => x.1))[0 + i * 1]? = some (.slice Ai ps[i].2.1 ci) := by
      rw [Nat.zero_add, Nat.mul_one, List.getElem?_map, List.getElem?_eq_getElem hlt, ← ei]; rfl
    refine V_skip ?_
    refine VQ_then ?_
    refine V_seq ?_
    refine V_block ?_
    refine V_seq ?_
    refine V_region ?_
    refine VL_still rfl rfl rfl (X_at i Try.underlying189 tx89 rfl rfl hlt) ?_
    refine VL_still rfl rfl rfl (S_load Try.underlying89 rfl rfl (Cell.trk (by repeat (first | exact Has.here | apply Has.there)) hv)) ?_
    refine VL_still rfl rfl rfl (S_assign rfl) ?_
    refine VL_nil ?_
    refine VQ_then ?_
    refine V_seq ?_
    refine V_region ?_
    refine VL_still rfl rfl rfl (S_move rfl) ?_
    refine VL_still rfl rfl rfl (S_move rfl) ?_
    refine VL_still rfl rfl rfl (S_len Try.underlying89 rfl) ?_
    refine VL_still rfl rfl rfl (S_addn (tot (ps.take i)) ps[i].2.1 rfl rfl (by omega)) ?_
    refine VL_still rfl rfl rfl (S_assign rfl) ?_
    refine VL_nil ?_
    refine VQ_then ?_
    refine V_seq ?_
    refine V_region ?_
    refine VL_still rfl rfl rfl (S_move rfl) ?_
    refine VL_still rfl rfl rfl (S_lss rfl rfl) ?_
    refine VL_nil ?_
    refine VQ_then ?_
    refine V_cond rfl (fun hc20 => ?_) (fun hc20 => ?_)
    · skip
      have := of_decide_eq_true hc20
      omega
    · skip
      refine V_skip ?_
      refine VQ_block_normal ?_
      refine VQ_then ?_
      refine V_region ?_
      first | refine VL_still rfl rfl rfl (S_addi rfl rfl (by omega) (by omega)) ?_ | refine VL_still rfl rfl rfl (S_add rfl rfl) ?_
      refine VL_still rfl rfl rfl (S_move rfl) ?_
      refine VL_nil ?_
      refine VQ_mid (i + 1) ⟨by omega, by omega⟩ (by rw [tot_snoc ps i hlt]; exact (by repeat (first | exact trivial | refine ⟨rfl, ?_⟩))) rfl (by repeat (first | exact SubB.nil | exact Pick.here | apply Pick.there | apply SubB.emp | apply SubB.cons))
  · skip
    have hge : i = ps.length := by
      have := of_decide_eq_false hc12
      omega
    subst hge
    rw [List.take_length]
    refine V_exit ?_
    refine VQ_then_exit ?_
    refine VQ_then_exit ?_
    refine VQ_block_exit ?_
    refine VQ_then ?_
    refine V_seq ?_
    refine V_region ?_
    refine VL_still rfl rfl rfl (S_move rfl) ?_
    refine VL_eff rfl (E_call rfl rfl rfl Try.call105 (x_grow (tot ps) h (by omega)) (by repeat (first | exact Split.nil | exact Pick.here | apply Pick.there | apply Split.cons))) ?_
    rintro _ hh24 _ ⟨v24, nb24, ⟨rfl, G24, hB24, rfl⟩, hs24, rfl, rfl⟩
    refine VL_still rfl rfl rfl (S_assign rfl) ?_
    refine VL_nil ?_
    refine VQ_then ?_
    refine V_seq ?_
    refine V_seq ?_
    refine V_region ?_
    refine VL_still rfl rfl rfl (S_move rfl) ?_
    refine VL_still rfl rfl rfl (S_len Try.underlying189 rfl) ?_
    refine VL_still rfl rfl rfl (S_move rfl) ?_
    refine VL_nil ?_
    refine VQ_then ?_
    refine V_block ?_
    refine V_loop (ι := Nat × Value × Gr) (fun i => ps.length - i.1) (fun (i, v, G) => i ≤ ps.length ∧ Buf 34 2 v (tot (ps.take i)) (catL (ps.take i)) G) (fun (i, v, G) => [(6, v), (25, (.slice (some ⟨b2, 0, none⟩) ps.length ps.length)), (26, .int .i64 ps.length), (27, .int .i64 i)]) (fun _ => h) (fun (i, v, G) => [G, [(b2, .cells (List.toArray (ps.map (fun x => x.1))) 89 (0, 0))]]) (0, v24, G24) ⟨Nat.zero_le _, hB24⟩ (by repeat (first | exact trivial | refine ⟨rfl, ?_⟩)) rfl (by repeat (first | exact SubB.nil | exact Pick.here | apply Pick.there | apply SubB.emp | apply SubB.cons)) (fun ⟨i, v6, G6⟩ hi => ?_)
    obtain ⟨hi1, hB6⟩ := hi
    simp only at hi1 hB6 ⊢
    refine V_seq ?_
    refine V_region ?_
    refine VL_still rfl rfl rfl (S_lss rfl rfl) ?_
    refine VL_nil ?_
    refine VQ_then ?_
    refine V_seq ?_
    refine V_cond rfl (fun hc28 => ?_) (fun hc28 => ?_)
    · skip
      have hlt : i < ps.length := by
        have := of_decide_eq_true hc28
        omega
      have hpi := hp ps[i] (List.getElem_mem hlt)
      obtain ⟨Ai, ci, ei, li1, li2⟩ := hpi.form
      have hti := tot_snoc ps i hlt
      have htl := tot_le ps (i + 1)
      have hv : (ps.map (fun x => x.1))[0 + i * 1]? = some (.slice Ai ps[i].2.1 ci) := by
        rw [Nat.zero_add, Nat.mul_one, List.getElem?_map, List.getElem?_eq_getElem hlt, ← ei]; rfl
      refine V_skip ?_
      refine VQ_then ?_
      refine V_seq ?_
      refine V_block ?_
      refine V_seq ?_
      refine V_region ?_
      refine VL_still rfl rfl rfl (X_at i Try.underlying189 tx89 rfl rfl hlt) ?_
      refine VL_still rfl rfl rfl (S_load Try.underlying89 rfl rfl (Cell.trk (by repeat (first | exact Has.here | apply Has.there)) hv)) ?_
      refine VL_still rfl rfl rfl (S_assign rfl) ?_
      refine VL_nil ?_
      refine VQ_then ?_
      refine V_region ?_
      refine VL_still rfl rfl rfl (S_move rfl) ?_
      refine VL_still rfl rfl rfl (S_move rfl) ?_
      refine VL_eff rfl (X_append rfl Try.underlying89 Try.underlying89 rfl tx34 rfl rfl rfl rfl hB6 (by repeat (first | exact Pick.here | apply Pick.there)) (SlR.sub (by rw [← ei]; exact hpi) (Sub.refl _)) (ho _ (List.getElem_mem hlt)) (by omega)) ?_
      rintro _ _ _ ⟨v33, G33, hB33, rfl, rfl, rfl⟩
      refine VL_still rfl rfl rfl (S_assign rfl) ?_
      refine VL_nil ?_
      refine VQ_block_normal ?_
      refine VQ_then ?_
      refine V_region ?_
      first | refine VL_still rfl rfl rfl (S_addi rfl rfl (by omega) (by omega)) ?_ | refine VL_still rfl rfl rfl (S_add rfl rfl) ?_
      refine VL_still rfl rfl rfl (S_move rfl) ?_
      refine VL_nil ?_
      refine VQ_mid (i + 1, v33, G33) ⟨⟨by omega, ?_⟩, by simp only; omega⟩ (by repeat (first | exact trivial | refine ⟨rfl, ?_⟩)) rfl (by repeat (first | exact SubB.nil | exact Pick.here | apply Pick.there | apply SubB.emp | apply SubB.cons))
      show Buf 34 2 _ _ _ _
      rw [tot_snoc ps i hlt, catL_snoc ps i hlt]
      exact hB33
    · skip
      refine V_exit ?_
      refine VQ_then_exit ?_
      refine VQ_then_exit ?_
      refine VQ_block_exit ?_
      refine VQ_then ?_
      refine V_seq ?_
      refine V_region ?_
      refine VL_still rfl rfl rfl (S_move rfl) ?_
      refine VL_still rfl rfl rfl (S_assign rfl) ?_
      refine VL_nil ?_
      refine VQ_then ?_
      refine V_ret ?_
      refine VQ_fin1 (nb := [G6]) (by first | exact .inl rfl | exact .inr rfl) rfl (RV_tmp rfl) ?sb ?po
      case po =>
        have hge : i = ps.length := by
          have := of_decide_eq_false hc28
          omega
        subst hge
        rw [List.take_length] at hB6
        exact ⟨rfl, G6, hB6, rfl⟩
      case sb => exact (by repeat (first | exact SubB.nil | exact Pick.here | apply Pick.there | apply SubB.emp | apply SubB.cons))

set_option maxRecDepth 100000 in
theorem n_grow (m : Nat) (h : Hp) (hn : m ≤ 1000000) : Con Try.prog 106 [.slice none 0 0, .int .i64 (m : Int)] h [] (fun r h' nb => h = h' ∧ ∃ G', Buf 83 1 r 0 [] G' ∧ nb = [G']) := by
  refine Con_of Try.func106 rfl Try.ntmps106 (Nat.le_of_ble_eq_true rfl) (fun w0 => ?_)
  refine V_seq ?_
  refine V_region ?_
  refine VL_still rfl rfl rfl (S_assign rfl) ?_
  refine VL_nil ?_
  refine VQ_then ?_
  refine V_seq ?_
  refine V_seq ?_
  refine V_region ?_
  refine VL_still rfl rfl rfl (S_move rfl) ?_
  refine VL_still rfl rfl rfl (S_lss rfl rfl) ?_
  refine VL_nil ?_
  refine VQ_then ?_
  refine V_cond rfl (fun hc6 => ?_) (fun hc6 => ?_)
  · skip
    have := of_decide_eq_true hc6
    omega
  · skip
    refine V_skip ?_
    refine VQ_then ?_
    refine V_seq ?_
    refine V_seq ?_
    refine V_region ?_
    refine VL_still rfl rfl rfl (S_move rfl) ?_
    refine VL_still rfl rfl rfl (S_move rfl) ?_
    refine VL_still rfl rfl rfl (S_cap Try.underlying90 rfl) ?_
    refine VL_still rfl rfl rfl (S_move rfl) ?_
    refine VL_still rfl rfl rfl (S_len Try.underlying90 rfl) ?_
    first | refine VL_still rfl rfl rfl (S_subi rfl rfl (by omega) (by omega)) ?_ | refine VL_still rfl rfl rfl (S_sub rfl rfl) ?_
    rw [show ((0 : Nat) : Int) - ((0 : Nat) : Int) = 0 by omega]
    first | refine VL_still rfl rfl rfl (S_subi rfl rfl (by omega) (by omega)) ?_ | refine VL_still rfl rfl rfl (S_sub rfl rfl) ?_
    rw [show (m : Int) - 0 = m by omega]
    refine VL_still rfl rfl rfl (S_assign rfl) ?_
    refine VL_nil ?_
    refine VQ_then ?_
    refine V_seq ?_
    refine V_region ?_
    refine VL_still rfl rfl rfl (S_move rfl) ?_
    refine VL_still rfl rfl rfl (S_gtr rfl rfl) ?_
    refine VL_nil ?_
    refine VQ_then ?_
    refine V_cond rfl (fun hc16 => ?_) (fun hc16 => ?_)
    · skip
      have hm : (0 : Int) < m := of_decide_eq_true hc16
      refine V_region ?_
      refine VL_still rfl rfl rfl (S_move rfl) ?_
      refine VL_still rfl rfl rfl (S_move rfl) ?_
      refine VL_still rfl rfl rfl (S_cap Try.underlying90 rfl) ?_
      refine VL_still rfl rfl rfl (X_to 0 (by simp) Try.underlying90 tx83 rfl rfl (by omega)) ?_
      refine VL_still rfl rfl rfl (S_move rfl) ?_
      refine VL_eff rfl (X_append_zeros (m := (m : Int)) rfl Try.underlying90 Try.underlying3 tx83 rfl rfl rfl rfl rfl (SlR.nil 1) (by omega) (by omega) (by omega)) ?_
      rintro _ _ _ ⟨b9, cap9, sp9, hb9, k1, k2, k3, rfl, rfl, rfl⟩
      refine VL_still rfl rfl rfl (S_move rfl) ?_
      refine VL_still rfl rfl rfl (S_len Try.underlying90 rfl) ?_
      refine VL_still rfl rfl rfl (X_to 0 (by simp) Try.underlying90 tx83 rfl rfl (by omega)) ?_
      refine VL_still rfl rfl rfl (S_assign rfl) ?_
      refine VL_nil ?_
      refine VQ_then ?_
      refine V_seq ?_
      refine V_region ?_
      refine VL_still rfl rfl rfl (S_move rfl) ?_
      refine VL_still rfl rfl rfl (S_assign rfl) ?_
      refine VL_nil ?_
      refine VQ_then ?_
      refine V_ret ?_
      refine VQ_fin1 (nb := [[(b9, .cells (List.toArray ([] ++ fillC (.pointer none) (m : Int).toNat ++ sp9)) 83 (0, 0))]]) (by first | exact .inl rfl | exact .inr rfl) rfl (RV_tmp rfl) ?sb ?po
      case po =>
        exact ⟨rfl, _, .inr ⟨b9, cap9, fillC (.pointer none) (m : Int).toNat ++ sp9, rfl, by simp, by omega, by omega, by simp, by simpa using k3⟩, rfl⟩
      case sb => exact (by repeat (first | exact SubB.nil | exact Pick.here | apply Pick.there | apply SubB.emp | apply SubB.cons))
    · skip
      refine V_skip ?_
      refine VQ_then ?_
      refine V_seq ?_
      refine V_region ?_
      refine VL_still rfl rfl rfl (S_move rfl) ?_
      refine VL_still rfl rfl rfl (S_assign rfl) ?_
      refine VL_nil ?_
      refine VQ_then ?_
      refine V_ret ?_
      refine VQ_fin1 (nb := [[]]) (by first | exact .inl rfl | exact .inr rfl) rfl (RV_tmp rfl) ?sb ?po
      case po =>
        exact ⟨rfl, [], Buf.nil _ _, rfl⟩
      case sb => exact (by repeat (first | exact SubB.nil | exact Pick.here | apply Pick.there | apply SubB.emp | apply SubB.cons))

set_option maxRecDepth 100000 in
theorem n_concat (b2 : Nat) (ps : List (Value × Nat × List Value)) (h : Hp) (hp : ∀ x ∈ ps, SlR h [] x.1 x.2.1 x.2.2 1) (ho : ∀ x ∈ ps, ones x.2.2 = true) (hn : tot ps ≤ 1000000) (hl : ps.length ≤ 1000000) : Con Try.prog 88 [.slice (some ⟨b2, 0, none⟩) ps.length ps.length] h [[(b2, .cells (List.toArray (ps.map (fun x => x.1))) 90 (0, 0))]] (fun r h' nb => h = h' ∧ ∃ G', Buf 83 1 r (tot ps) (catL ps) G' ∧ nb = [G']) := by
  refine Con_of Try.func88 rfl Try.ntmps88 (Nat.le_of_ble_eq_true rfl) (fun w0 => ?_)
  refine V_seq ?_
  refine V_region ?_
  refine VL_still rfl rfl rfl (S_assign rfl) ?_
  refine VL_nil ?_
  refine VQ_then ?_
  refine V_seq ?_
  refine V_region ?_
  refine VL_still rfl rfl rfl (S_assign rfl) ?_
  refine VL_nil ?_
  refine VQ_then ?_
  refine V_seq ?_
  refine V_seq ?_
  refine V_region ?_
  refine VL_still rfl rfl rfl (S_move rfl) ?_
  refine VL_still rfl rfl rfl (S_len Try.underlying191 rfl) ?_
  refine VL_still rfl rfl rfl (S_move rfl) ?_
  refine VL_nil ?_
  refine VQ_then ?_
  refine V_block ?_
  refine V_loop (ι := Nat) (fun i => ps.length - i) (fun i => i ≤ ps.length) (fun i => [(0, (.slice (some ⟨b2, 0, none⟩) ps.length ps.length)), (3, .int .i64 (tot (ps.take i) : Int)), (9, (.slice (some ⟨b2, 0, none⟩) ps.length ps.length)), (10, .int .i64 ps.length), (11, .int .i64 i)]) (fun _ => h) (fun _ => [[(b2, .cells (List.toArray (ps.map (fun x => x.1))) 90 (0, 0))]]) 0 (Nat.zero_le _) (by repeat (first | exact trivial | refine ⟨rfl, ?_⟩)) rfl (by repeat (first | exact SubB.nil | exact Pick.here | apply Pick.there | apply SubB.emp | apply SubB.cons)) (fun i hi => ?_)
  refine V_seq ?_
  refine V_region ?_
  refine VL_still rfl rfl rfl (S_lss rfl rfl) ?_
  refine VL_nil ?_
  refine VQ_then ?_
  refine V_seq ?_
  refine V_cond rfl (fun hc12 => ?_) (fun hc12 => ?_)
  · skip
    have hlt : i < ps.length := by
      have := of_decide_eq_true hc12
      omega
    have hpi := hp ps[i] (List.getElem_mem hlt)
    obtain ⟨Ai, ci, ei, li1, li2⟩ := hpi.form
    have hti := tot_snoc ps i hlt
    have htl := tot_le ps (i + 1)
    have hv : (ps.map (fun x => x.1))[0 + i * 1]? = some (.slice Ai ps[i].2.1 ci) := by
      rw [Nat.zero_add, Nat.mul_one, List.getElem?_map, List.getElem?_eq_getElem hlt, ← ei]; rfl
    refine V_skip ?_
    refine VQ_then ?_
    refine V_seq ?_
    refine V_block ?_
    refine V_seq ?_
    refine V_region ?_
    refine VL_still rfl rfl rfl (X_at i Try.underlying191 tx90 rfl rfl hlt) ?_
    refine VL_still rfl rfl rfl (S_load Try.underlying90 rfl rfl (Cell.trk (by repeat (first | exact Has.here | apply Has.there)) hv)) ?_
    refine VL_still rfl rfl rfl (S_assign rfl) ?_
    refine VL_nil ?_
    refine VQ_then ?_
    refine V_seq ?_
    refine V_region ?_
    refine VL_still rfl rfl rfl (S_move rfl) ?_
    refine VL_still rfl rfl rfl (S_move rfl) ?_
    refine VL_still rfl rfl rfl (S_len Try.underlying90 rfl) ?_
    refine VL_still rfl rfl rfl (S_addn (tot (ps.take i)) ps[i].2.1 rfl rfl (by omega)) ?_
    refine VL_still rfl rfl rfl (S_assign rfl) ?_
    refine VL_nil ?_
    refine VQ_then ?_
    refine V_seq ?_
    refine V_region ?_
    refine VL_still rfl rfl rfl (S_move rfl) ?_
    refine VL_still rfl rfl rfl (S_lss rfl rfl) ?_
    refine VL_nil ?_
    refine VQ_then ?_
    refine V_cond rfl (fun hc20 => ?_) (fun hc20 => ?_)
    · skip
      have := of_decide_eq_true hc20
      omega
    · skip
      refine V_skip ?_
      refine VQ_block_normal ?_
      refine VQ_then ?_
      refine V_region ?_
      first | refine VL_still rfl rfl rfl (S_addi rfl rfl (by omega) (by omega)) ?_ | refine VL_still rfl rfl rfl (S_add rfl rfl) ?_
      refine VL_still rfl rfl rfl (S_move rfl) ?_
      refine VL_nil ?_
      refine VQ_mid (i + 1) ⟨by omega, by omega⟩ (by rw [tot_snoc ps i hlt]; exact (by repeat (first | exact trivial | refine ⟨rfl, ?_⟩))) rfl (by repeat (first | exact SubB.nil | exact Pick.here | apply Pick.there | apply SubB.emp | apply SubB.cons))
  · skip
    have hge : i = ps.length := by
      have := of_decide_eq_false hc12
      omega
    subst hge
    rw [List.take_length]
    refine V_exit ?_
    refine VQ_then_exit ?_
    refine VQ_then_exit ?_
    refine VQ_block_exit ?_
    refine VQ_then ?_
    refine V_seq ?_
    refine V_region ?_
    refine VL_still rfl rfl rfl (S_move rfl) ?_
    refine VL_eff rfl (E_call rfl rfl rfl Try.call106 (n_grow (tot ps) h (by omega)) (by repeat (first | exact Split.nil | exact Pick.here | apply Pick.there | apply Split.cons))) ?_
    rintro _ hh24 _ ⟨v24, nb24, ⟨rfl, G24, hB24, rfl⟩, hs24, rfl, rfl⟩
    refine VL_still rfl rfl rfl (S_assign rfl) ?_
    refine VL_nil ?_
    refine VQ_then ?_
    refine V_seq ?_
    refine V_seq ?_
    refine V_region ?_
    refine VL_still rfl rfl rfl (S_move rfl) ?_
    refine VL_still rfl rfl rfl (S_len Try.underlying191 rfl) ?_
    refine VL_still rfl rfl rfl (S_move rfl) ?_
    refine VL_nil ?_
    refine VQ_then ?_
    refine V_block ?_
    refine V_loop (ι := Nat × Value × Gr) (fun i => ps.length - i.1) (fun (i, v, G) => i ≤ ps.length ∧ Buf 83 1 v (tot (ps.take i)) (catL (ps.take i)) G) (fun (i, v, G) => [(6, v), (25, (.slice (some ⟨b2, 0, none⟩) ps.length ps.length)), (26, .int .i64 ps.length), (27, .int .i64 i)]) (fun _ => h) (fun (i, v, G) => [G, [(b2, .cells (List.toArray (ps.map (fun x => x.1))) 90 (0, 0))]]) (0, v24, G24) ⟨Nat.zero_le _, hB24⟩ (by repeat (first | exact trivial | refine ⟨rfl, ?_⟩)) rfl (by repeat (first | exact SubB.nil | exact Pick.here | apply Pick.there | apply SubB.emp | apply SubB.cons)) (fun ⟨i, v6, G6⟩ hi => ?_)
    obtain ⟨hi1, hB6⟩ := hi
    simp only at hi1 hB6 ⊢
    refine V_seq ?_
    refine V_region ?_
    refine VL_still rfl rfl rfl (S_lss rfl rfl) ?_
    refine VL_nil ?_
    refine VQ_then ?_
    refine V_seq ?_
    refine V_cond rfl (fun hc28 => ?_) (fun hc28 => ?_)
    · skip
      have hlt : i < ps.length := by
        have := of_decide_eq_true hc28
        omega
      have hpi := hp ps[i] (List.getElem_mem hlt)
      obtain ⟨Ai, ci, ei, li1, li2⟩ := hpi.form
      have hti := tot_snoc ps i hlt
      have htl := tot_le ps (i + 1)
      have hv : (ps.map (fun x => x.1))[0 + i * 1]? = some (.slice Ai ps[i].2.1 ci) := by
        rw [Nat.zero_add, Nat.mul_one, List.getElem?_map, List.getElem?_eq_getElem hlt, ← ei]; rfl
      refine V_skip ?_
      refine VQ_then ?_
      refine V_seq ?_
      refine V_block ?_
      refine V_seq ?_
      refine V_region ?_
      refine VL_still rfl rfl rfl (X_at i Try.underlying191 tx90 rfl rfl hlt) ?_
      refine VL_still rfl rfl rfl (S_load Try.underlying90 rfl rfl (Cell.trk (by repeat (first | exact Has.here | apply Has.there)) hv)) ?_
      refine VL_still rfl rfl rfl (S_assign rfl) ?_
      refine VL_nil ?_
      refine VQ_then ?_
      refine V_region ?_
      refine VL_still rfl rfl rfl (S_move rfl) ?_
      refine VL_still rfl rfl rfl (S_move rfl) ?_
      refine VL_eff rfl (X_append rfl Try.underlying90 Try.underlying90 rfl tx83 rfl rfl rfl rfl hB6 (by repeat (first | exact Pick.here | apply Pick.there)) (SlR.sub (by rw [← ei]; exact hpi) (Sub.refl _)) (ho _ (List.getElem_mem hlt)) (by omega)) ?_
      rintro _ _ _ ⟨v33, G33, hB33, rfl, rfl, rfl⟩
      refine VL_still rfl rfl rfl (S_assign rfl) ?_
      refine VL_nil ?_
      refine VQ_block_normal ?_
      refine VQ_then ?_
      refine V_region ?_
      first | refine VL_still rfl rfl rfl (S_addi rfl rfl (by omega) (by omega)) ?_ | refine VL_still rfl rfl rfl (S_add rfl rfl) ?_
      refine VL_still rfl rfl rfl (S_move rfl) ?_
      refine VL_nil ?_
      refine VQ_mid (i + 1, v33, G33) ⟨⟨by omega, ?_⟩, by simp only; omega⟩ (by repeat (first | exact trivial | refine ⟨rfl, ?_⟩)) rfl (by repeat (first | exact SubB.nil | exact Pick.here | apply Pick.there | apply SubB.emp | apply SubB.cons))
      show Buf 83 1 _ _ _ _
      rw [tot_snoc ps i hlt, catL_snoc ps i hlt]
      exact hB33
    · skip
      refine V_exit ?_
      refine VQ_then_exit ?_
      refine VQ_then_exit ?_
      refine VQ_block_exit ?_
      refine VQ_then ?_
      refine V_seq ?_
      refine V_region ?_
      refine VL_still rfl rfl rfl (S_move rfl) ?_
      refine VL_still rfl rfl rfl (S_assign rfl) ?_
      refine VL_nil ?_
      refine VQ_then ?_
      refine V_ret ?_
      refine VQ_fin1 (nb := [G6]) (by first | exact .inl rfl | exact .inr rfl) rfl (RV_tmp rfl) ?sb ?po
      case po =>
        have hge : i = ps.length := by
          have := of_decide_eq_false hc28
          omega
        subst hge
        rw [List.take_length] at hB6
        exact ⟨rfl, G6, hB6, rfl⟩
      case sb => exact (by repeat (first | exact SubB.nil | exact Pick.here | apply Pick.there | apply SubB.emp | apply SubB.cons))

end Go.Proofs.Ytdglignjoojimaa
