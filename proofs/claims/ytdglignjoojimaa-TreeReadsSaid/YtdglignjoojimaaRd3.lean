/- Texts of one proof, one behind the other: B5, B6, B7, T3, B8, T4, B9, B10, T5. No conditions. -/
import Derived.Test.YtdglignjoojimaaRd2
/- Search and a node's small functions. No conditions. -/
set_option linter.unusedVariables false
set_option linter.unusedSimpArgs false
namespace Go.Proofs.Ytdglignjoojimaa


/-- Keys, extents and addresses, laid in cells. -/
abbrev Ext := Int × Int
def kc (k : Int) : List Value := [.int .u64 k]
def xc (e : Ext) : List Value := [.int .i64 e.1, .int .i64 e.2]
def pc (b : Nat) : List Value := [.pointer (some ⟨b, 0, none⟩)]
theorem kcE : Enc kc 1 := ⟨fun _ => rfl, fun _ => rfl⟩
theorem xcE : Enc xc 2 := ⟨fun _ => rfl, fun _ => rfl⟩
theorem pcE : Enc pc 1 := ⟨fun _ => rfl, fun _ => rfl⟩
abbrev kcs (l : List Int) : List Value := l.flatMap kc
abbrev xcs (l : List Ext) : List Value := l.flatMap xc
abbrev pcs (l : List Nat) : List Value := l.flatMap pc
abbrev ptr (b : Nat) : Value := .pointer (some ⟨b, 0, none⟩)
/-- A node's block. -/
abbrev GN (b : Nat) (kv vv cv : Value) : Gr := [(b, .cells (List.toArray [kv, vv, cv]) 92 (0, 0))]
abbrev BK (v : Value) (l : List Int) (G : Gr) : Prop := Buf 23 1 v l.length (kcs l) G
abbrev BV (v : Value) (l : List Ext) (G : Gr) : Prop := Buf 34 2 v l.length (xcs l) G
abbrev BC (v : Value) (l : List Nat) (G : Gr) : Prop := Buf 83 1 v l.length (pcs l) G
/-- A node that is known for good: its keys, its extents, where its kids are. -/
def NodeAt (h : Hp) (b : Nat) (ks : List Int) (vs : List Ext) (bs : List Nat) : Prop :=
  ∃ kv vv cv, h b = some (.cells (List.toArray [kv, vv, cv]) 92 (0, 0)) ∧ SlR h [] kv ks.length (kcs ks) 1 ∧ SlR h [] vv vs.length (xcs vs) 2 ∧ SlR h [] cv bs.length (pcs bs) 1
theorem NodeAt.sub {h h' : Hp} {b : Nat} {ks : List Int} {vs : List Ext} {bs : List Nat} (n : NodeAt h b ks vs bs) (s : Sub h h') : NodeAt h' b ks vs bs :=
  let ⟨kv, vv, cv, a, b, c, d⟩ := n
  ⟨kv, vv, cv, s _ _ a, b.sub s, c.sub s, d.sub s⟩
theorem NodeAt.own {h : Hp} {b : Nat} {ks : List Int} {vs : List Ext} {bs : List Nat} {kv vv cv : Value} {Gk Gv Gc : Gr} (h0 : KnowG h (GN b kv vv cv)) (h1 : KnowG h Gk) (h2 : KnowG h Gv) (h3 : KnowG h Gc)
    (b1 : BK kv ks Gk) (b2 : BV vv vs Gv) (b3 : BC cv bs Gc) : NodeAt h b ks vs bs :=
  ⟨kv, vv, cv, h0 (b, .cells (List.toArray [kv, vv, cv]) 92 (0, 0)) (by simp), b1.known h1, b2.known h2, b3.known h3⟩
/-- A tree that is known for good. -/
def Rp (h : Hp) : Nat → Nat → Tr → Prop
  | 0, b, .leaf l => NodeAt h b (keysP l) (l.map (fun p => p.2)) []
  | d + 1, b, .node ks ts => ∃ bs, NodeAt h b ks [] bs ∧ All2 (Rp h d) bs ts
  | _, _, _ => False
theorem Rp.sub {h h' : Hp} (s : Sub h h') : ∀ {d b : Nat} {t : Tr}, Rp h d b t → Rp h' d b t
  | 0, b, .leaf l, r => NodeAt.sub r s
  | d + 1, b, .node ks ts, ⟨bs, n, a⟩ => ⟨bs, n.sub s, a.mono fun _ _ r => Rp.sub s r⟩
theorem keysP_len (l : List Pr) : (keysP l).length = l.length := by simp [keysP]
theorem kcs_app (a b : List Int) : kcs (a ++ b) = kcs a ++ kcs b := List.flatMap_append
theorem xcs_app (a b : List Ext) : xcs (a ++ b) = xcs a ++ xcs b := List.flatMap_append
theorem pcs_app (a b : List Nat) : pcs (a ++ b) = pcs a ++ pcs b := List.flatMap_append
theorem getD_at {l : List Int} {i : Nat} (h : i < l.length) : l.getD i 0 = l[i] := by simp [List.getD_eq_getElem?_getD, h]

set_option maxRecDepth 100000 in
theorem isNaN1 (a : Int) (h : Hp) : Con Try.prog 79 [.int .u64 a] h [] (fun r h' nb => r = .bool false ∧ h = h' ∧ nb = []) := by
  refine Con_of Try.func79 rfl Try.ntmps79 (Nat.le_of_ble_eq_true rfl) (fun w0 => ?_)
  refine V_seq ?_
  refine V_region ?_
  refine VL_still rfl rfl rfl (S_assign rfl) ?_
  refine VL_nil ?_
  refine VQ_then ?_
  refine V_seq ?_
  refine V_region ?_
  refine VL_still rfl rfl rfl (S_move rfl) ?_
  refine VL_still rfl rfl rfl (S_move rfl) ?_
  refine VL_still rfl rfl rfl (S_neq rfl rfl) ?_
  refine VL_still rfl rfl rfl (S_assign rfl) ?_
  refine VL_nil ?_
  refine VQ_then ?_
  refine V_ret ?_
  refine VQ_fin1 (nb := []) (by first | exact .inl rfl | exact .inr rfl) rfl (RV_tmp rfl) ?sb ?po
  case po =>
    exact ⟨by simp, rfl, rfl⟩
  case sb => exact (by repeat (first | exact SubB.nil | exact Pick.here | apply Pick.there | apply SubB.emp | apply SubB.cons))

set_option maxRecDepth 100000 in
theorem isNaN2 (a : Int) (h : Hp) : Con Try.prog 57 [.int .u64 a] h [] (fun r h' nb => r = .bool false ∧ h = h' ∧ nb = []) := by
  refine Con_of Try.func57 rfl Try.ntmps57 (Nat.le_of_ble_eq_true rfl) (fun w0 => ?_)
  refine V_seq ?_
  refine V_region ?_
  refine VL_still rfl rfl rfl (S_assign rfl) ?_
  refine VL_nil ?_
  refine VQ_then ?_
  refine V_seq ?_
  refine V_region ?_
  refine VL_still rfl rfl rfl (S_move rfl) ?_
  refine VL_still rfl rfl rfl (S_move rfl) ?_
  refine VL_still rfl rfl rfl (S_neq rfl rfl) ?_
  refine VL_still rfl rfl rfl (S_assign rfl) ?_
  refine VL_nil ?_
  refine VQ_then ?_
  refine V_ret ?_
  refine VQ_fin1 (nb := []) (by first | exact .inl rfl | exact .inr rfl) rfl (RV_tmp rfl) ?sb ?po
  case po =>
    exact ⟨by simp, rfl, rfl⟩
  case sb => exact (by repeat (first | exact SubB.nil | exact Pick.here | apply Pick.there | apply SubB.emp | apply SubB.cons))

set_option maxRecDepth 100000 in
theorem less_con (a b : Int) (h : Hp) : Con Try.prog 56 [.int .u64 a, .int .u64 b] h [] (fun r h' nb => r = .bool (decide (a < b)) ∧ h = h' ∧ nb = []) := by
  refine Con_of Try.func56 rfl Try.ntmps56 (Nat.le_of_ble_eq_true rfl) (fun w0 => ?_)
  refine V_seq ?_
  refine V_region ?_
  refine VL_still rfl rfl rfl (S_assign rfl) ?_
  refine VL_nil ?_
  refine VQ_then ?_
  refine V_seq ?_
  refine V_region ?_
  refine VL_still rfl rfl rfl (S_move rfl) ?_
  refine VL_eff rfl (E_call rfl rfl rfl Try.call79 (isNaN1 a h) (by repeat (first | exact Split.nil | exact Pick.here | apply Pick.there | apply Split.cons))) ?_
  rintro _ hh6 _ ⟨v6, nb6, ⟨rfl, rfl, rfl⟩, hs6, rfl, rfl⟩
  refine VL_still rfl rfl rfl (S_move rfl) ?_
  refine VL_bool 7 rfl (fun hc7 => ?_) (fun hc7 => ?_)
  · skip
    simp at hc7
  · skip
    refine VL_skip rfl rfl rfl ?_
    refine VL_skip rfl rfl rfl ?_
    refine VL_skip rfl rfl rfl ?_
    first | refine VL_still rfl rfl rfl (S_pick_t rfl rfl) ?_ | refine VL_still rfl rfl rfl (S_pick_f rfl rfl) ?_
    refine VL_still rfl rfl rfl (S_move rfl) ?_
    refine VL_still rfl rfl rfl (S_move rfl) ?_
    refine VL_still rfl rfl rfl (S_move rfl) ?_
    refine VL_still rfl rfl rfl (S_lss rfl rfl) ?_
    first | refine VL_still rfl rfl rfl (S_pick_t rfl rfl) ?_ | refine VL_still rfl rfl rfl (S_pick_f rfl rfl) ?_
    refine VL_still rfl rfl rfl (S_assign rfl) ?_
    refine VL_nil ?_
    refine VQ_then ?_
    refine V_ret ?_
    refine VQ_fin1 (nb := []) (by first | exact .inl rfl | exact .inr rfl) rfl (RV_tmp rfl) ?sb ?po
    case po =>
      exact ⟨by simp, rfl, rfl⟩
    case sb => exact (by repeat (first | exact SubB.nil | exact Pick.here | apply Pick.there | apply SubB.emp | apply SubB.cons))

set_option maxRecDepth 100000 in
theorem bs_con (v : Value) (ks : List Int) (k lo hi : Int) (h : Hp) (hs : SlR h [] v ks.length (kcs ks) 1) (hu : Up lo hi ks) (hn : ks.length ≤ 1000000) : Con Try.prog 41 [v, .int .u64 k] h [] (fun r h' nb => r = .tuple #[.int .i64 (lb ks k : Nat), .bool (decide (ks[lb ks k]? = some k))] ∧ h = h' ∧ nb = []) := by
  obtain ⟨A, cap, rfl, hle, hmx⟩ := hs.form
  refine Con_of Try.func41 rfl Try.ntmps41 (Nat.le_of_ble_eq_true rfl) (fun w0 => ?_)
  refine V_seq ?_
  refine V_region ?_
  refine VL_still rfl rfl rfl (S_assign rfl) ?_
  refine VL_still rfl rfl rfl (S_assign rfl) ?_
  refine VL_nil ?_
  refine VQ_then ?_
  refine V_seq ?_
  refine V_region ?_
  refine VL_still rfl rfl rfl (S_move rfl) ?_
  refine VL_still rfl rfl rfl (S_len Try.underlying88 rfl) ?_
  refine VL_still rfl rfl rfl (S_assign rfl) ?_
  refine VL_nil ?_
  refine VQ_then ?_
  refine V_seq ?_
  refine V_region ?_
  refine VL_still rfl rfl rfl (S_move rfl) ?_
  refine VL_still rfl rfl rfl (S_assign rfl) ?_
  refine VL_still rfl rfl rfl (S_assign rfl) ?_
  refine VL_nil ?_
  refine VQ_then ?_
  refine V_seq ?_
  refine V_block ?_
  refine V_loop (ι := Nat × Nat) (fun x => x.2 - x.1) (fun (i, j) => i ≤ j ∧ j ≤ ks.length ∧ (∀ q (hq : q < ks.length), q < i → ks[q] < k) ∧ (∀ q (hq : q < ks.length), j ≤ q → k ≤ ks[q])) (fun (i, j) => [(0, .slice A ks.length cap), (1, .int .u64 k), (6, .int .i64 (ks.length : Nat)), (7, .int .i64 (i : Nat)), (8, .int .i64 (j : Nat))]) (fun _ => h) (fun _ => []) (0, ks.length) ⟨Nat.zero_le _, Nat.le_refl _, fun q hq h => absurd h (by omega), fun q hq h => absurd h (by omega)⟩ (by repeat (first | exact trivial | refine ⟨rfl, ?_⟩)) rfl SubB.nil (fun ⟨i, j⟩ hi => ?_)
  obtain ⟨hi1, hi2, hi3, hi4⟩ := hi
  simp only at hi1 hi2 hi3 hi4 ⊢
  refine V_seq ?_
  refine V_seq ?_
  refine V_region ?_
  refine VL_still rfl rfl rfl (S_move rfl) ?_
  refine VL_still rfl rfl rfl (S_move rfl) ?_
  refine VL_still rfl rfl rfl (S_lss rfl rfl) ?_
  refine VL_nil ?_
  refine VQ_then ?_
  refine V_cond rfl (fun hc15 => ?_) (fun hc15 => ?_)
  · skip
    have hij : i < j := by
      have := of_decide_eq_true hc15
      omega
    have hm : (i + j) / 2 < ks.length := by omega
    obtain ⟨bb, off, cap', e1, hc⟩ := hs.at_ kcE rfl hm
    cases e1
    refine V_skip ?_
    refine VQ_then ?_
    refine V_block ?_
    refine V_seq ?_
    refine V_region ?_
    refine VL_still rfl rfl rfl (S_move rfl) ?_
    refine VL_still rfl rfl rfl (S_move rfl) ?_
    refine VL_still rfl rfl rfl (S_addn i j rfl rfl (by omega)) ?_
    refine VL_still rfl rfl rfl (S_convu Try.underlying3 Try.underlying130 rfl (by omega) (by omega)) ?_
    refine VL_still rfl rfl rfl (S_half rfl rfl (by omega)) ?_
    refine VL_still rfl rfl rfl (S_convi Try.underlying130 Try.underlying3 rfl (by omega) (by omega)) ?_
    rw [show (((i + j : Nat) : Int) / 2) = (((i + j) / 2 : Nat) : Int) by omega]
    refine VL_still rfl rfl rfl (S_assign rfl) ?_
    refine VL_nil ?_
    refine VQ_then ?_
    refine V_seq ?_
    refine V_region ?_
    refine VL_still rfl rfl rfl (S_move rfl) ?_
    refine VL_still rfl rfl rfl (S_move rfl) ?_
    refine VL_still rfl rfl rfl (X_at ((i + j) / 2) Try.underlying88 tx23 rfl rfl hm) ?_
    refine VL_still rfl rfl rfl (S_load Try.underlying23 rfl rfl hc.1) ?_
    refine VL_still rfl rfl rfl (S_move rfl) ?_
    refine VL_eff rfl (E_call rfl rfl rfl Try.call56 (less_con ks[(i + j) / 2] k h) (by repeat (first | exact Split.nil | exact Pick.here | apply Pick.there | apply Split.cons))) ?_
    rintro _ hh27 _ ⟨v27, nb27, ⟨rfl, rfl, rfl⟩, hs27, rfl, rfl⟩
    refine VL_nil ?_
    refine VQ_then ?_
    refine V_cond rfl (fun hc27 => ?_) (fun hc27 => ?_)
    · skip
      have hlt : ks[(i + j) / 2] < k := of_decide_eq_true hc27
      refine V_region ?_
      refine VL_still rfl rfl rfl (S_move rfl) ?_
      refine VL_still rfl rfl rfl (S_addn ((i + j) / 2) 1 rfl rfl (by omega)) ?_
      refine VL_still rfl rfl rfl (S_assign rfl) ?_
      refine VL_nil ?_
      refine VQ_block_normal ?_
      refine VQ_mid ((i + j) / 2 + 1, j) ⟨⟨by omega, hi2, fun q hq hq' => ?_, hi4⟩, by simp only; omega⟩ (by repeat (first | exact trivial | refine ⟨rfl, ?_⟩)) rfl SubB.nil
      rcases Nat.lt_or_ge q ((i + j) / 2) with h1 | h1
      · exact Int.lt_of_le_of_lt (Up.get_le hu h1 hm) hlt
      · obtain rfl : q = (i + j) / 2 := by omega
        exact hlt
    · skip
      have hge : k ≤ ks[(i + j) / 2] := by
        have := of_decide_eq_false hc27
        omega
      refine V_region ?_
      refine VL_still rfl rfl rfl (S_move rfl) ?_
      refine VL_still rfl rfl rfl (S_assign rfl) ?_
      refine VL_nil ?_
      refine VQ_block_normal ?_
      refine VQ_mid (i, (i + j) / 2) ⟨⟨by omega, by omega, hi3, fun q hq hq' => ?_⟩, by simp only; omega⟩ (by repeat (first | exact trivial | refine ⟨rfl, ?_⟩)) rfl SubB.nil
      rcases Nat.lt_or_ge ((i + j) / 2) q with h1 | h1
      · exact Int.le_trans hge (Up.get_le hu h1 hq)
      · obtain rfl : q = (i + j) / 2 := by omega
        exact hge
  · skip
    obtain rfl : i = j := by
      have := of_decide_eq_false hc15
      omega
    obtain rfl : lb ks k = i := lb_of hi2 hi3 hi4
    refine V_exit ?_
    refine VQ_then_exit ?_
    refine VQ_then_exit ?_
    refine VQ_block_exit ?_
    refine VQ_then ?_
    refine V_seq ?_
    refine V_region ?_
    refine VL_still rfl rfl rfl (S_move rfl) ?_
    refine VL_still rfl rfl rfl (S_move rfl) ?_
    refine VL_still rfl rfl rfl (S_move rfl) ?_
    refine VL_still rfl rfl rfl (S_lss rfl rfl) ?_
    refine VL_still rfl rfl rfl (S_move rfl) ?_
    refine VL_bool 35 rfl (fun hc35 => ?_) (fun hc35 => ?_)
    · skip
      have hlt : lb ks k < ks.length := by
        have := of_decide_eq_true hc35
        omega
      obtain ⟨bb, off, cap', e1, hc⟩ := hs.at_ kcE rfl hlt
      cases e1
      refine VL_still rfl rfl rfl (S_move rfl) ?_
      refine VL_still rfl rfl rfl (S_move rfl) ?_
      refine VL_still rfl rfl rfl (X_at (lb ks k) Try.underlying88 tx23 rfl rfl hlt) ?_
      refine VL_still rfl rfl rfl (S_load Try.underlying23 rfl rfl hc.1) ?_
      refine VL_still rfl rfl rfl (S_move rfl) ?_
      refine VL_still rfl rfl rfl (S_eql rfl rfl) ?_
      refine VL_still rfl rfl rfl (S_move rfl) ?_
      refine VL_bool 42 rfl (fun hc42 => ?_) (fun hc42 => ?_)
      · skip
        refine VL_skip rfl rfl rfl ?_
        refine VL_skip rfl rfl rfl ?_
        refine VL_skip rfl rfl rfl ?_
        refine VL_skip rfl rfl rfl ?_
        refine VL_skip rfl rfl rfl ?_
        refine VL_skip rfl rfl rfl ?_
        refine VL_skip rfl rfl rfl ?_
        refine VL_skip rfl rfl rfl ?_
        refine VL_skip rfl rfl rfl ?_
        first | refine VL_still rfl rfl rfl (S_pick_t rfl rfl) ?_ | refine VL_still rfl rfl rfl (S_pick_f rfl rfl) ?_
        first | refine VL_still rfl rfl rfl (S_pick_t rfl rfl) ?_ | refine VL_still rfl rfl rfl (S_pick_f rfl rfl) ?_
        refine VL_still rfl rfl rfl (S_assign rfl) ?_
        refine VL_still rfl rfl rfl (S_assign rfl) ?_
        refine VL_nil ?_
        refine VQ_then ?_
        refine V_ret ?_
        refine VQ_fin2 (nb := []) (by first | exact .inl rfl | exact .inr rfl) rfl (RV_tmp rfl) (RV_tmp rfl) ?sb ?po
        case po =>
          have e : ks[lb ks k] = k := of_decide_eq_true hc42
          refine ⟨?_, rfl, rfl⟩
          rw [show decide (ks[lb ks k]? = some k) = true from decide_eq_true (by rw [List.getElem?_eq_getElem hlt, e])]
        case sb => exact (by repeat (first | exact SubB.nil | exact Pick.here | apply Pick.there | apply SubB.emp | apply SubB.cons))
      · skip
        refine VL_still rfl rfl rfl (S_move rfl) ?_
        refine VL_still rfl rfl rfl (S_move rfl) ?_
        refine VL_still rfl rfl rfl (X_at (lb ks k) Try.underlying88 tx23 rfl rfl hlt) ?_
        refine VL_still rfl rfl rfl (S_load Try.underlying23 rfl rfl hc.1) ?_
        refine VL_eff rfl (E_call rfl rfl rfl Try.call57 (isNaN2 ks[lb ks k] h) (by repeat (first | exact Split.nil | exact Pick.here | apply Pick.there | apply Split.cons))) ?_
        rintro _ hh47 _ ⟨v47, nb47, ⟨rfl, rfl, rfl⟩, hs47, rfl, rfl⟩
        refine VL_still rfl rfl rfl (S_move rfl) ?_
        refine VL_bool 48 rfl (fun hc48 => ?_) (fun hc48 => ?_)
        · skip
          simp at hc48
        · skip
          refine VL_skip rfl rfl rfl ?_
          refine VL_skip rfl rfl rfl ?_
          first | refine VL_still rfl rfl rfl (S_pick_t rfl rfl) ?_ | refine VL_still rfl rfl rfl (S_pick_f rfl rfl) ?_
          first | refine VL_still rfl rfl rfl (S_pick_t rfl rfl) ?_ | refine VL_still rfl rfl rfl (S_pick_f rfl rfl) ?_
          first | refine VL_still rfl rfl rfl (S_pick_t rfl rfl) ?_ | refine VL_still rfl rfl rfl (S_pick_f rfl rfl) ?_
          refine VL_still rfl rfl rfl (S_assign rfl) ?_
          refine VL_still rfl rfl rfl (S_assign rfl) ?_
          refine VL_nil ?_
          refine VQ_then ?_
          refine V_ret ?_
          refine VQ_fin2 (nb := []) (by first | exact .inl rfl | exact .inr rfl) rfl (RV_tmp rfl) (RV_tmp rfl) ?sb ?po
          case po =>
            have e : ¬ ks[lb ks k] = k := of_decide_eq_false hc42
            refine ⟨?_, rfl, rfl⟩
            rw [show decide (ks[lb ks k]? = some k) = false from decide_eq_false (by rw [List.getElem?_eq_getElem hlt]; simpa using e)]
          case sb => exact (by repeat (first | exact SubB.nil | exact Pick.here | apply Pick.there | apply SubB.emp | apply SubB.cons))
    · skip
      have hge : ¬ lb ks k < ks.length := by
        have := of_decide_eq_false hc35
        omega
      refine VL_skip rfl rfl rfl ?_
      refine VL_skip rfl rfl rfl ?_
      refine VL_skip rfl rfl rfl ?_
      refine VL_skip rfl rfl rfl ?_
      refine VL_skip rfl rfl rfl ?_
      refine VL_skip rfl rfl rfl ?_
      refine VL_skip rfl rfl rfl ?_
      refine VL_skip rfl rfl rfl ?_
      refine VL_skip rfl rfl rfl ?_
      refine VL_skip rfl rfl rfl ?_
      refine VL_skip rfl rfl rfl ?_
      refine VL_skip rfl rfl rfl ?_
      refine VL_skip rfl rfl rfl ?_
      refine VL_skip rfl rfl rfl ?_
      refine VL_skip rfl rfl rfl ?_
      refine VL_skip rfl rfl rfl ?_
      refine VL_skip rfl rfl rfl ?_
      first | refine VL_still rfl rfl rfl (S_pick_t rfl rfl) ?_ | refine VL_still rfl rfl rfl (S_pick_f rfl rfl) ?_
      refine VL_still rfl rfl rfl (S_assign rfl) ?_
      refine VL_still rfl rfl rfl (S_assign rfl) ?_
      refine VL_nil ?_
      refine VQ_then ?_
      refine V_ret ?_
      refine VQ_fin2 (nb := []) (by first | exact .inl rfl | exact .inr rfl) rfl (RV_tmp rfl) (RV_tmp rfl) ?sb ?po
      case po =>
        refine ⟨?_, rfl, rfl⟩
        rw [show decide (ks[lb ks k]? = some k) = false from decide_eq_false (by rw [List.getElem?_eq_none (by omega)]; simp)]
      case sb => exact (by repeat (first | exact SubB.nil | exact Pick.here | apply Pick.there | apply SubB.emp | apply SubB.cons))

set_option maxRecDepth 100000 in
theorem leaf_con (b : Nat) (ks : List Int) (vs : List Ext) (bs : List Nat) (h : Hp) (hN : NodeAt h b ks vs bs) : Con Try.prog 39 [ptr b] h [] (fun r h' nb => r = .bool (decide (bs = [])) ∧ h = h' ∧ nb = []) := by
  obtain ⟨kv, vv, cv, hb, hk, hv, hc⟩ := hN
  obtain ⟨A, cap, rfl, hle, hmx⟩ := hk.form
  obtain ⟨Av, capv, rfl, hlev, hmxv⟩ := hv.form
  obtain ⟨Ac, capc, rfl, hlec, hmxc⟩ := hc.form
  refine Con_of Try.func39 rfl Try.ntmps39 (Nat.le_of_ble_eq_true rfl) (fun w0 => ?_)
  refine V_seq ?_
  refine V_region ?_
  refine VL_still rfl rfl rfl (S_assign rfl) ?_
  refine VL_nil ?_
  refine VQ_then ?_
  refine V_seq ?_
  refine V_region ?_
  refine VL_still rfl rfl rfl (S_move rfl) ?_
  refine VL_still rfl rfl rfl (S_nil rfl) ?_
  refine VL_still rfl rfl rfl (S_field (k := 2) Try.underlying92 rfl rfl ti90 rfl rfl) ?_
  first | refine VL_still rfl rfl rfl (S_load Try.underlying90 rfl rfl (Cell.trk (by repeat (first | exact Has.here | apply Has.there)) rfl)) ?_ | refine VL_still rfl rfl rfl (S_load Try.underlying90 rfl rfl (Cell.known (by first | assumption | exact (by assumption : Sub _ _) _ _ (by assumption) | exact (Sub.trans (by assumption) (by assumption)) _ _ (by assumption)) rfl)) ?_
  refine VL_still rfl rfl rfl (S_len Try.underlying90 rfl) ?_
  refine VL_still rfl rfl rfl (S_eql rfl rfl) ?_
  refine VL_still rfl rfl rfl (S_assign rfl) ?_
  refine VL_nil ?_
  refine VQ_then ?_
  refine V_ret ?_
  refine VQ_fin1 (nb := []) (by first | exact .inl rfl | exact .inr rfl) rfl (RV_tmp rfl) ?sb ?po
  case po =>
    refine ⟨?_, rfl, rfl⟩
    congr 1
    rw [decide_eq_decide]
    cases bs <;> simp <;> omega
  case sb => exact (by repeat (first | exact SubB.nil | exact Pick.here | apply Pick.there | apply SubB.emp | apply SubB.cons))

set_option maxRecDepth 100000 in
theorem way_con (b : Nat) (ks : List Int) (vs : List Ext) (bs : List Nat) (h : Hp) (hN : NodeAt h b ks vs bs) (k lo hi : Int) (hu : Up lo hi ks) (hn : ks.length ≤ 1000000) : Con Try.prog 40 [ptr b, .int .u64 k] h [] (fun r h' nb => r = .int .i64 (ub ks k : Nat) ∧ h = h' ∧ nb = []) := by
  obtain ⟨kv, vv, cv, hb, hk, hv, hc⟩ := hN
  obtain ⟨A, cap, rfl, hle, hmx⟩ := hk.form
  obtain ⟨Av, capv, rfl, hlev, hmxv⟩ := hv.form
  obtain ⟨Ac, capc, rfl, hlec, hmxc⟩ := hc.form
  refine Con_of Try.func40 rfl Try.ntmps40 (Nat.le_of_ble_eq_true rfl) (fun w0 => ?_)
  refine V_seq ?_
  refine V_region ?_
  refine VL_still rfl rfl rfl (S_assign rfl) ?_
  refine VL_nil ?_
  refine VQ_then ?_
  refine V_seq ?_
  refine V_region ?_
  refine VL_still rfl rfl rfl (S_move rfl) ?_
  refine VL_still rfl rfl rfl (S_nil rfl) ?_
  refine VL_still rfl rfl rfl (S_field (k := 0) Try.underlying92 rfl rfl ti88 rfl rfl) ?_
  first | refine VL_still rfl rfl rfl (S_load Try.underlying88 rfl rfl (Cell.trk (by repeat (first | exact Has.here | apply Has.there)) rfl)) ?_ | refine VL_still rfl rfl rfl (S_load Try.underlying88 rfl rfl (Cell.known (by first | assumption | exact (by assumption : Sub _ _) _ _ (by assumption) | exact (Sub.trans (by assumption) (by assumption)) _ _ (by assumption)) rfl)) ?_
  refine VL_still rfl rfl rfl (S_move rfl) ?_
  refine VL_eff rfl (E_call rfl rfl rfl Try.call41 (bs_con _ ks k lo hi h hk hu hn) (by repeat (first | exact Split.nil | exact Pick.here | apply Pick.there | apply Split.cons))) ?_
  rintro _ hh13 _ ⟨v13, nb13, ⟨rfl, rfl, rfl⟩, hs13, rfl, rfl⟩
  refine VL_still rfl rfl rfl (S_move rfl) ?_
  refine VL_still rfl rfl rfl (S_extract rfl rfl) ?_
  refine VL_still rfl rfl rfl (S_extract rfl rfl) ?_
  refine VL_still rfl rfl rfl (S_assign rfl) ?_
  refine VL_still rfl rfl rfl (S_assign rfl) ?_
  refine VL_nil ?_
  refine VQ_then ?_
  refine V_seq ?_
  refine V_seq ?_
  refine V_region ?_
  refine VL_still rfl rfl rfl (S_move rfl) ?_
  refine VL_nil ?_
  refine VQ_then ?_
  refine V_cond rfl (fun hc16 => ?_) (fun hc16 => ?_)
  · skip
    have e : ub ks k = lb ks k + 1 := by rw [ub_eq hu, if_pos (of_decide_eq_true hc16)]
    refine V_region ?_
    refine VL_still rfl rfl rfl (S_move rfl) ?_
    refine VL_still rfl rfl rfl (S_addn (lb ks k) 1 rfl rfl (by have := lb_le ks k; omega)) ?_
    refine VL_still rfl rfl rfl (S_assign rfl) ?_
    refine VL_nil ?_
    refine VQ_then ?_
    refine V_seq ?_
    refine V_region ?_
    refine VL_still rfl rfl rfl (S_move rfl) ?_
    refine VL_still rfl rfl rfl (S_assign rfl) ?_
    refine VL_nil ?_
    refine VQ_then ?_
    refine V_ret ?_
    refine VQ_fin1 (nb := []) (by first | exact .inl rfl | exact .inr rfl) rfl (RV_tmp rfl) ?sb ?po
    case po =>
      exact ⟨by rw [e], rfl, rfl⟩
    case sb => exact (by repeat (first | exact SubB.nil | exact Pick.here | apply Pick.there | apply SubB.emp | apply SubB.cons))
  · skip
    have e : ub ks k = lb ks k := by rw [ub_eq hu, if_neg (of_decide_eq_false hc16)]
    refine V_skip ?_
    refine VQ_then ?_
    refine V_seq ?_
    refine V_region ?_
    refine VL_still rfl rfl rfl (S_move rfl) ?_
    refine VL_still rfl rfl rfl (S_assign rfl) ?_
    refine VL_nil ?_
    refine VQ_then ?_
    refine V_ret ?_
    refine VQ_fin1 (nb := []) (by first | exact .inl rfl | exact .inr rfl) rfl (RV_tmp rfl) ?sb ?po
    case po =>
      exact ⟨by rw [e], rfl, rfl⟩
    case sb => exact (by repeat (first | exact SubB.nil | exact Pick.here | apply Pick.there | apply SubB.emp | apply SubB.cons))

end Go.Proofs.Ytdglignjoojimaa

/- A node's copy, and its split. No conditions. -/
set_option linter.unusedVariables false
set_option linter.unusedSimpArgs false
namespace Go.Proofs.Ytdglignjoojimaa

theorem k_clone0 (v : Value) (n : Nat) (cs : List Value) (h : Hp) (hs : SlR h [] v n cs 1) (ho : ones cs = true) (hn : n ≤ 1000000) : Con Try.prog 58 [v] h [] (fun r h' nb => h = h' ∧ ∃ G', Buf 23 1 r n cs G' ∧ nb = [G']) :=
  (k_clone v n cs h [] (hs.sub (Sub.refl _)) ho hn).conv rfl fun v h' nb ⟨a, G', b, e⟩ => ⟨[G'], by rw [e]; rfl, a, G', b, rfl⟩

theorem x_clone0 (v : Value) (n : Nat) (cs : List Value) (h : Hp) (hs : SlR h [] v n cs 2) (ho : ones cs = true) (hn : n ≤ 1000000) : Con Try.prog 59 [v] h [] (fun r h' nb => h = h' ∧ ∃ G', Buf 34 2 r n cs G' ∧ nb = [G']) :=
  (x_clone v n cs h [] (hs.sub (Sub.refl _)) ho hn).conv rfl fun v h' nb ⟨a, G', b, e⟩ => ⟨[G'], by rw [e]; rfl, a, G', b, rfl⟩

theorem n_clone0 (v : Value) (n : Nat) (cs : List Value) (h : Hp) (hs : SlR h [] v n cs 1) (ho : ones cs = true) (hn : n ≤ 1000000) : Con Try.prog 80 [v] h [] (fun r h' nb => h = h' ∧ ∃ G', Buf 83 1 r n cs G' ∧ nb = [G']) :=
  (n_clone v n cs h [] (hs.sub (Sub.refl _)) ho hn).conv rfl fun v h' nb ⟨a, G', b, e⟩ => ⟨[G'], by rw [e]; rfl, a, G', b, rfl⟩

set_option maxRecDepth 100000 in
theorem clone_con (b : Nat) (ks : List Int) (vs : List Ext) (bs : List Nat) (h : Hp) (hN : NodeAt h b ks vs bs) (n1 : ks.length ≤ 1000) (n2 : vs.length ≤ 1000) (n3 : bs.length ≤ 1001) : Con Try.prog 60 [ptr b] h [] (fun r h' nb => h = h' ∧ ∃ b' kv vv cv Gk Gv Gc, r = ptr b' ∧ BK kv ks Gk ∧ BV vv vs Gv ∧ BC cv bs Gc ∧ nb = [GN b' kv vv cv, Gk, Gv, Gc]) := by
  obtain ⟨kv, vv, cv, hb, hk, hv, hc⟩ := hN
  obtain ⟨A, cap, rfl, hle, hmx⟩ := hk.form
  obtain ⟨Av, capv, rfl, hlev, hmxv⟩ := hv.form
  obtain ⟨Ac, capc, rfl, hlec, hmxc⟩ := hc.form
  refine Con_of Try.func60 rfl Try.ntmps60 (Nat.le_of_ble_eq_true rfl) (fun w0 => ?_)
  refine V_seq ?_
  refine V_region ?_
  refine VL_still rfl rfl rfl (S_assign rfl) ?_
  refine VL_nil ?_
  refine VQ_then ?_
  refine V_seq ?_
  refine V_draw _ [] 82448 Try.mixed (by kernel_rfl) (Sub.refl _) SubB.nil ?_
  refine VD_still rfl rfl rfl rfl (S_move rfl) ?_
  refine VD_still rfl rfl rfl rfl (S_nil rfl) ?_
  refine VD_still rfl rfl rfl rfl (S_field (k := 0) Try.underlying92 rfl rfl ti88 rfl rfl) ?_
  first | refine VD_still rfl rfl rfl rfl (S_load Try.underlying88 rfl rfl (Cell.trk (by repeat (first | exact Has.here | apply Has.there)) rfl)) ?_ | refine VD_still rfl rfl rfl rfl (S_load Try.underlying88 rfl rfl (Cell.known (by first | assumption | exact (by assumption : Sub _ _) _ _ (by assumption) | exact (Sub.trans (by assumption) (by assumption)) _ _ (by assumption)) rfl)) ?_
  refine VD_eff rfl rfl (E_call rfl rfl rfl Try.call58 (k_clone0 _ ks.length (kcs ks) h hk (kcE.flat_one _) (by omega)) (by repeat (first | exact Split.nil | exact Pick.here | apply Pick.there | apply Split.cons))) ?_
  rintro _ hh7 _ ⟨v7, nb7, ⟨rfl, G7, hB7, rfl⟩, hs7, rfl, rfl⟩
  obtain ⟨A7, c7, rfl, _, _⟩ := Buf.form hB7
  refine ⟨⟨(by first | exact Sub.refl _ | assumption | exact Sub.trans (by assumption) (by assumption)), (by repeat (first | exact SubB.nil | exact Pick.here | apply Pick.there | apply SubB.emp | apply SubB.cons))⟩, ?_⟩
  refine VD_still rfl rfl rfl rfl (S_move rfl) ?_
  refine VD_still rfl rfl rfl rfl (S_nil rfl) ?_
  refine VD_still rfl rfl rfl rfl (S_field (k := 1) Try.underlying92 rfl rfl ti89 rfl rfl) ?_
  first | refine VD_still rfl rfl rfl rfl (S_load Try.underlying89 rfl rfl (Cell.trk (by repeat (first | exact Has.here | apply Has.there)) rfl)) ?_ | refine VD_still rfl rfl rfl rfl (S_load Try.underlying89 rfl rfl (Cell.known (by first | assumption | exact (by assumption : Sub _ _) _ _ (by assumption) | exact (Sub.trans (by assumption) (by assumption)) _ _ (by assumption)) rfl)) ?_
  refine VD_eff rfl rfl (E_call rfl rfl rfl Try.call59 (x_clone0 _ vs.length (xcs vs) h hv (xcE.flat_one _) (by omega)) (by repeat (first | exact Split.nil | exact Pick.here | apply Pick.there | apply Split.cons))) ?_
  rintro _ hh12 _ ⟨v12, nb12, ⟨rfl, G12, hB12, rfl⟩, hs12, rfl, rfl⟩
  obtain ⟨A12, c12, rfl, _, _⟩ := Buf.form hB12
  refine ⟨⟨(by first | exact Sub.refl _ | assumption | exact Sub.trans (by assumption) (by assumption)), (by repeat (first | exact SubB.nil | exact Pick.here | apply Pick.there | apply SubB.emp | apply SubB.cons))⟩, ?_⟩
  refine VD_still rfl rfl rfl rfl (S_move rfl) ?_
  refine VD_still rfl rfl rfl rfl (S_nil rfl) ?_
  refine VD_still rfl rfl rfl rfl (S_field (k := 2) Try.underlying92 rfl rfl ti90 rfl rfl) ?_
  first | refine VD_still rfl rfl rfl rfl (S_load Try.underlying90 rfl rfl (Cell.trk (by repeat (first | exact Has.here | apply Has.there)) rfl)) ?_ | refine VD_still rfl rfl rfl rfl (S_load Try.underlying90 rfl rfl (Cell.known (by first | assumption | exact (by assumption : Sub _ _) _ _ (by assumption) | exact (Sub.trans (by assumption) (by assumption)) _ _ (by assumption)) rfl)) ?_
  refine VD_eff rfl rfl (E_call rfl rfl rfl Try.call80 (n_clone0 _ bs.length (pcs bs) h hc (pcE.flat_one _) (by omega)) (by repeat (first | exact Split.nil | exact Pick.here | apply Pick.there | apply Split.cons))) ?_
  rintro _ hh17 _ ⟨v17, nb17, ⟨rfl, G17, hB17, rfl⟩, hs17, rfl, rfl⟩
  obtain ⟨A17, c17, rfl, _, _⟩ := Buf.form hB17
  refine ⟨⟨(by first | exact Sub.refl _ | assumption | exact Sub.trans (by assumption) (by assumption)), (by repeat (first | exact SubB.nil | exact Pick.here | apply Pick.there | apply SubB.emp | apply SubB.cons))⟩, ?_⟩
  refine VD_still rfl rfl rfl rfl (S_struct Try.underlying92 to92 tz92 rfl (by repeat (first | exact BuildR.nil | exact PutR.nil | exact SetL.here | apply SetL.there | apply PutR.cons | apply BuildR.cons rfl (by first | exact ti88 | exact ti89 | exact ti90) rfl rfl rfl))) ?_
  refine VD_eff rfl rfl (E_box rfl rfl rfl) ?_
  rintro _ _ _ ⟨b19, hb19, rfl, rfl, rfl⟩
  refine ⟨⟨(by first | exact Sub.refl _ | assumption | exact Sub.trans (by assumption) (by assumption)), (by repeat (first | exact SubB.nil | exact Pick.here | apply Pick.there | apply SubB.emp | apply SubB.cons))⟩, ?_⟩
  refine VD_still rfl rfl rfl rfl (S_assign rfl) ?_
  refine VD_nil ?_
  refine VQ_then ?_
  refine V_ret ?_
  refine VQ_fin1 (nb := [GN b19 (.slice A7 ks.length c7) (.slice A12 vs.length c12) (.slice A17 bs.length c17), G7, G12, G17]) (by first | exact .inl rfl | exact .inr rfl) rfl (RV_tmp rfl) ?sb ?po
  case po =>
    exact ⟨rfl, b19, _, _, _, _, _, _, rfl, hB7, hB12, hB17, rfl⟩
  case sb => exact (by repeat (first | exact SubB.nil | exact Pick.here | apply Pick.there | apply SubB.emp | apply SubB.cons))

/-- What a split hands back. -/
def SplitP (h : Hp) (b : Nat) (ks : List Int) (vs : List Ext) (bs : List Nat) (r : Value) : Prop :=
  (ks.length ≤ 7 ∧ r = .tuple #[ptr b, .int .u64 0, .pointer none]) ∨
  (¬ ks.length ≤ 7 ∧ ∃ b1 b2, r = .tuple #[ptr b1, .int .u64 (ks.getD (ks.length / 2) 0), ptr b2] ∧
    (bs = [] → NodeAt h b1 (ks.take (ks.length / 2)) (vs.take (ks.length / 2)) [] ∧ NodeAt h b2 (ks.drop (ks.length / 2)) (vs.drop (ks.length / 2)) []) ∧
    (bs ≠ [] → NodeAt h b1 (ks.take (ks.length / 2)) [] (bs.take (ks.length / 2 + 1)) ∧ NodeAt h b2 (ks.drop (ks.length / 2 + 1)) [] (bs.drop (ks.length / 2 + 1))))

set_option maxRecDepth 100000 in
theorem split_con (b : Nat) (ks : List Int) (vs : List Ext) (bs : List Nat) (h : Hp) (hN : NodeAt h b ks vs bs) (n1 : ks.length ≤ 1000) (hsh : (bs = [] ∧ vs.length = ks.length) ∨ (vs = [] ∧ bs.length = ks.length + 1)) : Con Try.prog 63 [ptr b] h [] (fun r h' nb => nb = [] ∧ SplitP h' b ks vs bs r) := by
  obtain ⟨kv, vv, cv, hb, hk, hv, hc⟩ := hN
  obtain ⟨A, cap, rfl, hle, hmx⟩ := hk.form
  obtain ⟨Av, capv, rfl, hlev, hmxv⟩ := hv.form
  obtain ⟨Ac, capc, rfl, hlec, hmxc⟩ := hc.form
  refine Con_of Try.func63 rfl Try.ntmps63 (Nat.le_of_ble_eq_true rfl) (fun w0 => ?_)
  refine V_seq ?_
  refine V_region ?_
  refine VL_still rfl rfl rfl (S_assign rfl) ?_
  refine VL_still rfl rfl rfl (S_assign rfl) ?_
  refine VL_still rfl rfl rfl (S_assign rfl) ?_
  refine VL_nil ?_
  refine VQ_then ?_
  refine V_seq ?_
  refine V_seq ?_
  refine V_region ?_
  refine VL_still rfl rfl rfl (S_move rfl) ?_
  refine VL_still rfl rfl rfl (S_nil rfl) ?_
  refine VL_still rfl rfl rfl (S_field (k := 0) Try.underlying92 rfl rfl ti88 rfl rfl) ?_
  first | refine VL_still rfl rfl rfl (S_load Try.underlying88 rfl rfl (Cell.trk (by repeat (first | exact Has.here | apply Has.there)) rfl)) ?_ | refine VL_still rfl rfl rfl (S_load Try.underlying88 rfl rfl (Cell.known (by first | assumption | exact (by assumption : Sub _ _) _ _ (by assumption) | exact (Sub.trans (by assumption) (by assumption)) _ _ (by assumption)) rfl)) ?_
  refine VL_still rfl rfl rfl (S_len Try.underlying88 rfl) ?_
  refine VL_still rfl rfl rfl (S_leq rfl rfl) ?_
  refine VL_nil ?_
  refine VQ_then ?_
  refine V_cond rfl (fun hc14 => ?_) (fun hc14 => ?_)
  · skip
    have h7 : ks.length ≤ 7 := by
      have := of_decide_eq_true hc14
      omega
    refine V_seq ?_
    refine V_region ?_
    refine VL_still rfl rfl rfl (S_move rfl) ?_
    refine VL_still rfl rfl rfl (S_assign rfl) ?_
    refine VL_still rfl rfl rfl (S_assign rfl) ?_
    refine VL_still rfl rfl rfl (S_assign rfl) ?_
    refine VL_nil ?_
    refine VQ_then ?_
    refine V_ret ?_
    refine VQ_then_ret ?_
    refine VQ_fin3 (nb := []) (by first | exact .inl rfl | exact .inr rfl) rfl (RV_tmp rfl) (RV_tmp rfl) (RV_tmp rfl) ?sb ?po
    case po =>
      exact ⟨rfl, .inl ⟨h7, rfl⟩⟩
    case sb => exact (by repeat (first | exact SubB.nil | exact Pick.here | apply Pick.there | apply SubB.emp | apply SubB.cons))
  · skip
    have h7 : ¬ ks.length ≤ 7 := by
      have := of_decide_eq_false hc14
      omega
    have hlt : ks.length / 2 < ks.length := by omega
    obtain ⟨bb, off, cap', e1, hc4⟩ := hk.at_ kcE rfl hlt
    cases e1
    refine V_skip ?_
    refine VQ_then ?_
    refine V_seq ?_
    refine V_region ?_
    refine VL_still rfl rfl rfl (S_move rfl) ?_
    refine VL_still rfl rfl rfl (S_nil rfl) ?_
    refine VL_still rfl rfl rfl (S_field (k := 0) Try.underlying92 rfl rfl ti88 rfl rfl) ?_
    first | refine VL_still rfl rfl rfl (S_load Try.underlying88 rfl rfl (Cell.trk (by repeat (first | exact Has.here | apply Has.there)) rfl)) ?_ | refine VL_still rfl rfl rfl (S_load Try.underlying88 rfl rfl (Cell.known (by first | assumption | exact (by assumption : Sub _ _) _ _ (by assumption) | exact (Sub.trans (by assumption) (by assumption)) _ _ (by assumption)) rfl)) ?_
    refine VL_still rfl rfl rfl (S_len Try.underlying88 rfl) ?_
    refine VL_still rfl rfl rfl (S_quon ks.length 2 rfl rfl rfl (by omega)) ?_
    refine VL_still rfl rfl rfl (S_assign rfl) ?_
    refine VL_nil ?_
    refine VQ_then ?_
    refine V_seq ?_
    refine V_region ?_
    refine VL_still rfl rfl rfl (S_move rfl) ?_
    refine VL_still rfl rfl rfl (S_nil rfl) ?_
    refine VL_still rfl rfl rfl (S_field (k := 0) Try.underlying92 rfl rfl ti88 rfl rfl) ?_
    first | refine VL_still rfl rfl rfl (S_load Try.underlying88 rfl rfl (Cell.trk (by repeat (first | exact Has.here | apply Has.there)) rfl)) ?_ | refine VL_still rfl rfl rfl (S_load Try.underlying88 rfl rfl (Cell.known (by first | assumption | exact (by assumption : Sub _ _) _ _ (by assumption) | exact (Sub.trans (by assumption) (by assumption)) _ _ (by assumption)) rfl)) ?_
    refine VL_still rfl rfl rfl (S_move rfl) ?_
    refine VL_still rfl rfl rfl (X_at (ks.length / 2) Try.underlying88 tx23 rfl rfl hlt) ?_
    refine VL_still rfl rfl rfl (S_load Try.underlying23 rfl rfl hc4.1) ?_
    refine VL_still rfl rfl rfl (S_assign rfl) ?_
    refine VL_nil ?_
    refine VQ_then ?_
    refine V_seq ?_
    refine V_seq ?_
    refine V_region ?_
    refine VL_still rfl rfl rfl (S_move rfl) ?_
    refine VL_eff rfl (E_call rfl rfl rfl Try.call39 (leaf_con b ks vs bs h ⟨_, _, _, hb, hk, hv, hc⟩) (by repeat (first | exact Split.nil | exact Pick.here | apply Pick.there | apply Split.cons))) ?_
    rintro _ hh30 _ ⟨v30, nb30, ⟨rfl, rfl, rfl⟩, hs30, rfl, rfl⟩
    refine VL_nil ?_
    refine VQ_then ?_
    refine V_cond rfl (fun hc30 => ?_) (fun hc30 => ?_)
    · skip
      have hbs : bs = [] := of_decide_eq_true hc30
      subst hbs
      have hvl : vs.length = ks.length := by
        rcases hsh with ⟨_, e⟩ | ⟨_, e⟩
        · exact e
        · simp at e
      refine V_seq ?_
      refine V_draw _ [] 41024 Try.mixed (by kernel_rfl) (Sub.refl _) SubB.nil ?_
      refine VD_still rfl rfl rfl rfl (S_move rfl) ?_
      refine VD_still rfl rfl rfl rfl (S_nil rfl) ?_
      refine VD_still rfl rfl rfl rfl (S_field (k := 0) Try.underlying92 rfl rfl ti88 rfl rfl) ?_
      first | refine VD_still rfl rfl rfl rfl (S_load Try.underlying88 rfl rfl (Cell.trk (by repeat (first | exact Has.here | apply Has.there)) rfl)) ?_ | refine VD_still rfl rfl rfl rfl (S_load Try.underlying88 rfl rfl (Cell.known (by first | assumption | exact (by assumption : Sub _ _) _ _ (by assumption) | exact (Sub.trans (by assumption) (by assumption)) _ _ (by assumption)) rfl)) ?_
      refine VD_still rfl rfl rfl rfl (S_move rfl) ?_
      refine VD_still rfl rfl rfl rfl (X_cut (ks.length / 2) ks.length Try.underlying88 tx23 rfl rfl rfl (by omega) (by omega)) ?_
      refine VD_eff rfl rfl (E_call rfl rfl rfl Try.call58 (k_clone0 _ (ks.drop (ks.length / 2)).length (kcs (ks.drop (ks.length / 2))) h (SlR.dropE kcE hk (by omega)) (kcE.flat_one _) (by simp; omega)) (by repeat (first | exact Split.nil | exact Pick.here | apply Pick.there | apply Split.cons))) ?_
      rintro _ hh37 _ ⟨v37, nb37, ⟨rfl, G37, hB37, rfl⟩, hs37, rfl, rfl⟩
      obtain ⟨A37, c37, rfl, _, _⟩ := Buf.form hB37
      refine ⟨⟨(by first | exact Sub.refl _ | assumption | exact Sub.trans (by assumption) (by assumption)), (by repeat (first | exact SubB.nil | exact Pick.here | apply Pick.there | apply SubB.emp | apply SubB.cons))⟩, ?_⟩
      refine VD_still rfl rfl rfl rfl (S_move rfl) ?_
      refine VD_still rfl rfl rfl rfl (S_nil rfl) ?_
      refine VD_still rfl rfl rfl rfl (S_field (k := 1) Try.underlying92 rfl rfl ti89 rfl rfl) ?_
      first | refine VD_still rfl rfl rfl rfl (S_load Try.underlying89 rfl rfl (Cell.trk (by repeat (first | exact Has.here | apply Has.there)) rfl)) ?_ | refine VD_still rfl rfl rfl rfl (S_load Try.underlying89 rfl rfl (Cell.known (by first | assumption | exact (by assumption : Sub _ _) _ _ (by assumption) | exact (Sub.trans (by assumption) (by assumption)) _ _ (by assumption)) rfl)) ?_
      refine VD_still rfl rfl rfl rfl (S_move rfl) ?_
      refine VD_still rfl rfl rfl rfl (X_cut (ks.length / 2) vs.length Try.underlying89 tx34 rfl rfl rfl (by omega) (by omega)) ?_
      refine VD_eff rfl rfl (E_call rfl rfl rfl Try.call59 (x_clone0 _ (vs.drop (ks.length / 2)).length (xcs (vs.drop (ks.length / 2))) h (SlR.dropE xcE hv (by omega)) (xcE.flat_one _) (by simp; omega)) (by repeat (first | exact Split.nil | exact Pick.here | apply Pick.there | apply Split.cons))) ?_
      rintro _ hh44 _ ⟨v44, nb44, ⟨rfl, G44, hB44, rfl⟩, hs44, rfl, rfl⟩
      obtain ⟨A44, c44, rfl, _, _⟩ := Buf.form hB44
      refine ⟨⟨(by first | exact Sub.refl _ | assumption | exact Sub.trans (by assumption) (by assumption)), (by repeat (first | exact SubB.nil | exact Pick.here | apply Pick.there | apply SubB.emp | apply SubB.cons))⟩, ?_⟩
      refine VD_still rfl rfl rfl rfl (S_struct Try.underlying92 to92 tz92 rfl (by repeat (first | exact BuildR.nil | exact PutR.nil | exact SetL.here | apply SetL.there | apply PutR.cons | apply BuildR.cons rfl (by first | exact ti88 | exact ti89 | exact ti90) rfl rfl rfl))) ?_
      refine VD_eff rfl rfl (E_box rfl rfl rfl) ?_
      rintro _ _ _ ⟨b46, hb46, rfl, rfl, rfl⟩
      refine ⟨⟨(by first | exact Sub.refl _ | assumption | exact Sub.trans (by assumption) (by assumption)), (by repeat (first | exact SubB.nil | exact Pick.here | apply Pick.there | apply SubB.emp | apply SubB.cons))⟩, ?_⟩
      refine VD_still rfl rfl rfl rfl (S_assign rfl) ?_
      refine VD_nil ?_
      refine VQ_then ?_
      refine V_seq ?_
      refine V_draw _ [] 41024 Try.mixed (by kernel_rfl) (Sub.refl _) SubB.nil ?_
      refine VD_still rfl rfl rfl rfl (S_move rfl) ?_
      refine VD_still rfl rfl rfl rfl (S_nil rfl) ?_
      refine VD_still rfl rfl rfl rfl (S_field (k := 0) Try.underlying92 rfl rfl ti88 rfl rfl) ?_
      first | refine VD_still rfl rfl rfl rfl (S_load Try.underlying88 rfl rfl (Cell.trk (by repeat (first | exact Has.here | apply Has.there)) rfl)) ?_ | refine VD_still rfl rfl rfl rfl (S_load Try.underlying88 rfl rfl (Cell.known (by first | assumption | exact (by assumption : Sub _ _) _ _ (by assumption) | exact (Sub.trans (by assumption) (by assumption)) _ _ (by assumption)) rfl)) ?_
      refine VD_still rfl rfl rfl rfl (S_move rfl) ?_
      refine VD_still rfl rfl rfl rfl (X_cut 0 (ks.length / 2) Try.underlying88 tx23 rfl rfl rfl (by omega) (by omega)) ?_
      refine VD_eff rfl rfl (E_call rfl rfl rfl Try.call58 (k_clone0 _ (ks.take (ks.length / 2)).length (kcs (ks.take (ks.length / 2))) h (SlR.takeE kcE hk (by omega)) (kcE.flat_one _) (by simp; omega)) (by repeat (first | exact Split.nil | exact Pick.here | apply Pick.there | apply Split.cons))) ?_
      rintro _ hh53 _ ⟨v53, nb53, ⟨rfl, G53, hB53, rfl⟩, hs53, rfl, rfl⟩
      obtain ⟨A53, c53, rfl, _, _⟩ := Buf.form hB53
      refine ⟨⟨(by first | exact Sub.refl _ | assumption | exact Sub.trans (by assumption) (by assumption)), (by repeat (first | exact SubB.nil | exact Pick.here | apply Pick.there | apply SubB.emp | apply SubB.cons))⟩, ?_⟩
      refine VD_still rfl rfl rfl rfl (S_move rfl) ?_
      refine VD_still rfl rfl rfl rfl (S_nil rfl) ?_
      refine VD_still rfl rfl rfl rfl (S_field (k := 1) Try.underlying92 rfl rfl ti89 rfl rfl) ?_
      first | refine VD_still rfl rfl rfl rfl (S_load Try.underlying89 rfl rfl (Cell.trk (by repeat (first | exact Has.here | apply Has.there)) rfl)) ?_ | refine VD_still rfl rfl rfl rfl (S_load Try.underlying89 rfl rfl (Cell.known (by first | assumption | exact (by assumption : Sub _ _) _ _ (by assumption) | exact (Sub.trans (by assumption) (by assumption)) _ _ (by assumption)) rfl)) ?_
      refine VD_still rfl rfl rfl rfl (S_move rfl) ?_
      refine VD_still rfl rfl rfl rfl (X_cut 0 (ks.length / 2) Try.underlying89 tx34 rfl rfl rfl (by omega) (by omega)) ?_
      refine VD_eff rfl rfl (E_call rfl rfl rfl Try.call59 (x_clone0 _ (vs.take (ks.length / 2)).length (xcs (vs.take (ks.length / 2))) h (SlR.takeE xcE hv (by omega)) (xcE.flat_one _) (by simp; omega)) (by repeat (first | exact Split.nil | exact Pick.here | apply Pick.there | apply Split.cons))) ?_
      rintro _ hh60 _ ⟨v60, nb60, ⟨rfl, G60, hB60, rfl⟩, hs60, rfl, rfl⟩
      obtain ⟨A60, c60, rfl, _, _⟩ := Buf.form hB60
      refine ⟨⟨(by first | exact Sub.refl _ | assumption | exact Sub.trans (by assumption) (by assumption)), (by repeat (first | exact SubB.nil | exact Pick.here | apply Pick.there | apply SubB.emp | apply SubB.cons))⟩, ?_⟩
      refine VD_still rfl rfl rfl rfl (S_struct Try.underlying92 to92 tz92 rfl (by repeat (first | exact BuildR.nil | exact PutR.nil | exact SetL.here | apply SetL.there | apply PutR.cons | apply BuildR.cons rfl (by first | exact ti88 | exact ti89 | exact ti90) rfl rfl rfl))) ?_
      refine VD_eff rfl rfl (E_box rfl rfl rfl) ?_
      rintro _ _ _ ⟨b62, hb62, rfl, rfl, rfl⟩
      refine ⟨⟨(by first | exact Sub.refl _ | assumption | exact Sub.trans (by assumption) (by assumption)), (by repeat (first | exact SubB.nil | exact Pick.here | apply Pick.there | apply SubB.emp | apply SubB.cons))⟩, ?_⟩
      refine VD_still rfl rfl rfl rfl (S_move rfl) ?_
      refine VD_still rfl rfl rfl rfl (S_move rfl) ?_
      refine VD_still rfl rfl rfl rfl (S_assign rfl) ?_
      refine VD_still rfl rfl rfl rfl (S_assign rfl) ?_
      refine VD_still rfl rfl rfl rfl (S_assign rfl) ?_
      refine VD_nil ?_
      refine VQ_then ?_
      refine V_ret ?_
      refine VQ_then_ret ?_
      refine VQ_keeps (blA := [GN b46 (.slice A37 (ks.drop (ks.length / 2)).length c37) (.slice A44 (vs.drop (ks.length / 2)).length c44) (.slice none 0 0), G37, G44, GN b62 (.slice A53 (ks.take (ks.length / 2)).length c53) (.slice A60 (vs.take (ks.length / 2)).length c60) (.slice none 0 0), G53, G60]) (by repeat (first | exact Split.nil | exact Pick.here | apply Pick.there | apply Split.cons)) (fun h1 sh1 kh1 => ?_)
      obtain ⟨q1, q2, q3, q4, q5, q6, _⟩ := kh1
      refine VQ_fin3 (nb := []) (by first | exact .inl rfl | exact .inr rfl) rfl (RV_tmp rfl) (RV_tmp rfl) (RV_tmp rfl) ?sb ?po
      case po =>
        refine ⟨rfl, .inr ⟨h7, b62, b46, by rw [getD_at hlt], fun _ => ⟨?_, ?_⟩, fun e => absurd rfl e⟩⟩
        · exact NodeAt.own q4 q5 q6 (Gc := []) (fun q hq => by simp at hq) hB53 hB60 (Buf.nil _ _)
        · exact NodeAt.own q1 q2 q3 (Gc := []) (fun q hq => by simp at hq) hB37 hB44 (Buf.nil _ _)
      case sb => exact (by repeat (first | exact SubB.nil | exact Pick.here | apply Pick.there | apply SubB.emp | apply SubB.cons))
    · skip
      have hbs : bs ≠ [] := of_decide_eq_false hc30
      obtain ⟨rfl, hbl⟩ : vs = [] ∧ bs.length = ks.length + 1 := by
        rcases hsh with ⟨e, _⟩ | e
        · exact absurd e hbs
        · exact e
      refine V_skip ?_
      refine VQ_then ?_
      refine V_seq ?_
      refine V_draw _ [] 163968 Try.mixed (by kernel_rfl) (Sub.refl _) SubB.nil ?_
      refine VD_still rfl rfl rfl rfl (S_move rfl) ?_
      refine VD_still rfl rfl rfl rfl (S_nil rfl) ?_
      refine VD_still rfl rfl rfl rfl (S_field (k := 0) Try.underlying92 rfl rfl ti88 rfl rfl) ?_
      first | refine VD_still rfl rfl rfl rfl (S_load Try.underlying88 rfl rfl (Cell.trk (by repeat (first | exact Has.here | apply Has.there)) rfl)) ?_ | refine VD_still rfl rfl rfl rfl (S_load Try.underlying88 rfl rfl (Cell.known (by first | assumption | exact (by assumption : Sub _ _) _ _ (by assumption) | exact (Sub.trans (by assumption) (by assumption)) _ _ (by assumption)) rfl)) ?_
      refine VD_still rfl rfl rfl rfl (S_move rfl) ?_
      refine VD_still rfl rfl rfl rfl (S_addn (ks.length / 2) 1 rfl rfl (by omega)) ?_
      refine VD_still rfl rfl rfl rfl (X_cut (ks.length / 2 + 1) ks.length Try.underlying88 tx23 rfl rfl rfl (by omega) (by omega)) ?_
      refine VD_eff rfl rfl (E_call rfl rfl rfl Try.call58 (k_clone0 _ (ks.drop (ks.length / 2 + 1)).length (kcs (ks.drop (ks.length / 2 + 1))) h (SlR.dropE kcE hk (by omega)) (kcE.flat_one _) (by simp; omega)) (by repeat (first | exact Split.nil | exact Pick.here | apply Pick.there | apply Split.cons))) ?_
      rintro _ hh72 _ ⟨v72, nb72, ⟨rfl, G72, hB72, rfl⟩, hs72, rfl, rfl⟩
      obtain ⟨A72, c72, rfl, _, _⟩ := Buf.form hB72
      refine ⟨⟨(by first | exact Sub.refl _ | assumption | exact Sub.trans (by assumption) (by assumption)), (by repeat (first | exact SubB.nil | exact Pick.here | apply Pick.there | apply SubB.emp | apply SubB.cons))⟩, ?_⟩
      refine VD_still rfl rfl rfl rfl (S_move rfl) ?_
      refine VD_still rfl rfl rfl rfl (S_nil rfl) ?_
      refine VD_still rfl rfl rfl rfl (S_field (k := 2) Try.underlying92 rfl rfl ti90 rfl rfl) ?_
      first | refine VD_still rfl rfl rfl rfl (S_load Try.underlying90 rfl rfl (Cell.trk (by repeat (first | exact Has.here | apply Has.there)) rfl)) ?_ | refine VD_still rfl rfl rfl rfl (S_load Try.underlying90 rfl rfl (Cell.known (by first | assumption | exact (by assumption : Sub _ _) _ _ (by assumption) | exact (Sub.trans (by assumption) (by assumption)) _ _ (by assumption)) rfl)) ?_
      refine VD_still rfl rfl rfl rfl (S_move rfl) ?_
      refine VD_still rfl rfl rfl rfl (S_addn (ks.length / 2) 1 rfl rfl (by omega)) ?_
      refine VD_still rfl rfl rfl rfl (X_cut (ks.length / 2 + 1) bs.length Try.underlying90 tx83 rfl rfl rfl (by omega) (by omega)) ?_
      refine VD_eff rfl rfl (E_call rfl rfl rfl Try.call80 (n_clone0 _ (bs.drop (ks.length / 2 + 1)).length (pcs (bs.drop (ks.length / 2 + 1))) h (SlR.dropE pcE hc (by omega)) (pcE.flat_one _) (by simp; omega)) (by repeat (first | exact Split.nil | exact Pick.here | apply Pick.there | apply Split.cons))) ?_
      rintro _ hh80 _ ⟨v80, nb80, ⟨rfl, G80, hB80, rfl⟩, hs80, rfl, rfl⟩
      obtain ⟨A80, c80, rfl, _, _⟩ := Buf.form hB80
      refine ⟨⟨(by first | exact Sub.refl _ | assumption | exact Sub.trans (by assumption) (by assumption)), (by repeat (first | exact SubB.nil | exact Pick.here | apply Pick.there | apply SubB.emp | apply SubB.cons))⟩, ?_⟩
      refine VD_still rfl rfl rfl rfl (S_struct Try.underlying92 to92 tz92 rfl (by repeat (first | exact BuildR.nil | exact PutR.nil | exact SetL.here | apply SetL.there | apply PutR.cons | apply BuildR.cons rfl (by first | exact ti88 | exact ti89 | exact ti90) rfl rfl rfl))) ?_
      refine VD_eff rfl rfl (E_box rfl rfl rfl) ?_
      rintro _ _ _ ⟨b82, hb82, rfl, rfl, rfl⟩
      refine ⟨⟨(by first | exact Sub.refl _ | assumption | exact Sub.trans (by assumption) (by assumption)), (by repeat (first | exact SubB.nil | exact Pick.here | apply Pick.there | apply SubB.emp | apply SubB.cons))⟩, ?_⟩
      refine VD_still rfl rfl rfl rfl (S_assign rfl) ?_
      refine VD_nil ?_
      refine VQ_then ?_
      refine V_seq ?_
      refine V_draw _ [] 81984 Try.mixed (by kernel_rfl) (Sub.refl _) SubB.nil ?_
      refine VD_still rfl rfl rfl rfl (S_move rfl) ?_
      refine VD_still rfl rfl rfl rfl (S_nil rfl) ?_
      refine VD_still rfl rfl rfl rfl (S_field (k := 0) Try.underlying92 rfl rfl ti88 rfl rfl) ?_
      first | refine VD_still rfl rfl rfl rfl (S_load Try.underlying88 rfl rfl (Cell.trk (by repeat (first | exact Has.here | apply Has.there)) rfl)) ?_ | refine VD_still rfl rfl rfl rfl (S_load Try.underlying88 rfl rfl (Cell.known (by first | assumption | exact (by assumption : Sub _ _) _ _ (by assumption) | exact (Sub.trans (by assumption) (by assumption)) _ _ (by assumption)) rfl)) ?_
      refine VD_still rfl rfl rfl rfl (S_move rfl) ?_
      refine VD_still rfl rfl rfl rfl (X_cut 0 (ks.length / 2) Try.underlying88 tx23 rfl rfl rfl (by omega) (by omega)) ?_
      refine VD_eff rfl rfl (E_call rfl rfl rfl Try.call58 (k_clone0 _ (ks.take (ks.length / 2)).length (kcs (ks.take (ks.length / 2))) h (SlR.takeE kcE hk (by omega)) (kcE.flat_one _) (by simp; omega)) (by repeat (first | exact Split.nil | exact Pick.here | apply Pick.there | apply Split.cons))) ?_
      rintro _ hh89 _ ⟨v89, nb89, ⟨rfl, G89, hB89, rfl⟩, hs89, rfl, rfl⟩
      obtain ⟨A89, c89, rfl, _, _⟩ := Buf.form hB89
      refine ⟨⟨(by first | exact Sub.refl _ | assumption | exact Sub.trans (by assumption) (by assumption)), (by repeat (first | exact SubB.nil | exact Pick.here | apply Pick.there | apply SubB.emp | apply SubB.cons))⟩, ?_⟩
      refine VD_still rfl rfl rfl rfl (S_move rfl) ?_
      refine VD_still rfl rfl rfl rfl (S_nil rfl) ?_
      refine VD_still rfl rfl rfl rfl (S_field (k := 2) Try.underlying92 rfl rfl ti90 rfl rfl) ?_
      first | refine VD_still rfl rfl rfl rfl (S_load Try.underlying90 rfl rfl (Cell.trk (by repeat (first | exact Has.here | apply Has.there)) rfl)) ?_ | refine VD_still rfl rfl rfl rfl (S_load Try.underlying90 rfl rfl (Cell.known (by first | assumption | exact (by assumption : Sub _ _) _ _ (by assumption) | exact (Sub.trans (by assumption) (by assumption)) _ _ (by assumption)) rfl)) ?_
      refine VD_still rfl rfl rfl rfl (S_move rfl) ?_
      refine VD_still rfl rfl rfl rfl (S_addn (ks.length / 2) 1 rfl rfl (by omega)) ?_
      refine VD_still rfl rfl rfl rfl (X_cut 0 (ks.length / 2 + 1) Try.underlying90 tx83 rfl rfl rfl (by omega) (by omega)) ?_
      refine VD_eff rfl rfl (E_call rfl rfl rfl Try.call80 (n_clone0 _ (bs.take (ks.length / 2 + 1)).length (pcs (bs.take (ks.length / 2 + 1))) h (SlR.takeE pcE hc (by omega)) (pcE.flat_one _) (by simp; omega)) (by repeat (first | exact Split.nil | exact Pick.here | apply Pick.there | apply Split.cons))) ?_
      rintro _ hh97 _ ⟨v97, nb97, ⟨rfl, G97, hB97, rfl⟩, hs97, rfl, rfl⟩
      obtain ⟨A97, c97, rfl, _, _⟩ := Buf.form hB97
      refine ⟨⟨(by first | exact Sub.refl _ | assumption | exact Sub.trans (by assumption) (by assumption)), (by repeat (first | exact SubB.nil | exact Pick.here | apply Pick.there | apply SubB.emp | apply SubB.cons))⟩, ?_⟩
      refine VD_still rfl rfl rfl rfl (S_struct Try.underlying92 to92 tz92 rfl (by repeat (first | exact BuildR.nil | exact PutR.nil | exact SetL.here | apply SetL.there | apply PutR.cons | apply BuildR.cons rfl (by first | exact ti88 | exact ti89 | exact ti90) rfl rfl rfl))) ?_
      refine VD_eff rfl rfl (E_box rfl rfl rfl) ?_
      rintro _ _ _ ⟨b99, hb99, rfl, rfl, rfl⟩
      refine ⟨⟨(by first | exact Sub.refl _ | assumption | exact Sub.trans (by assumption) (by assumption)), (by repeat (first | exact SubB.nil | exact Pick.here | apply Pick.there | apply SubB.emp | apply SubB.cons))⟩, ?_⟩
      refine VD_still rfl rfl rfl rfl (S_move rfl) ?_
      refine VD_still rfl rfl rfl rfl (S_move rfl) ?_
      refine VD_still rfl rfl rfl rfl (S_assign rfl) ?_
      refine VD_still rfl rfl rfl rfl (S_assign rfl) ?_
      refine VD_still rfl rfl rfl rfl (S_assign rfl) ?_
      refine VD_nil ?_
      refine VQ_then ?_
      refine V_ret ?_
      refine VQ_keeps (blA := [GN b82 (.slice A72 (ks.drop (ks.length / 2 + 1)).length c72) (.slice none 0 0) (.slice A80 (bs.drop (ks.length / 2 + 1)).length c80), G72, G80, GN b99 (.slice A89 (ks.take (ks.length / 2)).length c89) (.slice none 0 0) (.slice A97 (bs.take (ks.length / 2 + 1)).length c97), G89, G97]) (by repeat (first | exact Split.nil | exact Pick.here | apply Pick.there | apply Split.cons)) (fun h1 sh1 kh1 => ?_)
      obtain ⟨q1, q2, q3, q4, q5, q6, _⟩ := kh1
      refine VQ_fin3 (nb := []) (by first | exact .inl rfl | exact .inr rfl) rfl (RV_tmp rfl) (RV_tmp rfl) (RV_tmp rfl) ?sb ?po
      case po =>
        refine ⟨rfl, .inr ⟨h7, b99, b82, by rw [getD_at hlt], fun e => absurd e hbs, fun _ => ⟨?_, ?_⟩⟩⟩
        · exact NodeAt.own q4 q5 (Gv := []) (fun q hq => by simp at hq) q6 hB89 (Buf.nil _ _) hB97
        · exact NodeAt.own q1 q2 (Gv := []) (fun q hq => by simp at hq) q3 hB72 (Buf.nil _ _) hB80
      case sb => exact (by repeat (first | exact SubB.nil | exact Pick.here | apply Pick.there | apply SubB.emp | apply SubB.cons))

/-- One tree, or two with a separator, as a put hands it back. -/
def PutO (h : Hp) (d : Nat) (r : Value) : Tr × Option (Int × Tr) → Prop
  | (t, none) => ∃ b, r = .tuple #[ptr b, .int .u64 0, .pointer none] ∧ Rp h d b t
  | (t, some (s, m)) => ∃ b1 b2, r = .tuple #[ptr b1, .int .u64 s, ptr b2] ∧ Rp h d b1 t ∧ Rp h d b2 m
theorem keysP_take (l : List Pr) (i : Nat) : keysP (l.take i) = (keysP l).take i := by simp [keysP, List.map_take]
theorem keysP_drop (l : List Pr) (i : Nat) : keysP (l.drop i) = (keysP l).drop i := by simp [keysP, List.map_drop]
/-- The split of a whole tree. -/
theorem splitT_con : ∀ (d b : Nat) (t : Tr) (h : Hp), Rp h d b t → nk t ≤ 1000 → (∀ d' ks ts, d = d' + 1 → t = .node ks ts → ts.length = ks.length + 1) →
    Con Try.prog 63 [ptr b] h [] (fun r h' nb => nb = [] ∧ (Sub h h' → PutO h' d r (cutT t)))
  | 0, b, .leaf l, h, hr, hn, _ => by
    have hn : (keysP l).length ≤ 1000 := hn
    refine (split_con b (keysP l) (l.map (fun (p : Pr) => p.2)) [] h hr hn (.inl ⟨rfl, by simp [keysP]⟩)).mono fun r h' nb ⟨e, hp⟩ => ⟨e, fun hs => ?_⟩
    rw [cutT_0]
    rw [keysP_len] at hn
    rcases hp with ⟨h7, rfl⟩ | ⟨h7, b1, b2, rfl, k1, _⟩
    · rw [keysP_len] at h7
      rw [if_pos h7]
      exact ⟨b, rfl, Rp.sub hs hr⟩
    · rw [keysP_len] at h7 k1 ⊢
      rw [if_neg h7]
      obtain ⟨a1, a2⟩ := k1 rfl
      rw [← keysP_take, ← List.map_take] at a1
      rw [← keysP_drop, ← List.map_drop] at a2
      exact ⟨b1, b2, rfl, a1, a2⟩
  | d + 1, b, .node ks ts, h, ⟨bs, hN, hA⟩, hn, hl => by
    have hn : ks.length ≤ 1000 := hn
    have hl : ts.length = ks.length + 1 := hl d ks ts rfl rfl
    have hlb := hA.len
    refine (split_con b ks [] bs h hN hn (.inr ⟨rfl, by omega⟩)).mono fun r h' nb ⟨e, hp⟩ => ⟨e, fun hs => ?_⟩
    have hA' := hA.mono (fun a b r => Rp.sub hs r)
    rw [cutT_s]
    rcases hp with ⟨h7, rfl⟩ | ⟨h7, b1, b2, rfl, _, k1⟩
    · rw [if_pos h7]
      exact ⟨b, rfl, bs, hN.sub hs, hA'⟩
    · rw [if_neg h7]
      obtain ⟨a1, a2⟩ := k1 (by intro e; subst e; simp at hlb; omega)
      exact ⟨b1, b2, rfl, ⟨_, a1, hA'.take _⟩, ⟨_, a2, hA'.drop _⟩⟩

end Go.Proofs.Ytdglignjoojimaa

/- What is put into a tree. No conditions. -/
set_option linter.unusedVariables false
set_option linter.unusedSimpArgs false
namespace Go.Proofs.Ytdglignjoojimaa

/-- What was handed back, part by part. -/
theorem PutO.form {h : Hp} {d : Nat} {r : Value} {q : Tr × Option (Int × Tr)} (p : PutO h d r q) : ∃ b1 s' o, r = .tuple #[ptr b1, .int .u64 s', .pointer o] ∧ Rp h d b1 q.1 ∧
    ((o = none ∧ q.2 = none) ∨ ∃ b2 m, o = some ⟨b2, 0, none⟩ ∧ q.2 = some (s', m) ∧ Rp h d b2 m) := by
  obtain ⟨t, o⟩ := q
  cases o with
  | none => obtain ⟨b, e, r⟩ := p; exact ⟨b, 0, none, e, r, .inl ⟨rfl, rfl⟩⟩
  | some x => obtain ⟨s, m⟩ := x; obtain ⟨b1, b2, e, r1, r2⟩ := p; exact ⟨b1, s, some ⟨b2, 0, none⟩, e, r1, .inr ⟨b2, m, rfl, rfl, r2⟩⟩
theorem keysP_ins (l : List Pr) (i : Nat) (p : Pr) : keysP (l.take i ++ p :: l.drop i) = (keysP l).take i ++ p.1 :: (keysP l).drop i := by simp [keysP, List.map_take, List.map_drop]
theorem vals_ins (l : List Pr) (i : Nat) (p : Pr) : (l.take i ++ p :: l.drop i).map (fun p => p.2) = (l.map (fun p => p.2)).take i ++ p.2 :: (l.map (fun p => p.2)).drop i := by simp [List.map_take, List.map_drop]
theorem keysP_same {l : List Pr} {i : Nat} {k : Int} {v : Ext} (h : (keysP l)[i]? = some k) : keysP (l.set i (k, v)) = keysP l := by
  apply List.ext_getElem?
  intro j
  unfold keysP at h ⊢
  rw [List.getElem?_map, List.getElem?_set, List.getElem?_map]
  rw [List.getElem?_map] at h
  split
  · rename_i e; subst e
    split
    · exact h.symm
    · rename_i hlt; rw [List.getElem?_eq_none (by omega)]
  · rfl
theorem vals_set (l : List Pr) (i : Nat) (k : Int) (v : Ext) : (l.set i (k, v)).map (fun p => p.2) = (l.map (fun p => p.2)).set i v := List.map_set
theorem SubB.any {bl : Bl} : SubB bl [] := .nil

set_option maxRecDepth 100000 in
theorem put_leaf (b : Nat) (l : List Pr) (lo hi k s n : Int) (h : Hp) (hN : NodeAt h b (keysP l) (l.map (fun p => p.2)) []) (hu : Up lo hi (keysP l)) (hn : l.length ≤ 900) : Con Try.prog 43 [ptr b, .int .u64 k, .agg #[.int .i64 s, .int .i64 n]] h [] (fun r h' nb => nb = [] ∧ PutO h' 0 r (putT 0 (.leaf l) k (s, n))) := by
  obtain ⟨kv, vv, cv, hb, hk, hv, hc⟩ := hN
  obtain ⟨A, cap, rfl, hle, hmx⟩ := hk.form
  obtain ⟨A2, cap2, rfl, hlev, hmxv⟩ := hv.form
  obtain ⟨A3, cap3, rfl, hlec, hmxc⟩ := hc.form
  have hkl := keysP_len l
  have hvl : (l.map (fun p => p.2)).length = l.length := List.length_map _
  have hil := lb_le (keysP l) k
  refine Con_of Try.func43 rfl Try.ntmps43 (Nat.le_of_ble_eq_true rfl) (fun w0 => ?_)
  refine V_seq ?_
  refine V_region ?_
  refine VL_eff rfl (E_box rfl rfl rfl) ?_
  rintro _ _ _ ⟨b5, hb5, rfl, rfl, rfl⟩
  refine VL_still rfl rfl rfl (S_assign rfl) ?_
  refine VL_still rfl rfl rfl (S_assign rfl) ?_
  refine VL_still rfl rfl rfl (S_assign rfl) ?_
  refine VL_nil ?_
  refine VQ_then ?_
  refine V_seq ?_
  refine V_region ?_
  refine VL_still rfl rfl rfl (S_move rfl) ?_
  refine VL_eff rfl (E_call rfl rfl rfl Try.call60 (clone_con b (keysP l) (l.map (fun p => p.2)) [] h ⟨_, _, _, hb, hk, hv, hc⟩ (by omega) (by rw [List.length_map]; omega) (by simp)) (by repeat (first | exact Split.nil | exact Pick.here | apply Pick.there | apply Split.cons))) ?_
  rintro _ hh17 _ ⟨v17, nb17, ⟨rfl, bo, kvo, vvo, cvo, Gk, Gv, Gc, rfl, hBk, hBv, hBc, rfl⟩, hs17, rfl, rfl⟩
  obtain ⟨Ak, ck, rfl, _, _⟩ := Buf.form hBk
  obtain ⟨Av, cvv, rfl, _, _⟩ := Buf.form hBv
  obtain ⟨Ac, cc, rfl, _, _⟩ := Buf.form hBc
  refine VL_still rfl rfl rfl (S_assign rfl) ?_
  refine VL_nil ?_
  refine VQ_then ?_
  refine V_seq ?_
  refine V_seq ?_
  refine V_region ?_
  refine VL_still rfl rfl rfl (S_move rfl) ?_
  refine VL_eff rfl (E_call rfl rfl rfl Try.call39 (leaf_con b _ _ _ h ⟨_, _, _, hb, hk, hv, hc⟩) (by repeat (first | exact Split.nil | exact Pick.here | apply Pick.there | apply Split.cons))) ?_
  rintro _ hh19 _ ⟨v19, nb19, ⟨rfl, rfl, rfl⟩, hs19, rfl, rfl⟩
  refine VL_nil ?_
  refine VQ_then ?_
  refine V_cond rfl (fun hc19 => ?_) (fun hc19 => ?_)
  · skip
    refine V_seq ?_
    refine V_region ?_
    refine VL_still rfl rfl rfl (S_move rfl) ?_
    refine VL_still rfl rfl rfl (S_nil rfl) ?_
    refine VL_still rfl rfl rfl (S_field (k := 0) Try.underlying92 rfl rfl ti88 rfl rfl) ?_
    first | refine VL_still rfl rfl rfl (S_load Try.underlying88 rfl rfl (Cell.trk (by repeat (first | exact Has.here | apply Has.there)) rfl)) ?_ | refine VL_still rfl rfl rfl (S_load Try.underlying88 rfl rfl (Cell.known (by first | assumption | exact (by assumption : Sub _ _) _ _ (by assumption) | exact (Sub.trans (by assumption) (by assumption)) _ _ (by assumption)) rfl)) ?_
    refine VL_still rfl rfl rfl (S_move rfl) ?_
    refine VL_eff rfl (E_call rfl rfl rfl Try.call41 (bs_con _ (keysP l) k lo hi h hk hu (by omega)) (by repeat (first | exact Split.nil | exact Pick.here | apply Pick.there | apply Split.cons))) ?_
    rintro _ hh26 _ ⟨v26, nb26, ⟨rfl, rfl, rfl⟩, hs26, rfl, rfl⟩
    refine VL_still rfl rfl rfl (S_move rfl) ?_
    refine VL_still rfl rfl rfl (S_extract rfl rfl) ?_
    refine VL_still rfl rfl rfl (S_extract rfl rfl) ?_
    refine VL_still rfl rfl rfl (S_assign rfl) ?_
    refine VL_still rfl rfl rfl (S_assign rfl) ?_
    refine VL_nil ?_
    refine VQ_then ?_
    refine V_seq ?_
    refine V_seq ?_
    refine V_region ?_
    refine VL_still rfl rfl rfl (S_move rfl) ?_
    refine VL_nil ?_
    refine VQ_then ?_
    refine V_cond rfl (fun hc29 => ?_) (fun hc29 => ?_)
    · skip
      have hf : (keysP l)[lb (keysP l) k]? = some k := of_decide_eq_true hc29
      have hlt : lb (keysP l) k < (l.map (fun p => p.2)).length := by
        have := (List.getElem?_eq_some_iff.1 hf).1
        omega
      obtain ⟨bv, capv, spv, ev, rfl, l1, l2, hl1, hl2⟩ := Buf.blk hBv (by omega)
      cases ev
      refine V_seq ?_
      refine V_drawL _ [GN bo (.slice Ak (keysP l).length ck) (.slice (some ⟨bv, 0, none⟩) (l.map (fun p => p.2)).length cvv) (.slice Ac ([] : List Nat).length cc), [(b5, .cells (List.toArray [.int .i64 s, .int .i64 n]) 34 (0, 0))]] 128 Try.mixed (by kernel_rfl) (by kernel_rfl) (Sub.refl _) (by repeat (first | exact SubB.nil | exact Pick.here | apply Pick.there | apply SubB.emp | apply SubB.cons)) ?_
      refine VD_still rfl rfl rfl rfl (S_move rfl) ?_
      refine VD_still rfl rfl rfl rfl (S_nil rfl) ?_
      refine VD_still rfl rfl rfl rfl (S_field (k := 1) Try.underlying92 rfl rfl ti89 rfl rfl) ?_
      first | refine VD_still rfl rfl rfl rfl (S_load Try.underlying89 rfl rfl (Cell.trk (by repeat (first | exact Has.here | apply Has.there)) rfl)) ?_ | refine VD_still rfl rfl rfl rfl (S_load Try.underlying89 rfl rfl (Cell.known (by first | assumption | exact (by assumption : Sub _ _) _ _ (by assumption) | exact (Sub.trans (by assumption) (by assumption)) _ _ (by assumption)) rfl)) ?_
      refine VD_still rfl rfl rfl rfl (S_move rfl) ?_
      first | refine VD_still rfl rfl rfl rfl (S_loads Try.underlying34 rfl ti34 rfl rfl (Cells.known (by first | assumption | exact (by assumption : Sub _ _) _ _ (by assumption) | exact (Sub.trans (by assumption) (by assumption)) _ _ (by assumption)))) ?_ | refine VD_still rfl rfl rfl rfl (S_loads Try.underlying34 rfl ti34 rfl rfl (Cells.all (by repeat (first | exact Has.here | apply Has.there)))) ?_ | refine VD_still rfl rfl rfl rfl (S_loads Try.underlying34 rfl ti34 rfl rfl (Cells.trk (by repeat (first | exact Has.here | apply Has.there)) (by repeat (first | exact TakeR.here (by repeat (first | exact HeadR.nil | apply HeadR.cons)) | apply TakeR.there)))) ?_
      refine VD_still rfl rfl rfl rfl (X_at (lb (keysP l) k) Try.underlying89 tx34 rfl rfl hlt) ?_
      refine VD_last rfl rfl (E_store ti34 rfl rfl rfl rfl rfl (by repeat (first | exact Has.here | apply Has.there)) (PutR.encd xcE hlt (s, n) spv) (by repeat (first | exact UpdG.here | apply UpdG.there))) ?_
      rintro _ _ _ ⟨rfl, rfl, rfl⟩
      refine VQ_then ?_
      refine V_seq ?_
      refine V_region ?_
      refine VL_still rfl rfl rfl (S_move rfl) ?_
      refine VL_still rfl rfl rfl (S_assign rfl) ?_
      refine VL_still rfl rfl rfl (S_assign rfl) ?_
      refine VL_still rfl rfl rfl (S_assign rfl) ?_
      refine VL_nil ?_
      refine VQ_then ?_
      refine V_ret ?_
      refine VQ_then_ret ?_
      refine VQ_then_ret ?_
      refine VQ_keeps (blA := [GN bo (.slice Ak (keysP l).length ck) (.slice (some ⟨bv, 0, none⟩) (l.map (fun p => p.2)).length cvv) (.slice Ac ([] : List Nat).length cc), Gk, [(bv, .cells (List.toArray (((l.map (fun p => p.2)).set (lb (keysP l) k) (s, n)).flatMap xc ++ spv)) 34 (0, 0))], Gc]) (by repeat (first | exact Split.nil | exact Pick.here | apply Pick.there | apply Split.cons)) (fun h1 sh1 kh1 => ?_)
      obtain ⟨q1, q2, q3, q4, _⟩ := kh1
      refine VQ_fin3 (nb := []) (by first | exact .inl rfl | exact .inr rfl) rfl (RV_tmp rfl) (RV_tmp rfl) (RV_tmp rfl) ?sb ?po
      case po =>
        refine ⟨rfl, ?_⟩
        rw [putT_0, if_pos hf]
        refine ⟨bo, rfl, ?_⟩
        show NodeAt h1 bo (keysP (l.set (lb (keysP l) k) (k, (s, n)))) ((l.set (lb (keysP l) k) (k, (s, n))).map (fun p => p.2)) []
        rw [keysP_same hf, vals_set]
        exact NodeAt.own q1 q2 q3 q4 hBk (Buf.set xcE _ (s, n) rfl l1 l2 hl2) hBc
      case sb => exact (by repeat (first | exact SubB.nil | exact Pick.here | apply Pick.there | apply SubB.emp | apply SubB.cons))
    · skip
      have hf : (keysP l)[lb (keysP l) k]? ≠ some k := of_decide_eq_false hc29
      refine V_skip ?_
      refine VQ_then ?_
      refine V_seq ?_
      refine V_drawX _ [GN bo (.slice Ak (keysP l).length ck) (.slice Av (l.map (fun p => p.2)).length cvv) (.slice Ac ([] : List Nat).length cc), [(b5, .cells (List.toArray [.int .i64 s, .int .i64 n]) 34 (0, 0))]] 9634560 40992 66304 6 Try.mixed (by kernel_rfl) (Sub.refl _) (by repeat (first | exact SubB.nil | exact Pick.here | apply Pick.there | apply SubB.emp | apply SubB.cons)) [0, 1, 2, 3, 4, 5, 6, 7, 8, 9, 10, 11, 12, 13, 14, 15, 16, 17, 18, 19, 20, 21, 22, 23] rfl ?_
      refine VB_pick2 (j1 := 8) (p1 := [7, 8]) (r1 := [0, 1, 2, 3, 4, 5, 6, 9, 10, 11, 12, 13, 14, 15, 16, 17, 18, 19, 20, 21, 22, 23]) (j2 := 16) (p2 := [15, 16]) (r2 := [0, 1, 2, 3, 4, 5, 6, 7, 8, 9, 10, 11, 12, 13, 14, 17, 18, 19, 20, 21, 22, 23]) rfl (by kernel_rfl) (by kernel_rfl) (by kernel_rfl) (by kernel_rfl) (by kernel_rfl) ?_ ?_
      · skip
        refine VX_pure rfl rfl rfl rfl rfl rfl (S_move rfl) ?_
        refine VX_eff rfl rfl rfl rfl rfl (E_bs1 rfl Try.underlying88 ti23 rfl rfl rfl rfl rfl rfl) ?_
        rintro _ _ _ ⟨b46, hb46, rfl, rfl, rfl⟩
        refine ⟨⟨(by first | exact Sub.refl _ | assumption | exact Sub.trans (by assumption) (by assumption)), (by repeat (first | exact SubB.nil | exact Pick.here | apply Pick.there | apply SubB.emp | apply SubB.cons))⟩, ?_⟩
        refine VX_more ?_
        refine VB_pick2 (j1 := 9) (p1 := [2, 3, 4, 5, 6, 9]) (r1 := [0, 1, 10, 11, 12, 13, 14, 15, 16, 17, 18, 19, 20, 21, 22, 23]) (j2 := 16) (p2 := [15, 16]) (r2 := [0, 1, 2, 3, 4, 5, 6, 9, 10, 11, 12, 13, 14, 17, 18, 19, 20, 21, 22, 23]) rfl (by kernel_rfl) (by kernel_rfl) (by kernel_rfl) (by kernel_rfl) (by kernel_rfl) ?_ ?_
        · skip
          refine VX_pure rfl rfl rfl rfl rfl rfl (S_move rfl) ?_
          refine VX_pure rfl rfl rfl rfl rfl rfl (S_nil rfl) ?_
          refine VX_pure rfl rfl rfl rfl rfl rfl (S_field (k := 0) Try.underlying92 rfl rfl ti88 rfl rfl) ?_
          first | refine VX_still rfl rfl rfl rfl rfl rfl (S_load Try.underlying88 rfl rfl (Cell.trk (by repeat (first | exact Has.here | apply Has.there)) rfl)) ?_ | refine VX_still rfl rfl rfl rfl rfl rfl (S_load Try.underlying88 rfl rfl (Cell.known (by first | assumption | exact (by assumption : Sub _ _) _ _ (by assumption) | exact (Sub.trans (by assumption) (by assumption)) _ _ (by assumption)) rfl)) ?_
          refine VX_pure rfl rfl rfl rfl rfl rfl (S_move rfl) ?_
          refine VX_eff rfl rfl rfl rfl rfl (E_call rfl rfl rfl Try.call61 (k_insert _ (keysP l).length (lb (keysP l) k) b46 (kcs (keysP l)) [.int .u64 k] h Gk hBk (kcE.flat_one _) rfl rfl hil (by omega)) (by repeat (first | exact Split.nil | exact Pick.here | apply Pick.there | apply Split.cons))) ?_
          rintro _ hh47 _ ⟨v47, nb47, ⟨rfl, G47, hB47, rfl⟩, hs47, rfl, rfl⟩
          replace hB47 := hB47.ins kcE (a := k) hil
          obtain ⟨A47, c47, rfl, _, _⟩ := Buf.form hB47
          refine ⟨⟨(by first | exact Sub.refl _ | assumption | exact Sub.trans (by assumption) (by assumption)), (by repeat (first | exact SubB.nil | exact Pick.here | apply Pick.there | apply SubB.emp | apply SubB.cons))⟩, ?_⟩
          refine VX_more ?_
          refine VB_pick1 (j := 16) (p := [15, 16]) (r := [0, 1, 10, 11, 12, 13, 14, 17, 18, 19, 20, 21, 22, 23]) rfl (by kernel_rfl) (by kernel_rfl) (by kernel_rfl) ?_
          first | refine VX_still rfl rfl rfl rfl rfl rfl (S_loads Try.underlying34 rfl ti34 rfl rfl (Cells.known (by first | assumption | exact (by assumption : Sub _ _) _ _ (by assumption) | exact (Sub.trans (by assumption) (by assumption)) _ _ (by assumption)))) ?_ | refine VX_still rfl rfl rfl rfl rfl rfl (S_loads Try.underlying34 rfl ti34 rfl rfl (Cells.all (by repeat (first | exact Has.here | apply Has.there)))) ?_ | refine VX_still rfl rfl rfl rfl rfl rfl (S_loads Try.underlying34 rfl ti34 rfl rfl (Cells.trk (by repeat (first | exact Has.here | apply Has.there)) (by repeat (first | exact TakeR.here (by repeat (first | exact HeadR.nil | apply HeadR.cons)) | apply TakeR.there)))) ?_
          refine VX_eff rfl rfl rfl rfl rfl (E_bs1 rfl Try.underlying89 ti34 rfl rfl rfl rfl rfl rfl) ?_
          rintro _ _ _ ⟨b54, hb54, rfl, rfl, rfl⟩
          refine ⟨⟨(by first | exact Sub.refl _ | assumption | exact Sub.trans (by assumption) (by assumption)), (by repeat (first | exact SubB.nil | exact Pick.here | apply Pick.there | apply SubB.emp | apply SubB.cons))⟩, ?_⟩
          refine VX_more ?_
          refine VB_pick1 (j := 17) (p := [10, 11, 12, 13, 14, 17]) (r := [0, 1, 18, 19, 20, 21, 22, 23]) rfl (by kernel_rfl) (by kernel_rfl) (by kernel_rfl) ?_
          refine VX_pure rfl rfl rfl rfl rfl rfl (S_move rfl) ?_
          refine VX_pure rfl rfl rfl rfl rfl rfl (S_nil rfl) ?_
          refine VX_pure rfl rfl rfl rfl rfl rfl (S_field (k := 1) Try.underlying92 rfl rfl ti89 rfl rfl) ?_
          first | refine VX_still rfl rfl rfl rfl rfl rfl (S_load Try.underlying89 rfl rfl (Cell.trk (by repeat (first | exact Has.here | apply Has.there)) rfl)) ?_ | refine VX_still rfl rfl rfl rfl rfl rfl (S_load Try.underlying89 rfl rfl (Cell.known (by first | assumption | exact (by assumption : Sub _ _) _ _ (by assumption) | exact (Sub.trans (by assumption) (by assumption)) _ _ (by assumption)) rfl)) ?_
          refine VX_pure rfl rfl rfl rfl rfl rfl (S_move rfl) ?_
          refine VX_effT rfl rfl rfl rfl rfl (E_call rfl rfl rfl Try.call62 (x_insert _ (l.map (fun p => p.2)).length (lb (keysP l) k) b54 (xcs (l.map (fun p => p.2))) [.int .i64 s, .int .i64 n] h Gv hBv (xcE.flat_one _) rfl rfl (by omega) (by omega)) (by repeat (first | exact Split.nil | exact Pick.here | apply Pick.there | apply Split.cons))) ?_
          rintro _ hh55 _ ⟨v55, nb55, ⟨rfl, G55, hB55, rfl⟩, hs55, rfl, rfl⟩
          replace hB55 := hB55.ins xcE (a := (s, n)) (by omega)
          obtain ⟨A55, c55, rfl, _, _⟩ := Buf.form hB55
          refine VX_more ?_
          refine VB_pick1 (j := 20) (p := [0, 18, 19, 20]) (r := [1, 21, 22, 23]) rfl (by kernel_rfl) (by kernel_rfl) (by kernel_rfl) ?_
          refine VX_pure rfl rfl rfl rfl rfl rfl (S_move rfl) ?_
          refine VX_pure rfl rfl rfl rfl rfl rfl (S_nil rfl) ?_
          refine VX_pure rfl rfl rfl rfl rfl rfl (S_field (k := 0) Try.underlying92 rfl rfl ti88 rfl rfl) ?_
          refine VX_effT rfl rfl rfl rfl rfl (E_store ti88 rfl rfl rfl rfl rfl (by repeat (first | exact Has.here | apply Has.there)) (by repeat (first | exact PutR.nil | exact SetL.here | apply SetL.there | apply PutR.cons)) (by repeat (first | exact UpdG.here | apply UpdG.there))) ?_
          rintro _ _ _ ⟨rfl, rfl, rfl⟩
          refine VX_more ?_
          refine VB_pick1 (j := 23) (p := [1, 21, 22, 23]) (r := []) rfl (by kernel_rfl) (by kernel_rfl) (by kernel_rfl) ?_
          refine VX_pure rfl rfl rfl rfl rfl rfl (S_move rfl) ?_
          refine VX_pure rfl rfl rfl rfl rfl rfl (S_nil rfl) ?_
          refine VX_pure rfl rfl rfl rfl rfl rfl (S_field (k := 1) Try.underlying92 rfl rfl ti89 rfl rfl) ?_
          refine VX_effT rfl rfl rfl rfl rfl (E_store ti89 rfl rfl rfl rfl rfl (by repeat (first | exact Has.here | apply Has.there)) (by repeat (first | exact PutR.nil | exact SetL.here | apply SetL.there | apply PutR.cons)) (by repeat (first | exact UpdG.here | apply UpdG.there))) ?_
          rintro _ _ _ ⟨rfl, rfl, rfl⟩
          refine VX_more ?_
          refine VB_end rfl ?_
          refine VX_nil ?_
          refine VQ_then ?_
          refine V_seq ?_
          refine V_region ?_
          refine VL_still rfl rfl rfl (S_move rfl) ?_
          refine VL_keeps (blA := [GN bo (.slice A47 ((keysP l).take (lb (keysP l) k) ++ k :: (keysP l).drop (lb (keysP l) k)).length c47) (.slice A55 ((l.map (fun p => p.2)).take (lb (keysP l) k) ++ (s, n) :: (l.map (fun p => p.2)).drop (lb (keysP l) k)).length c55) (.slice Ac ([] : List Nat).length cc), G47, G55, Gc]) (by repeat (first | exact Split.nil | exact Pick.here | apply Pick.there | apply Split.cons)) (fun h1 sh1 kh1 => ?_)
          obtain ⟨q1, q2, q3, q4, _⟩ := kh1
          have hR : Rp h1 0 bo (.leaf (l.take (lb (keysP l) k) ++ (k, (s, n)) :: l.drop (lb (keysP l) k))) := by
            show NodeAt _ _ (keysP _) (List.map _ _) []
            rw [keysP_ins, vals_ins]
            exact NodeAt.own q1 q2 q3 q4 hB47 hB55 hBc
          refine VL_eff rfl (E_call rfl rfl rfl Try.call63 (splitT_con 0 bo _ h1 hR (by show (keysP _).length ≤ 1000; rw [keysP_len]; simp; omega) (fun d' ks ts e => by cases e)) (by repeat (first | exact Split.nil | exact Pick.here | apply Pick.there | apply Split.cons))) ?_
          rintro _ hh61 _ ⟨v61, nb61, ⟨rfl, hP⟩, hs61, rfl, rfl⟩
          replace hP := hP hs61
          obtain ⟨b1, s', o', rfl, _⟩ := hP.form
          refine VL_still rfl rfl rfl (S_extract rfl rfl) ?_
          refine VL_still rfl rfl rfl (S_extract rfl rfl) ?_
          refine VL_still rfl rfl rfl (S_extract rfl rfl) ?_
          refine VL_still rfl rfl rfl (S_assign rfl) ?_
          refine VL_still rfl rfl rfl (S_assign rfl) ?_
          refine VL_still rfl rfl rfl (S_assign rfl) ?_
          refine VL_nil ?_
          refine VQ_then ?_
          refine V_ret ?_
          refine VQ_then_ret ?_
          refine VQ_fin3 (nb := []) (by first | exact .inl rfl | exact .inr rfl) rfl (RV_tmp rfl) (RV_tmp rfl) (RV_tmp rfl) ?sb ?po
          case po =>
            refine ⟨rfl, ?_⟩
            rw [putT_0, if_neg hf]
            exact hP
          case sb => exact (by repeat (first | exact SubB.nil | exact Pick.here | apply Pick.there | apply SubB.emp | apply SubB.cons))
        · skip
          first | refine VX_still rfl rfl rfl rfl rfl rfl (S_loads Try.underlying34 rfl ti34 rfl rfl (Cells.known (by first | assumption | exact (by assumption : Sub _ _) _ _ (by assumption) | exact (Sub.trans (by assumption) (by assumption)) _ _ (by assumption)))) ?_ | refine VX_still rfl rfl rfl rfl rfl rfl (S_loads Try.underlying34 rfl ti34 rfl rfl (Cells.all (by repeat (first | exact Has.here | apply Has.there)))) ?_ | refine VX_still rfl rfl rfl rfl rfl rfl (S_loads Try.underlying34 rfl ti34 rfl rfl (Cells.trk (by repeat (first | exact Has.here | apply Has.there)) (by repeat (first | exact TakeR.here (by repeat (first | exact HeadR.nil | apply HeadR.cons)) | apply TakeR.there)))) ?_
          refine VX_eff rfl rfl rfl rfl rfl (E_bs1 rfl Try.underlying89 ti34 rfl rfl rfl rfl rfl rfl) ?_
          rintro _ _ _ ⟨b54, hb54, rfl, rfl, rfl⟩
          refine ⟨⟨(by first | exact Sub.refl _ | assumption | exact Sub.trans (by assumption) (by assumption)), (by repeat (first | exact SubB.nil | exact Pick.here | apply Pick.there | apply SubB.emp | apply SubB.cons))⟩, ?_⟩
          refine VX_more ?_
          refine VB_pick1 (j := 9) (p := [2, 3, 4, 5, 6, 9]) (r := [0, 1, 10, 11, 12, 13, 14, 17, 18, 19, 20, 21, 22, 23]) rfl (by kernel_rfl) (by kernel_rfl) (by kernel_rfl) ?_
          refine VX_pure rfl rfl rfl rfl rfl rfl (S_move rfl) ?_
          refine VX_pure rfl rfl rfl rfl rfl rfl (S_nil rfl) ?_
          refine VX_pure rfl rfl rfl rfl rfl rfl (S_field (k := 0) Try.underlying92 rfl rfl ti88 rfl rfl) ?_
          first | refine VX_still rfl rfl rfl rfl rfl rfl (S_load Try.underlying88 rfl rfl (Cell.trk (by repeat (first | exact Has.here | apply Has.there)) rfl)) ?_ | refine VX_still rfl rfl rfl rfl rfl rfl (S_load Try.underlying88 rfl rfl (Cell.known (by first | assumption | exact (by assumption : Sub _ _) _ _ (by assumption) | exact (Sub.trans (by assumption) (by assumption)) _ _ (by assumption)) rfl)) ?_
          refine VX_pure rfl rfl rfl rfl rfl rfl (S_move rfl) ?_
          refine VX_eff rfl rfl rfl rfl rfl (E_call rfl rfl rfl Try.call61 (k_insert _ (keysP l).length (lb (keysP l) k) b46 (kcs (keysP l)) [.int .u64 k] h Gk hBk (kcE.flat_one _) rfl rfl hil (by omega)) (by repeat (first | exact Split.nil | exact Pick.here | apply Pick.there | apply Split.cons))) ?_
          rintro _ hh47 _ ⟨v47, nb47, ⟨rfl, G47, hB47, rfl⟩, hs47, rfl, rfl⟩
          replace hB47 := hB47.ins kcE (a := k) hil
          obtain ⟨A47, c47, rfl, _, _⟩ := Buf.form hB47
          refine ⟨⟨(by first | exact Sub.refl _ | assumption | exact Sub.trans (by assumption) (by assumption)), (by repeat (first | exact SubB.nil | exact Pick.here | apply Pick.there | apply SubB.emp | apply SubB.cons))⟩, ?_⟩
          refine VX_more ?_
          refine VB_pick1 (j := 17) (p := [10, 11, 12, 13, 14, 17]) (r := [0, 1, 18, 19, 20, 21, 22, 23]) rfl (by kernel_rfl) (by kernel_rfl) (by kernel_rfl) ?_
          refine VX_pure rfl rfl rfl rfl rfl rfl (S_move rfl) ?_
          refine VX_pure rfl rfl rfl rfl rfl rfl (S_nil rfl) ?_
          refine VX_pure rfl rfl rfl rfl rfl rfl (S_field (k := 1) Try.underlying92 rfl rfl ti89 rfl rfl) ?_
          first | refine VX_still rfl rfl rfl rfl rfl rfl (S_load Try.underlying89 rfl rfl (Cell.trk (by repeat (first | exact Has.here | apply Has.there)) rfl)) ?_ | refine VX_still rfl rfl rfl rfl rfl rfl (S_load Try.underlying89 rfl rfl (Cell.known (by first | assumption | exact (by assumption : Sub _ _) _ _ (by assumption) | exact (Sub.trans (by assumption) (by assumption)) _ _ (by assumption)) rfl)) ?_
          refine VX_pure rfl rfl rfl rfl rfl rfl (S_move rfl) ?_
          refine VX_effT rfl rfl rfl rfl rfl (E_call rfl rfl rfl Try.call62 (x_insert _ (l.map (fun p => p.2)).length (lb (keysP l) k) b54 (xcs (l.map (fun p => p.2))) [.int .i64 s, .int .i64 n] h Gv hBv (xcE.flat_one _) rfl rfl (by omega) (by omega)) (by repeat (first | exact Split.nil | exact Pick.here | apply Pick.there | apply Split.cons))) ?_
          rintro _ hh55 _ ⟨v55, nb55, ⟨rfl, G55, hB55, rfl⟩, hs55, rfl, rfl⟩
          replace hB55 := hB55.ins xcE (a := (s, n)) (by omega)
          obtain ⟨A55, c55, rfl, _, _⟩ := Buf.form hB55
          refine VX_more ?_
          refine VB_pick1 (j := 20) (p := [0, 18, 19, 20]) (r := [1, 21, 22, 23]) rfl (by kernel_rfl) (by kernel_rfl) (by kernel_rfl) ?_
          refine VX_pure rfl rfl rfl rfl rfl rfl (S_move rfl) ?_
          refine VX_pure rfl rfl rfl rfl rfl rfl (S_nil rfl) ?_
          refine VX_pure rfl rfl rfl rfl rfl rfl (S_field (k := 0) Try.underlying92 rfl rfl ti88 rfl rfl) ?_
          refine VX_effT rfl rfl rfl rfl rfl (E_store ti88 rfl rfl rfl rfl rfl (by repeat (first | exact Has.here | apply Has.there)) (by repeat (first | exact PutR.nil | exact SetL.here | apply SetL.there | apply PutR.cons)) (by repeat (first | exact UpdG.here | apply UpdG.there))) ?_
          rintro _ _ _ ⟨rfl, rfl, rfl⟩
          refine VX_more ?_
          refine VB_pick1 (j := 23) (p := [1, 21, 22, 23]) (r := []) rfl (by kernel_rfl) (by kernel_rfl) (by kernel_rfl) ?_
          refine VX_pure rfl rfl rfl rfl rfl rfl (S_move rfl) ?_
          refine VX_pure rfl rfl rfl rfl rfl rfl (S_nil rfl) ?_
          refine VX_pure rfl rfl rfl rfl rfl rfl (S_field (k := 1) Try.underlying92 rfl rfl ti89 rfl rfl) ?_
          refine VX_effT rfl rfl rfl rfl rfl (E_store ti89 rfl rfl rfl rfl rfl (by repeat (first | exact Has.here | apply Has.there)) (by repeat (first | exact PutR.nil | exact SetL.here | apply SetL.there | apply PutR.cons)) (by repeat (first | exact UpdG.here | apply UpdG.there))) ?_
          rintro _ _ _ ⟨rfl, rfl, rfl⟩
          refine VX_more ?_
          refine VB_end rfl ?_
          refine VX_nil ?_
          refine VQ_then ?_
          refine V_seq ?_
          refine V_region ?_
          refine VL_still rfl rfl rfl (S_move rfl) ?_
          refine VL_keeps (blA := [GN bo (.slice A47 ((keysP l).take (lb (keysP l) k) ++ k :: (keysP l).drop (lb (keysP l) k)).length c47) (.slice A55 ((l.map (fun p => p.2)).take (lb (keysP l) k) ++ (s, n) :: (l.map (fun p => p.2)).drop (lb (keysP l) k)).length c55) (.slice Ac ([] : List Nat).length cc), G47, G55, Gc]) (by repeat (first | exact Split.nil | exact Pick.here | apply Pick.there | apply Split.cons)) (fun h1 sh1 kh1 => ?_)
          obtain ⟨q1, q2, q3, q4, _⟩ := kh1
          have hR : Rp h1 0 bo (.leaf (l.take (lb (keysP l) k) ++ (k, (s, n)) :: l.drop (lb (keysP l) k))) := by
            show NodeAt _ _ (keysP _) (List.map _ _) []
            rw [keysP_ins, vals_ins]
            exact NodeAt.own q1 q2 q3 q4 hB47 hB55 hBc
          refine VL_eff rfl (E_call rfl rfl rfl Try.call63 (splitT_con 0 bo _ h1 hR (by show (keysP _).length ≤ 1000; rw [keysP_len]; simp; omega) (fun d' ks ts e => by cases e)) (by repeat (first | exact Split.nil | exact Pick.here | apply Pick.there | apply Split.cons))) ?_
          rintro _ hh61 _ ⟨v61, nb61, ⟨rfl, hP⟩, hs61, rfl, rfl⟩
          replace hP := hP hs61
          obtain ⟨b1, s', o', rfl, _⟩ := hP.form
          refine VL_still rfl rfl rfl (S_extract rfl rfl) ?_
          refine VL_still rfl rfl rfl (S_extract rfl rfl) ?_
          refine VL_still rfl rfl rfl (S_extract rfl rfl) ?_
          refine VL_still rfl rfl rfl (S_assign rfl) ?_
          refine VL_still rfl rfl rfl (S_assign rfl) ?_
          refine VL_still rfl rfl rfl (S_assign rfl) ?_
          refine VL_nil ?_
          refine VQ_then ?_
          refine V_ret ?_
          refine VQ_then_ret ?_
          refine VQ_fin3 (nb := []) (by first | exact .inl rfl | exact .inr rfl) rfl (RV_tmp rfl) (RV_tmp rfl) (RV_tmp rfl) ?sb ?po
          case po =>
            refine ⟨rfl, ?_⟩
            rw [putT_0, if_neg hf]
            exact hP
          case sb => exact (by repeat (first | exact SubB.nil | exact Pick.here | apply Pick.there | apply SubB.emp | apply SubB.cons))
      · skip
        first | refine VX_still rfl rfl rfl rfl rfl rfl (S_loads Try.underlying34 rfl ti34 rfl rfl (Cells.known (by first | assumption | exact (by assumption : Sub _ _) _ _ (by assumption) | exact (Sub.trans (by assumption) (by assumption)) _ _ (by assumption)))) ?_ | refine VX_still rfl rfl rfl rfl rfl rfl (S_loads Try.underlying34 rfl ti34 rfl rfl (Cells.all (by repeat (first | exact Has.here | apply Has.there)))) ?_ | refine VX_still rfl rfl rfl rfl rfl rfl (S_loads Try.underlying34 rfl ti34 rfl rfl (Cells.trk (by repeat (first | exact Has.here | apply Has.there)) (by repeat (first | exact TakeR.here (by repeat (first | exact HeadR.nil | apply HeadR.cons)) | apply TakeR.there)))) ?_
        refine VX_eff rfl rfl rfl rfl rfl (E_bs1 rfl Try.underlying89 ti34 rfl rfl rfl rfl rfl rfl) ?_
        rintro _ _ _ ⟨b54, hb54, rfl, rfl, rfl⟩
        refine ⟨⟨(by first | exact Sub.refl _ | assumption | exact Sub.trans (by assumption) (by assumption)), (by repeat (first | exact SubB.nil | exact Pick.here | apply Pick.there | apply SubB.emp | apply SubB.cons))⟩, ?_⟩
        refine VX_more ?_
        refine VB_pick1 (j := 8) (p := [7, 8]) (r := [0, 1, 2, 3, 4, 5, 6, 9, 10, 11, 12, 13, 14, 17, 18, 19, 20, 21, 22, 23]) rfl (by kernel_rfl) (by kernel_rfl) (by kernel_rfl) ?_
        refine VX_pure rfl rfl rfl rfl rfl rfl (S_move rfl) ?_
        refine VX_eff rfl rfl rfl rfl rfl (E_bs1 rfl Try.underlying88 ti23 rfl rfl rfl rfl rfl rfl) ?_
        rintro _ _ _ ⟨b46, hb46, rfl, rfl, rfl⟩
        refine ⟨⟨(by first | exact Sub.refl _ | assumption | exact Sub.trans (by assumption) (by assumption)), (by repeat (first | exact SubB.nil | exact Pick.here | apply Pick.there | apply SubB.emp | apply SubB.cons))⟩, ?_⟩
        refine VX_more ?_
        refine VB_pick1 (j := 9) (p := [2, 3, 4, 5, 6, 9]) (r := [0, 1, 10, 11, 12, 13, 14, 17, 18, 19, 20, 21, 22, 23]) rfl (by kernel_rfl) (by kernel_rfl) (by kernel_rfl) ?_
        refine VX_pure rfl rfl rfl rfl rfl rfl (S_move rfl) ?_
        refine VX_pure rfl rfl rfl rfl rfl rfl (S_nil rfl) ?_
        refine VX_pure rfl rfl rfl rfl rfl rfl (S_field (k := 0) Try.underlying92 rfl rfl ti88 rfl rfl) ?_
        first | refine VX_still rfl rfl rfl rfl rfl rfl (S_load Try.underlying88 rfl rfl (Cell.trk (by repeat (first | exact Has.here | apply Has.there)) rfl)) ?_ | refine VX_still rfl rfl rfl rfl rfl rfl (S_load Try.underlying88 rfl rfl (Cell.known (by first | assumption | exact (by assumption : Sub _ _) _ _ (by assumption) | exact (Sub.trans (by assumption) (by assumption)) _ _ (by assumption)) rfl)) ?_
        refine VX_pure rfl rfl rfl rfl rfl rfl (S_move rfl) ?_
        refine VX_eff rfl rfl rfl rfl rfl (E_call rfl rfl rfl Try.call61 (k_insert _ (keysP l).length (lb (keysP l) k) b46 (kcs (keysP l)) [.int .u64 k] h Gk hBk (kcE.flat_one _) rfl rfl hil (by omega)) (by repeat (first | exact Split.nil | exact Pick.here | apply Pick.there | apply Split.cons))) ?_
        rintro _ hh47 _ ⟨v47, nb47, ⟨rfl, G47, hB47, rfl⟩, hs47, rfl, rfl⟩
        replace hB47 := hB47.ins kcE (a := k) hil
        obtain ⟨A47, c47, rfl, _, _⟩ := Buf.form hB47
        refine ⟨⟨(by first | exact Sub.refl _ | assumption | exact Sub.trans (by assumption) (by assumption)), (by repeat (first | exact SubB.nil | exact Pick.here | apply Pick.there | apply SubB.emp | apply SubB.cons))⟩, ?_⟩
        refine VX_more ?_
        refine VB_pick1 (j := 17) (p := [10, 11, 12, 13, 14, 17]) (r := [0, 1, 18, 19, 20, 21, 22, 23]) rfl (by kernel_rfl) (by kernel_rfl) (by kernel_rfl) ?_
        refine VX_pure rfl rfl rfl rfl rfl rfl (S_move rfl) ?_
        refine VX_pure rfl rfl rfl rfl rfl rfl (S_nil rfl) ?_
        refine VX_pure rfl rfl rfl rfl rfl rfl (S_field (k := 1) Try.underlying92 rfl rfl ti89 rfl rfl) ?_
        first | refine VX_still rfl rfl rfl rfl rfl rfl (S_load Try.underlying89 rfl rfl (Cell.trk (by repeat (first | exact Has.here | apply Has.there)) rfl)) ?_ | refine VX_still rfl rfl rfl rfl rfl rfl (S_load Try.underlying89 rfl rfl (Cell.known (by first | assumption | exact (by assumption : Sub _ _) _ _ (by assumption) | exact (Sub.trans (by assumption) (by assumption)) _ _ (by assumption)) rfl)) ?_
        refine VX_pure rfl rfl rfl rfl rfl rfl (S_move rfl) ?_
        refine VX_effT rfl rfl rfl rfl rfl (E_call rfl rfl rfl Try.call62 (x_insert _ (l.map (fun p => p.2)).length (lb (keysP l) k) b54 (xcs (l.map (fun p => p.2))) [.int .i64 s, .int .i64 n] h Gv hBv (xcE.flat_one _) rfl rfl (by omega) (by omega)) (by repeat (first | exact Split.nil | exact Pick.here | apply Pick.there | apply Split.cons))) ?_
        rintro _ hh55 _ ⟨v55, nb55, ⟨rfl, G55, hB55, rfl⟩, hs55, rfl, rfl⟩
        replace hB55 := hB55.ins xcE (a := (s, n)) (by omega)
        obtain ⟨A55, c55, rfl, _, _⟩ := Buf.form hB55
        refine VX_more ?_
        refine VB_pick1 (j := 20) (p := [0, 18, 19, 20]) (r := [1, 21, 22, 23]) rfl (by kernel_rfl) (by kernel_rfl) (by kernel_rfl) ?_
        refine VX_pure rfl rfl rfl rfl rfl rfl (S_move rfl) ?_
        refine VX_pure rfl rfl rfl rfl rfl rfl (S_nil rfl) ?_
        refine VX_pure rfl rfl rfl rfl rfl rfl (S_field (k := 0) Try.underlying92 rfl rfl ti88 rfl rfl) ?_
        refine VX_effT rfl rfl rfl rfl rfl (E_store ti88 rfl rfl rfl rfl rfl (by repeat (first | exact Has.here | apply Has.there)) (by repeat (first | exact PutR.nil | exact SetL.here | apply SetL.there | apply PutR.cons)) (by repeat (first | exact UpdG.here | apply UpdG.there))) ?_
        rintro _ _ _ ⟨rfl, rfl, rfl⟩
        refine VX_more ?_
        refine VB_pick1 (j := 23) (p := [1, 21, 22, 23]) (r := []) rfl (by kernel_rfl) (by kernel_rfl) (by kernel_rfl) ?_
        refine VX_pure rfl rfl rfl rfl rfl rfl (S_move rfl) ?_
        refine VX_pure rfl rfl rfl rfl rfl rfl (S_nil rfl) ?_
        refine VX_pure rfl rfl rfl rfl rfl rfl (S_field (k := 1) Try.underlying92 rfl rfl ti89 rfl rfl) ?_
        refine VX_effT rfl rfl rfl rfl rfl (E_store ti89 rfl rfl rfl rfl rfl (by repeat (first | exact Has.here | apply Has.there)) (by repeat (first | exact PutR.nil | exact SetL.here | apply SetL.there | apply PutR.cons)) (by repeat (first | exact UpdG.here | apply UpdG.there))) ?_
        rintro _ _ _ ⟨rfl, rfl, rfl⟩
        refine VX_more ?_
        refine VB_end rfl ?_
        refine VX_nil ?_
        refine VQ_then ?_
        refine V_seq ?_
        refine V_region ?_
        refine VL_still rfl rfl rfl (S_move rfl) ?_
        refine VL_keeps (blA := [GN bo (.slice A47 ((keysP l).take (lb (keysP l) k) ++ k :: (keysP l).drop (lb (keysP l) k)).length c47) (.slice A55 ((l.map (fun p => p.2)).take (lb (keysP l) k) ++ (s, n) :: (l.map (fun p => p.2)).drop (lb (keysP l) k)).length c55) (.slice Ac ([] : List Nat).length cc), G47, G55, Gc]) (by repeat (first | exact Split.nil | exact Pick.here | apply Pick.there | apply Split.cons)) (fun h1 sh1 kh1 => ?_)
        obtain ⟨q1, q2, q3, q4, _⟩ := kh1
        have hR : Rp h1 0 bo (.leaf (l.take (lb (keysP l) k) ++ (k, (s, n)) :: l.drop (lb (keysP l) k))) := by
          show NodeAt _ _ (keysP _) (List.map _ _) []
          rw [keysP_ins, vals_ins]
          exact NodeAt.own q1 q2 q3 q4 hB47 hB55 hBc
        refine VL_eff rfl (E_call rfl rfl rfl Try.call63 (splitT_con 0 bo _ h1 hR (by show (keysP _).length ≤ 1000; rw [keysP_len]; simp; omega) (fun d' ks ts e => by cases e)) (by repeat (first | exact Split.nil | exact Pick.here | apply Pick.there | apply Split.cons))) ?_
        rintro _ hh61 _ ⟨v61, nb61, ⟨rfl, hP⟩, hs61, rfl, rfl⟩
        replace hP := hP hs61
        obtain ⟨b1, s', o', rfl, _⟩ := hP.form
        refine VL_still rfl rfl rfl (S_extract rfl rfl) ?_
        refine VL_still rfl rfl rfl (S_extract rfl rfl) ?_
        refine VL_still rfl rfl rfl (S_extract rfl rfl) ?_
        refine VL_still rfl rfl rfl (S_assign rfl) ?_
        refine VL_still rfl rfl rfl (S_assign rfl) ?_
        refine VL_still rfl rfl rfl (S_assign rfl) ?_
        refine VL_nil ?_
        refine VQ_then ?_
        refine V_ret ?_
        refine VQ_then_ret ?_
        refine VQ_fin3 (nb := []) (by first | exact .inl rfl | exact .inr rfl) rfl (RV_tmp rfl) (RV_tmp rfl) (RV_tmp rfl) ?sb ?po
        case po =>
          refine ⟨rfl, ?_⟩
          rw [putT_0, if_neg hf]
          exact hP
        case sb => exact (by repeat (first | exact SubB.nil | exact Pick.here | apply Pick.there | apply SubB.emp | apply SubB.cons))
  · skip
    simp at hc19

theorem Ch.at_ {α : Type} {R : Int → Int → α → Prop} {ks : List Int} {ts : List α} {lo hi : Int} (h : Ch R lo hi ks ts) {i : Nat} (hi' : i < ts.length) : ∃ lo' hi', R lo' hi' ts[i] := by
  obtain ⟨A, t, B, lo', hi'', e, f⟩ := h.foc (i := i) (by have := h.len; omega)
  subst e
  refine ⟨lo', hi'', ?_⟩
  have hat := f.at_
  have : (A ++ t :: B)[i] = t := by rw [List.getElem_append_right (by omega)]; simp [hat]
  rw [this]; exact f.one

set_option maxRecDepth 100000 in
theorem put_node (d b : Nat) (ks : List Int) (ts : List Tr) (bs : List Nat) (lo hi k s n : Int) (h : Hp) (hN : NodeAt h b ks [] bs) (hA : All2 (Rp h d) bs ts) (hI : Ch (In d) lo hi ks ts) (hK : ∀ x ∈ ts, 3 ≤ nk x ∧ nk x ≤ 7 ∧ Kd d x) (hn : ks.length ≤ 7)
    (ih : ∀ (b : Nat) (t : Tr) (lo hi : Int) (h : Hp), Rp h d b t → In d lo hi t → Kd d t → nk t ≤ 7 → Con Try.prog 43 [ptr b, .int .u64 k, .agg #[.int .i64 s, .int .i64 n]] h [] (fun r h' nb => nb = [] ∧ PutO h' d r (putT d t k (s, n)))) : Con Try.prog 43 [ptr b, .int .u64 k, .agg #[.int .i64 s, .int .i64 n]] h [] (fun r h' nb => nb = [] ∧ PutO h' (d + 1) r (putT (d + 1) (.node ks ts) k (s, n))) := by
  obtain ⟨kv, vv, cv, hb, hk, hv, hc⟩ := hN
  obtain ⟨A, cap, rfl, hle, hmx⟩ := hk.form
  obtain ⟨A2, cap2, rfl, hlev, hmxv⟩ := hv.form
  obtain ⟨A3, cap3, rfl, hlec, hmxc⟩ := hc.form
  have hlen := hI.len
  have hbl := hA.len
  have hil := ub_le ks k
  have hib : ub ks k < bs.length := by omega
  have hit : ub ks k < ts.length := by omega
  have hbs : bs ≠ [] := by intro e; subst e; simp at hib
  obtain ⟨lo', hi', hIx⟩ := hI.at_ hit
  have hKx := hK ts[ub ks k] (List.getElem_mem hit)
  obtain ⟨bi, hbi, hRi⟩ := hA.get (List.getElem?_eq_getElem hit)
  have hbi' : bs[ub ks k] = bi := by rw [List.getElem?_eq_getElem hib] at hbi; exact Option.some.inj hbi
  obtain ⟨bb, off, cap', e1, hcc⟩ := hc.at_ pcE rfl hib
  cases e1
  rw [hbi'] at hcc
  refine Con_of Try.func43 rfl Try.ntmps43 (Nat.le_of_ble_eq_true rfl) (fun w0 => ?_)
  refine V_seq ?_
  refine V_region ?_
  refine VL_eff rfl (E_box rfl rfl rfl) ?_
  rintro _ _ _ ⟨b5, hb5, rfl, rfl, rfl⟩
  refine VL_still rfl rfl rfl (S_assign rfl) ?_
  refine VL_still rfl rfl rfl (S_assign rfl) ?_
  refine VL_still rfl rfl rfl (S_assign rfl) ?_
  refine VL_nil ?_
  refine VQ_then ?_
  refine V_seq ?_
  refine V_region ?_
  refine VL_still rfl rfl rfl (S_move rfl) ?_
  refine VL_eff rfl (E_call rfl rfl rfl Try.call60 (clone_con b ks [] bs h ⟨_, _, _, hb, hk, hv, hc⟩ (by omega) (by simp) (by omega)) (by repeat (first | exact Split.nil | exact Pick.here | apply Pick.there | apply Split.cons))) ?_
  rintro _ hh17 _ ⟨v17, nb17, ⟨rfl, bo, kvo, vvo, cvo, Gk, Gv, Gc, rfl, hBk, hBv, hBc, rfl⟩, hs17, rfl, rfl⟩
  obtain ⟨Ak, ck, rfl, _, _⟩ := Buf.form hBk
  obtain ⟨Av, cvv, rfl, _, _⟩ := Buf.form hBv
  obtain ⟨bc, capc, spc, rfl, rfl, l1, l2, hl1, hl2⟩ := Buf.blk hBc (by omega)
  refine VL_still rfl rfl rfl (S_assign rfl) ?_
  refine VL_nil ?_
  refine VQ_then ?_
  refine V_seq ?_
  refine V_seq ?_
  refine V_region ?_
  refine VL_still rfl rfl rfl (S_move rfl) ?_
  refine VL_eff rfl (E_call rfl rfl rfl Try.call39 (leaf_con b _ _ _ h ⟨_, _, _, hb, hk, hv, hc⟩) (by repeat (first | exact Split.nil | exact Pick.here | apply Pick.there | apply Split.cons))) ?_
  rintro _ hh19 _ ⟨v19, nb19, ⟨rfl, rfl, rfl⟩, hs19, rfl, rfl⟩
  refine VL_nil ?_
  refine VQ_then ?_
  refine V_cond rfl (fun hc19 => ?_) (fun hc19 => ?_)
  · skip
    exact absurd (of_decide_eq_true hc19) hbs
  · skip
    refine V_skip ?_
    refine VQ_then ?_
    refine V_seq ?_
    refine V_region ?_
    refine VL_still rfl rfl rfl (S_move rfl) ?_
    refine VL_still rfl rfl rfl (S_move rfl) ?_
    refine VL_eff rfl (E_call rfl rfl rfl Try.call40 (way_con b _ _ _ h ⟨_, _, _, hb, hk, hv, hc⟩ k _ _ hI.seps (by omega)) (by repeat (first | exact Split.nil | exact Pick.here | apply Pick.there | apply Split.cons))) ?_
    rintro _ hh67 _ ⟨v67, nb67, ⟨rfl, rfl, rfl⟩, hs67, rfl, rfl⟩
    refine VL_still rfl rfl rfl (S_assign rfl) ?_
    refine VL_nil ?_
    refine VQ_then ?_
    refine V_seq ?_
    refine V_draw _ [[(b5, .cells (List.toArray [.int .i64 s, .int .i64 n]) 34 (0, 0))]] 512 Try.mixed (by kernel_rfl) (Sub.refl _) (by repeat (first | exact SubB.nil | exact Pick.here | apply Pick.there | apply SubB.emp | apply SubB.cons)) ?_
    refine VD_still rfl rfl rfl rfl (S_move rfl) ?_
    refine VD_still rfl rfl rfl rfl (S_nil rfl) ?_
    refine VD_still rfl rfl rfl rfl (S_field (k := 2) Try.underlying92 rfl rfl ti90 rfl rfl) ?_
    first | refine VD_still rfl rfl rfl rfl (S_load Try.underlying90 rfl rfl (Cell.trk (by repeat (first | exact Has.here | apply Has.there)) rfl)) ?_ | refine VD_still rfl rfl rfl rfl (S_load Try.underlying90 rfl rfl (Cell.known (by first | assumption | exact (by assumption : Sub _ _) _ _ (by assumption) | exact (Sub.trans (by assumption) (by assumption)) _ _ (by assumption)) rfl)) ?_
    refine VD_still rfl rfl rfl rfl (S_move rfl) ?_
    refine VD_still rfl rfl rfl rfl (X_at (ub ks k) Try.underlying90 tx83 rfl rfl hib) ?_
    refine VD_still rfl rfl rfl rfl (S_load Try.underlying83 rfl rfl hcc.1.mem) ?_
    refine VD_still rfl rfl rfl rfl (S_move rfl) ?_
    first | refine VD_still rfl rfl rfl rfl (S_loads Try.underlying34 rfl ti34 rfl rfl (Cells.known (by first | assumption | exact (by assumption : Sub _ _) _ _ (by assumption) | exact (Sub.trans (by assumption) (by assumption)) _ _ (by assumption)))) ?_ | refine VD_still rfl rfl rfl rfl (S_loads Try.underlying34 rfl ti34 rfl rfl (Cells.all (by repeat (first | exact Has.here | apply Has.there)))) ?_ | refine VD_still rfl rfl rfl rfl (S_loads Try.underlying34 rfl ti34 rfl rfl (Cells.trk (by repeat (first | exact Has.here | apply Has.there)) (by repeat (first | exact TakeR.here (by repeat (first | exact HeadR.nil | apply HeadR.cons)) | apply TakeR.there)))) ?_
    refine VD_eff rfl rfl (E_call rfl rfl rfl Try.call43 (ih bi _ _ _ h hRi hIx hKx.2.2 hKx.2.1) (by repeat (first | exact Split.nil | exact Pick.here | apply Pick.there | apply Split.cons))) ?_
    rintro _ hh78 _ ⟨v78, nb78, ⟨rfl, hP⟩, hs78, rfl, rfl⟩
    obtain ⟨b1, s', o', rfl, hR1, ho⟩ := hP.form
    have hA1 := (hA.mono (fun a b r => Rp.sub hs78 r)).set (ub ks k) hR1
    refine ⟨⟨(by first | exact Sub.refl _ | assumption | exact Sub.trans (by assumption) (by assumption)), (by repeat (first | exact SubB.nil | exact Pick.here | apply Pick.there | apply SubB.emp | apply SubB.cons))⟩, ?_⟩
    refine VD_still rfl rfl rfl rfl (S_move rfl) ?_
    refine VD_still rfl rfl rfl rfl (S_extract rfl rfl) ?_
    refine VD_still rfl rfl rfl rfl (S_extract rfl rfl) ?_
    refine VD_still rfl rfl rfl rfl (S_extract rfl rfl) ?_
    refine VD_still rfl rfl rfl rfl (S_assign rfl) ?_
    refine VD_still rfl rfl rfl rfl (S_assign rfl) ?_
    refine VD_still rfl rfl rfl rfl (S_assign rfl) ?_
    refine VD_nil ?_
    refine VQ_then ?_
    refine V_seq ?_
    refine V_region ?_
    refine VL_still rfl rfl rfl (S_move rfl) ?_
    refine VL_still rfl rfl rfl (S_nil rfl) ?_
    refine VL_still rfl rfl rfl (S_field (k := 2) Try.underlying92 rfl rfl ti90 rfl rfl) ?_
    first | refine VL_still rfl rfl rfl (S_load Try.underlying90 rfl rfl (Cell.trk (by repeat (first | exact Has.here | apply Has.there)) rfl)) ?_ | refine VL_still rfl rfl rfl (S_load Try.underlying90 rfl rfl (Cell.known (by first | assumption | exact (by assumption : Sub _ _) _ _ (by assumption) | exact (Sub.trans (by assumption) (by assumption)) _ _ (by assumption)) rfl)) ?_
    refine VL_still rfl rfl rfl (S_move rfl) ?_
    refine VL_still rfl rfl rfl (S_move rfl) ?_
    refine VL_still rfl rfl rfl (X_at (ub ks k) Try.underlying90 tx83 rfl rfl hib) ?_
    refine VL_eff rfl (E_store ti83 rfl rfl rfl rfl rfl (by repeat (first | exact Has.here | apply Has.there)) (PutR.encd pcE hib b1 spc) (by repeat (first | exact UpdG.here | apply UpdG.there))) ?_
    rintro _ _ _ ⟨rfl, rfl, rfl⟩
    have hBc' : BC (.slice (some ⟨bc, 0, none⟩) bs.length capc) (bs.set (ub ks k) b1) [(bc, .cells (List.toArray ((bs.set (ub ks k) b1).flatMap pc ++ spc)) 83 (0, 0))] := Buf.set pcE _ b1 rfl l1 l2 hl2
    refine VL_nil ?_
    refine VQ_then ?_
    refine V_seq ?_
    refine V_seq ?_
    refine V_region ?_
    refine VL_still rfl rfl rfl (S_move rfl) ?_
    refine VL_still rfl rfl rfl (S_pnenil Try.underlying83 rfl rfl) ?_
    refine VL_nil ?_
    refine VQ_then ?_
    refine V_cond rfl (fun hc90 => ?_) (fun hc90 => ?_)
    · skip
      obtain ⟨b2, m, rfl, hq2, hR2⟩ : ∃ b2 m, o' = some ⟨b2, 0, none⟩ ∧ (putT d ts[ub ks k] k (s, n)).2 = some (s', m) ∧ Rp hh78 d b2 m := by
        rcases ho with ⟨rfl, _⟩ | ho
        · simp at hc90
        · exact ho
      refine V_drawX _ [GN bo (.slice Ak ks.length ck) (.slice Av ([] : List Ext).length cvv) (.slice (some ⟨bc, 0, none⟩) bs.length capc)] 19268352 8224 131840 6 Try.mixed (by kernel_rfl) (Sub.refl _) (by repeat (first | exact SubB.nil | exact Pick.here | apply Pick.there | apply SubB.emp | apply SubB.cons)) [0, 1, 2, 3, 4, 5, 6, 7, 8, 9, 10, 11, 12, 13, 14, 15, 16, 17, 18, 19, 20, 21, 22, 23, 24] rfl ?_
      refine VB_pick2 (j1 := 8) (p1 := [7, 8]) (r1 := [0, 1, 2, 3, 4, 5, 6, 9, 10, 11, 12, 13, 14, 15, 16, 17, 18, 19, 20, 21, 22, 23, 24]) (j2 := 17) (p2 := [16, 17]) (r2 := [0, 1, 2, 3, 4, 5, 6, 7, 8, 9, 10, 11, 12, 13, 14, 15, 18, 19, 20, 21, 22, 23, 24]) rfl (by kernel_rfl) (by kernel_rfl) (by kernel_rfl) (by kernel_rfl) (by kernel_rfl) ?_ ?_
      · skip
        refine VX_pure rfl rfl rfl rfl rfl rfl (S_move rfl) ?_
        refine VX_eff rfl rfl rfl rfl rfl (E_bs1 rfl Try.underlying88 ti23 rfl rfl rfl rfl rfl rfl) ?_
        rintro _ _ _ ⟨b99, hb99, rfl, rfl, rfl⟩
        refine ⟨⟨(by first | exact Sub.refl _ | assumption | exact Sub.trans (by assumption) (by assumption)), (by repeat (first | exact SubB.nil | exact Pick.here | apply Pick.there | apply SubB.emp | apply SubB.cons))⟩, ?_⟩
        refine VX_more ?_
        refine VB_pick2 (j1 := 9) (p1 := [2, 3, 4, 5, 6, 9]) (r1 := [0, 1, 10, 11, 12, 13, 14, 15, 16, 17, 18, 19, 20, 21, 22, 23, 24]) (j2 := 17) (p2 := [16, 17]) (r2 := [0, 1, 2, 3, 4, 5, 6, 9, 10, 11, 12, 13, 14, 15, 18, 19, 20, 21, 22, 23, 24]) rfl (by kernel_rfl) (by kernel_rfl) (by kernel_rfl) (by kernel_rfl) (by kernel_rfl) ?_ ?_
        · skip
          refine VX_pure rfl rfl rfl rfl rfl rfl (S_move rfl) ?_
          refine VX_pure rfl rfl rfl rfl rfl rfl (S_nil rfl) ?_
          refine VX_pure rfl rfl rfl rfl rfl rfl (S_field (k := 0) Try.underlying92 rfl rfl ti88 rfl rfl) ?_
          first | refine VX_still rfl rfl rfl rfl rfl rfl (S_load Try.underlying88 rfl rfl (Cell.trk (by repeat (first | exact Has.here | apply Has.there)) rfl)) ?_ | refine VX_still rfl rfl rfl rfl rfl rfl (S_load Try.underlying88 rfl rfl (Cell.known (by first | assumption | exact (by assumption : Sub _ _) _ _ (by assumption) | exact (Sub.trans (by assumption) (by assumption)) _ _ (by assumption)) rfl)) ?_
          refine VX_pure rfl rfl rfl rfl rfl rfl (S_move rfl) ?_
          refine VX_eff rfl rfl rfl rfl rfl (E_call rfl rfl rfl Try.call61 (k_insert _ ks.length (ub ks k) b99 (kcs ks) [.int .u64 s'] hh78 Gk hBk (kcE.flat_one _) rfl rfl hil (by omega)) (by repeat (first | exact Split.nil | exact Pick.here | apply Pick.there | apply Split.cons))) ?_
          rintro _ hh100 _ ⟨v100, nb100, ⟨rfl, G100, hB100, rfl⟩, hs100, rfl, rfl⟩
          replace hB100 := hB100.ins kcE (a := s') hil
          obtain ⟨A100, c100, rfl, _, _⟩ := Buf.form hB100
          refine ⟨⟨(by first | exact Sub.refl _ | assumption | exact Sub.trans (by assumption) (by assumption)), (by repeat (first | exact SubB.nil | exact Pick.here | apply Pick.there | apply SubB.emp | apply SubB.cons))⟩, ?_⟩
          refine VX_more ?_
          refine VB_pick1 (j := 17) (p := [16, 17]) (r := [0, 1, 10, 11, 12, 13, 14, 15, 18, 19, 20, 21, 22, 23, 24]) rfl (by kernel_rfl) (by kernel_rfl) (by kernel_rfl) ?_
          refine VX_pure rfl rfl rfl rfl rfl rfl (S_move rfl) ?_
          refine VX_eff rfl rfl rfl rfl rfl (E_bs1 rfl Try.underlying90 ti83 rfl rfl rfl rfl rfl rfl) ?_
          rintro _ _ _ ⟨b108, hb108, rfl, rfl, rfl⟩
          refine ⟨⟨(by first | exact Sub.refl _ | assumption | exact Sub.trans (by assumption) (by assumption)), (by repeat (first | exact SubB.nil | exact Pick.here | apply Pick.there | apply SubB.emp | apply SubB.cons))⟩, ?_⟩
          refine VX_more ?_
          refine VB_pick1 (j := 18) (p := [10, 11, 12, 13, 14, 15, 18]) (r := [0, 1, 19, 20, 21, 22, 23, 24]) rfl (by kernel_rfl) (by kernel_rfl) (by kernel_rfl) ?_
          refine VX_pure rfl rfl rfl rfl rfl rfl (S_move rfl) ?_
          refine VX_pure rfl rfl rfl rfl rfl rfl (S_nil rfl) ?_
          refine VX_pure rfl rfl rfl rfl rfl rfl (S_field (k := 2) Try.underlying92 rfl rfl ti90 rfl rfl) ?_
          first | refine VX_still rfl rfl rfl rfl rfl rfl (S_load Try.underlying90 rfl rfl (Cell.trk (by repeat (first | exact Has.here | apply Has.there)) rfl)) ?_ | refine VX_still rfl rfl rfl rfl rfl rfl (S_load Try.underlying90 rfl rfl (Cell.known (by first | assumption | exact (by assumption : Sub _ _) _ _ (by assumption) | exact (Sub.trans (by assumption) (by assumption)) _ _ (by assumption)) rfl)) ?_
          refine VX_pure rfl rfl rfl rfl rfl rfl (S_move rfl) ?_
          refine VX_pure rfl rfl rfl rfl rfl rfl (S_addn (ub ks k) 1 rfl rfl (by omega)) ?_
          refine VX_effT rfl rfl rfl rfl rfl (E_call rfl rfl rfl Try.call64 (n_insert _ (bs.set (ub ks k) b1).length (ub ks k + 1) b108 (pcs (bs.set (ub ks k) b1)) [ptr b2] hh78 [(bc, .cells (List.toArray ((bs.set (ub ks k) b1).flatMap pc ++ spc)) 83 (0, 0))] hBc' (pcE.flat_one _) rfl rfl (by rw [List.length_set]; omega) (by rw [List.length_set]; omega)) (by repeat (first | exact Split.nil | exact Pick.here | apply Pick.there | apply Split.cons))) ?_
          rintro _ hh109 _ ⟨v109, nb109, ⟨rfl, G109, hB109, rfl⟩, hs109, rfl, rfl⟩
          replace hB109 := hB109.ins pcE (a := b2) (by rw [List.length_set]; omega)
          obtain ⟨A109, c109, rfl, _, _⟩ := Buf.form hB109
          refine VX_more ?_
          refine VB_pick1 (j := 21) (p := [0, 19, 20, 21]) (r := [1, 22, 23, 24]) rfl (by kernel_rfl) (by kernel_rfl) (by kernel_rfl) ?_
          refine VX_pure rfl rfl rfl rfl rfl rfl (S_move rfl) ?_
          refine VX_pure rfl rfl rfl rfl rfl rfl (S_nil rfl) ?_
          refine VX_pure rfl rfl rfl rfl rfl rfl (S_field (k := 0) Try.underlying92 rfl rfl ti88 rfl rfl) ?_
          refine VX_effT rfl rfl rfl rfl rfl (E_store ti88 rfl rfl rfl rfl rfl (by repeat (first | exact Has.here | apply Has.there)) (by repeat (first | exact PutR.nil | exact SetL.here | apply SetL.there | apply PutR.cons)) (by repeat (first | exact UpdG.here | apply UpdG.there))) ?_
          rintro _ _ _ ⟨rfl, rfl, rfl⟩
          refine VX_more ?_
          refine VB_pick1 (j := 24) (p := [1, 22, 23, 24]) (r := []) rfl (by kernel_rfl) (by kernel_rfl) (by kernel_rfl) ?_
          refine VX_pure rfl rfl rfl rfl rfl rfl (S_move rfl) ?_
          refine VX_pure rfl rfl rfl rfl rfl rfl (S_nil rfl) ?_
          refine VX_pure rfl rfl rfl rfl rfl rfl (S_field (k := 2) Try.underlying92 rfl rfl ti90 rfl rfl) ?_
          refine VX_effT rfl rfl rfl rfl rfl (E_store ti90 rfl rfl rfl rfl rfl (by repeat (first | exact Has.here | apply Has.there)) (by repeat (first | exact PutR.nil | exact SetL.here | apply SetL.there | apply PutR.cons)) (by repeat (first | exact UpdG.here | apply UpdG.there))) ?_
          rintro _ _ _ ⟨rfl, rfl, rfl⟩
          refine VX_more ?_
          refine VB_end rfl ?_
          refine VX_nil ?_
          refine VQ_then ?_
          refine V_seq ?_
          refine V_region ?_
          refine VL_still rfl rfl rfl (S_move rfl) ?_
          refine VL_keeps (blA := [GN bo (.slice A100 (ks.take (ub ks k) ++ s' :: ks.drop (ub ks k)).length c100) (.slice Av ([] : List Ext).length cvv) (.slice A109 ((bs.set (ub ks k) b1).take (ub ks k + 1) ++ b2 :: (bs.set (ub ks k) b1).drop (ub ks k + 1)).length c109), G100, Gv, G109]) (by repeat (first | exact Split.nil | exact Pick.here | apply Pick.there | apply Split.cons)) (fun h1 sh1 kh1 => ?_)
          obtain ⟨q1, q2, q3, q4, _⟩ := kh1
          have hR : Rp h1 (d + 1) bo (.node (ks.take (ub ks k) ++ s' :: ks.drop (ub ks k)) ((ts.set (ub ks k) (putT d ts[ub ks k] k (s, n)).1).take (ub ks k + 1) ++ m :: (ts.set (ub ks k) (putT d ts[ub ks k] k (s, n)).1).drop (ub ks k + 1))) :=
            ⟨_, NodeAt.own q1 q2 q3 q4 hB100 hBv hB109, ((hA1.take _).app (.cons hR2 (hA1.drop _))).mono fun a b r => Rp.sub sh1 r⟩
          refine VL_eff rfl (E_call rfl rfl rfl Try.call63 (splitT_con (d + 1) bo _ h1 hR (by show (ks.take _ ++ _ :: ks.drop _).length ≤ 1000; simp; omega) (fun d' ks' ts' e1 e2 => by cases e2; simp; omega)) (by repeat (first | exact Split.nil | exact Pick.here | apply Pick.there | apply Split.cons))) ?_
          rintro _ hh115 _ ⟨v115, nb115, ⟨rfl, hP2⟩, hs115, rfl, rfl⟩
          replace hP2 := hP2 hs115
          obtain ⟨b1', s2, o2, rfl, _⟩ := hP2.form
          refine VL_still rfl rfl rfl (S_extract rfl rfl) ?_
          refine VL_still rfl rfl rfl (S_extract rfl rfl) ?_
          refine VL_still rfl rfl rfl (S_extract rfl rfl) ?_
          refine VL_still rfl rfl rfl (S_assign rfl) ?_
          refine VL_still rfl rfl rfl (S_assign rfl) ?_
          refine VL_still rfl rfl rfl (S_assign rfl) ?_
          refine VL_nil ?_
          refine VQ_then ?_
          refine V_ret ?_
          refine VQ_fin3 (nb := []) (by first | exact .inl rfl | exact .inr rfl) rfl (RV_tmp rfl) (RV_tmp rfl) (RV_tmp rfl) ?sb ?po
          case po =>
            refine ⟨rfl, ?_⟩
            rw [putT_s]
            simp only [List.getElem?_eq_getElem hit, hq2]
            exact hP2
          case sb => exact (by repeat (first | exact SubB.nil | exact Pick.here | apply Pick.there | apply SubB.emp | apply SubB.cons))
        · skip
          refine VX_pure rfl rfl rfl rfl rfl rfl (S_move rfl) ?_
          refine VX_eff rfl rfl rfl rfl rfl (E_bs1 rfl Try.underlying90 ti83 rfl rfl rfl rfl rfl rfl) ?_
          rintro _ _ _ ⟨b108, hb108, rfl, rfl, rfl⟩
          refine ⟨⟨(by first | exact Sub.refl _ | assumption | exact Sub.trans (by assumption) (by assumption)), (by repeat (first | exact SubB.nil | exact Pick.here | apply Pick.there | apply SubB.emp | apply SubB.cons))⟩, ?_⟩
          refine VX_more ?_
          refine VB_pick1 (j := 9) (p := [2, 3, 4, 5, 6, 9]) (r := [0, 1, 10, 11, 12, 13, 14, 15, 18, 19, 20, 21, 22, 23, 24]) rfl (by kernel_rfl) (by kernel_rfl) (by kernel_rfl) ?_
          refine VX_pure rfl rfl rfl rfl rfl rfl (S_move rfl) ?_
          refine VX_pure rfl rfl rfl rfl rfl rfl (S_nil rfl) ?_
          refine VX_pure rfl rfl rfl rfl rfl rfl (S_field (k := 0) Try.underlying92 rfl rfl ti88 rfl rfl) ?_
          first | refine VX_still rfl rfl rfl rfl rfl rfl (S_load Try.underlying88 rfl rfl (Cell.trk (by repeat (first | exact Has.here | apply Has.there)) rfl)) ?_ | refine VX_still rfl rfl rfl rfl rfl rfl (S_load Try.underlying88 rfl rfl (Cell.known (by first | assumption | exact (by assumption : Sub _ _) _ _ (by assumption) | exact (Sub.trans (by assumption) (by assumption)) _ _ (by assumption)) rfl)) ?_
          refine VX_pure rfl rfl rfl rfl rfl rfl (S_move rfl) ?_
          refine VX_eff rfl rfl rfl rfl rfl (E_call rfl rfl rfl Try.call61 (k_insert _ ks.length (ub ks k) b99 (kcs ks) [.int .u64 s'] hh78 Gk hBk (kcE.flat_one _) rfl rfl hil (by omega)) (by repeat (first | exact Split.nil | exact Pick.here | apply Pick.there | apply Split.cons))) ?_
          rintro _ hh100 _ ⟨v100, nb100, ⟨rfl, G100, hB100, rfl⟩, hs100, rfl, rfl⟩
          replace hB100 := hB100.ins kcE (a := s') hil
          obtain ⟨A100, c100, rfl, _, _⟩ := Buf.form hB100
          refine ⟨⟨(by first | exact Sub.refl _ | assumption | exact Sub.trans (by assumption) (by assumption)), (by repeat (first | exact SubB.nil | exact Pick.here | apply Pick.there | apply SubB.emp | apply SubB.cons))⟩, ?_⟩
          refine VX_more ?_
          refine VB_pick1 (j := 18) (p := [10, 11, 12, 13, 14, 15, 18]) (r := [0, 1, 19, 20, 21, 22, 23, 24]) rfl (by kernel_rfl) (by kernel_rfl) (by kernel_rfl) ?_
          refine VX_pure rfl rfl rfl rfl rfl rfl (S_move rfl) ?_
          refine VX_pure rfl rfl rfl rfl rfl rfl (S_nil rfl) ?_
          refine VX_pure rfl rfl rfl rfl rfl rfl (S_field (k := 2) Try.underlying92 rfl rfl ti90 rfl rfl) ?_
          first | refine VX_still rfl rfl rfl rfl rfl rfl (S_load Try.underlying90 rfl rfl (Cell.trk (by repeat (first | exact Has.here | apply Has.there)) rfl)) ?_ | refine VX_still rfl rfl rfl rfl rfl rfl (S_load Try.underlying90 rfl rfl (Cell.known (by first | assumption | exact (by assumption : Sub _ _) _ _ (by assumption) | exact (Sub.trans (by assumption) (by assumption)) _ _ (by assumption)) rfl)) ?_
          refine VX_pure rfl rfl rfl rfl rfl rfl (S_move rfl) ?_
          refine VX_pure rfl rfl rfl rfl rfl rfl (S_addn (ub ks k) 1 rfl rfl (by omega)) ?_
          refine VX_effT rfl rfl rfl rfl rfl (E_call rfl rfl rfl Try.call64 (n_insert _ (bs.set (ub ks k) b1).length (ub ks k + 1) b108 (pcs (bs.set (ub ks k) b1)) [ptr b2] hh78 [(bc, .cells (List.toArray ((bs.set (ub ks k) b1).flatMap pc ++ spc)) 83 (0, 0))] hBc' (pcE.flat_one _) rfl rfl (by rw [List.length_set]; omega) (by rw [List.length_set]; omega)) (by repeat (first | exact Split.nil | exact Pick.here | apply Pick.there | apply Split.cons))) ?_
          rintro _ hh109 _ ⟨v109, nb109, ⟨rfl, G109, hB109, rfl⟩, hs109, rfl, rfl⟩
          replace hB109 := hB109.ins pcE (a := b2) (by rw [List.length_set]; omega)
          obtain ⟨A109, c109, rfl, _, _⟩ := Buf.form hB109
          refine VX_more ?_
          refine VB_pick1 (j := 21) (p := [0, 19, 20, 21]) (r := [1, 22, 23, 24]) rfl (by kernel_rfl) (by kernel_rfl) (by kernel_rfl) ?_
          refine VX_pure rfl rfl rfl rfl rfl rfl (S_move rfl) ?_
          refine VX_pure rfl rfl rfl rfl rfl rfl (S_nil rfl) ?_
          refine VX_pure rfl rfl rfl rfl rfl rfl (S_field (k := 0) Try.underlying92 rfl rfl ti88 rfl rfl) ?_
          refine VX_effT rfl rfl rfl rfl rfl (E_store ti88 rfl rfl rfl rfl rfl (by repeat (first | exact Has.here | apply Has.there)) (by repeat (first | exact PutR.nil | exact SetL.here | apply SetL.there | apply PutR.cons)) (by repeat (first | exact UpdG.here | apply UpdG.there))) ?_
          rintro _ _ _ ⟨rfl, rfl, rfl⟩
          refine VX_more ?_
          refine VB_pick1 (j := 24) (p := [1, 22, 23, 24]) (r := []) rfl (by kernel_rfl) (by kernel_rfl) (by kernel_rfl) ?_
          refine VX_pure rfl rfl rfl rfl rfl rfl (S_move rfl) ?_
          refine VX_pure rfl rfl rfl rfl rfl rfl (S_nil rfl) ?_
          refine VX_pure rfl rfl rfl rfl rfl rfl (S_field (k := 2) Try.underlying92 rfl rfl ti90 rfl rfl) ?_
          refine VX_effT rfl rfl rfl rfl rfl (E_store ti90 rfl rfl rfl rfl rfl (by repeat (first | exact Has.here | apply Has.there)) (by repeat (first | exact PutR.nil | exact SetL.here | apply SetL.there | apply PutR.cons)) (by repeat (first | exact UpdG.here | apply UpdG.there))) ?_
          rintro _ _ _ ⟨rfl, rfl, rfl⟩
          refine VX_more ?_
          refine VB_end rfl ?_
          refine VX_nil ?_
          refine VQ_then ?_
          refine V_seq ?_
          refine V_region ?_
          refine VL_still rfl rfl rfl (S_move rfl) ?_
          refine VL_keeps (blA := [GN bo (.slice A100 (ks.take (ub ks k) ++ s' :: ks.drop (ub ks k)).length c100) (.slice Av ([] : List Ext).length cvv) (.slice A109 ((bs.set (ub ks k) b1).take (ub ks k + 1) ++ b2 :: (bs.set (ub ks k) b1).drop (ub ks k + 1)).length c109), G100, Gv, G109]) (by repeat (first | exact Split.nil | exact Pick.here | apply Pick.there | apply Split.cons)) (fun h1 sh1 kh1 => ?_)
          obtain ⟨q1, q2, q3, q4, _⟩ := kh1
          have hR : Rp h1 (d + 1) bo (.node (ks.take (ub ks k) ++ s' :: ks.drop (ub ks k)) ((ts.set (ub ks k) (putT d ts[ub ks k] k (s, n)).1).take (ub ks k + 1) ++ m :: (ts.set (ub ks k) (putT d ts[ub ks k] k (s, n)).1).drop (ub ks k + 1))) :=
            ⟨_, NodeAt.own q1 q2 q3 q4 hB100 hBv hB109, ((hA1.take _).app (.cons hR2 (hA1.drop _))).mono fun a b r => Rp.sub sh1 r⟩
          refine VL_eff rfl (E_call rfl rfl rfl Try.call63 (splitT_con (d + 1) bo _ h1 hR (by show (ks.take _ ++ _ :: ks.drop _).length ≤ 1000; simp; omega) (fun d' ks' ts' e1 e2 => by cases e2; simp; omega)) (by repeat (first | exact Split.nil | exact Pick.here | apply Pick.there | apply Split.cons))) ?_
          rintro _ hh115 _ ⟨v115, nb115, ⟨rfl, hP2⟩, hs115, rfl, rfl⟩
          replace hP2 := hP2 hs115
          obtain ⟨b1', s2, o2, rfl, _⟩ := hP2.form
          refine VL_still rfl rfl rfl (S_extract rfl rfl) ?_
          refine VL_still rfl rfl rfl (S_extract rfl rfl) ?_
          refine VL_still rfl rfl rfl (S_extract rfl rfl) ?_
          refine VL_still rfl rfl rfl (S_assign rfl) ?_
          refine VL_still rfl rfl rfl (S_assign rfl) ?_
          refine VL_still rfl rfl rfl (S_assign rfl) ?_
          refine VL_nil ?_
          refine VQ_then ?_
          refine V_ret ?_
          refine VQ_fin3 (nb := []) (by first | exact .inl rfl | exact .inr rfl) rfl (RV_tmp rfl) (RV_tmp rfl) (RV_tmp rfl) ?sb ?po
          case po =>
            refine ⟨rfl, ?_⟩
            rw [putT_s]
            simp only [List.getElem?_eq_getElem hit, hq2]
            exact hP2
          case sb => exact (by repeat (first | exact SubB.nil | exact Pick.here | apply Pick.there | apply SubB.emp | apply SubB.cons))
      · skip
        refine VX_pure rfl rfl rfl rfl rfl rfl (S_move rfl) ?_
        refine VX_eff rfl rfl rfl rfl rfl (E_bs1 rfl Try.underlying90 ti83 rfl rfl rfl rfl rfl rfl) ?_
        rintro _ _ _ ⟨b108, hb108, rfl, rfl, rfl⟩
        refine ⟨⟨(by first | exact Sub.refl _ | assumption | exact Sub.trans (by assumption) (by assumption)), (by repeat (first | exact SubB.nil | exact Pick.here | apply Pick.there | apply SubB.emp | apply SubB.cons))⟩, ?_⟩
        refine VX_more ?_
        refine VB_pick1 (j := 8) (p := [7, 8]) (r := [0, 1, 2, 3, 4, 5, 6, 9, 10, 11, 12, 13, 14, 15, 18, 19, 20, 21, 22, 23, 24]) rfl (by kernel_rfl) (by kernel_rfl) (by kernel_rfl) ?_
        refine VX_pure rfl rfl rfl rfl rfl rfl (S_move rfl) ?_
        refine VX_eff rfl rfl rfl rfl rfl (E_bs1 rfl Try.underlying88 ti23 rfl rfl rfl rfl rfl rfl) ?_
        rintro _ _ _ ⟨b99, hb99, rfl, rfl, rfl⟩
        refine ⟨⟨(by first | exact Sub.refl _ | assumption | exact Sub.trans (by assumption) (by assumption)), (by repeat (first | exact SubB.nil | exact Pick.here | apply Pick.there | apply SubB.emp | apply SubB.cons))⟩, ?_⟩
        refine VX_more ?_
        refine VB_pick1 (j := 9) (p := [2, 3, 4, 5, 6, 9]) (r := [0, 1, 10, 11, 12, 13, 14, 15, 18, 19, 20, 21, 22, 23, 24]) rfl (by kernel_rfl) (by kernel_rfl) (by kernel_rfl) ?_
        refine VX_pure rfl rfl rfl rfl rfl rfl (S_move rfl) ?_
        refine VX_pure rfl rfl rfl rfl rfl rfl (S_nil rfl) ?_
        refine VX_pure rfl rfl rfl rfl rfl rfl (S_field (k := 0) Try.underlying92 rfl rfl ti88 rfl rfl) ?_
        first | refine VX_still rfl rfl rfl rfl rfl rfl (S_load Try.underlying88 rfl rfl (Cell.trk (by repeat (first | exact Has.here | apply Has.there)) rfl)) ?_ | refine VX_still rfl rfl rfl rfl rfl rfl (S_load Try.underlying88 rfl rfl (Cell.known (by first | assumption | exact (by assumption : Sub _ _) _ _ (by assumption) | exact (Sub.trans (by assumption) (by assumption)) _ _ (by assumption)) rfl)) ?_
        refine VX_pure rfl rfl rfl rfl rfl rfl (S_move rfl) ?_
        refine VX_eff rfl rfl rfl rfl rfl (E_call rfl rfl rfl Try.call61 (k_insert _ ks.length (ub ks k) b99 (kcs ks) [.int .u64 s'] hh78 Gk hBk (kcE.flat_one _) rfl rfl hil (by omega)) (by repeat (first | exact Split.nil | exact Pick.here | apply Pick.there | apply Split.cons))) ?_
        rintro _ hh100 _ ⟨v100, nb100, ⟨rfl, G100, hB100, rfl⟩, hs100, rfl, rfl⟩
        replace hB100 := hB100.ins kcE (a := s') hil
        obtain ⟨A100, c100, rfl, _, _⟩ := Buf.form hB100
        refine ⟨⟨(by first | exact Sub.refl _ | assumption | exact Sub.trans (by assumption) (by assumption)), (by repeat (first | exact SubB.nil | exact Pick.here | apply Pick.there | apply SubB.emp | apply SubB.cons))⟩, ?_⟩
        refine VX_more ?_
        refine VB_pick1 (j := 18) (p := [10, 11, 12, 13, 14, 15, 18]) (r := [0, 1, 19, 20, 21, 22, 23, 24]) rfl (by kernel_rfl) (by kernel_rfl) (by kernel_rfl) ?_
        refine VX_pure rfl rfl rfl rfl rfl rfl (S_move rfl) ?_
        refine VX_pure rfl rfl rfl rfl rfl rfl (S_nil rfl) ?_
        refine VX_pure rfl rfl rfl rfl rfl rfl (S_field (k := 2) Try.underlying92 rfl rfl ti90 rfl rfl) ?_
        first | refine VX_still rfl rfl rfl rfl rfl rfl (S_load Try.underlying90 rfl rfl (Cell.trk (by repeat (first | exact Has.here | apply Has.there)) rfl)) ?_ | refine VX_still rfl rfl rfl rfl rfl rfl (S_load Try.underlying90 rfl rfl (Cell.known (by first | assumption | exact (by assumption : Sub _ _) _ _ (by assumption) | exact (Sub.trans (by assumption) (by assumption)) _ _ (by assumption)) rfl)) ?_
        refine VX_pure rfl rfl rfl rfl rfl rfl (S_move rfl) ?_
        refine VX_pure rfl rfl rfl rfl rfl rfl (S_addn (ub ks k) 1 rfl rfl (by omega)) ?_
        refine VX_effT rfl rfl rfl rfl rfl (E_call rfl rfl rfl Try.call64 (n_insert _ (bs.set (ub ks k) b1).length (ub ks k + 1) b108 (pcs (bs.set (ub ks k) b1)) [ptr b2] hh78 [(bc, .cells (List.toArray ((bs.set (ub ks k) b1).flatMap pc ++ spc)) 83 (0, 0))] hBc' (pcE.flat_one _) rfl rfl (by rw [List.length_set]; omega) (by rw [List.length_set]; omega)) (by repeat (first | exact Split.nil | exact Pick.here | apply Pick.there | apply Split.cons))) ?_
        rintro _ hh109 _ ⟨v109, nb109, ⟨rfl, G109, hB109, rfl⟩, hs109, rfl, rfl⟩
        replace hB109 := hB109.ins pcE (a := b2) (by rw [List.length_set]; omega)
        obtain ⟨A109, c109, rfl, _, _⟩ := Buf.form hB109
        refine VX_more ?_
        refine VB_pick1 (j := 21) (p := [0, 19, 20, 21]) (r := [1, 22, 23, 24]) rfl (by kernel_rfl) (by kernel_rfl) (by kernel_rfl) ?_
        refine VX_pure rfl rfl rfl rfl rfl rfl (S_move rfl) ?_
        refine VX_pure rfl rfl rfl rfl rfl rfl (S_nil rfl) ?_
        refine VX_pure rfl rfl rfl rfl rfl rfl (S_field (k := 0) Try.underlying92 rfl rfl ti88 rfl rfl) ?_
        refine VX_effT rfl rfl rfl rfl rfl (E_store ti88 rfl rfl rfl rfl rfl (by repeat (first | exact Has.here | apply Has.there)) (by repeat (first | exact PutR.nil | exact SetL.here | apply SetL.there | apply PutR.cons)) (by repeat (first | exact UpdG.here | apply UpdG.there))) ?_
        rintro _ _ _ ⟨rfl, rfl, rfl⟩
        refine VX_more ?_
        refine VB_pick1 (j := 24) (p := [1, 22, 23, 24]) (r := []) rfl (by kernel_rfl) (by kernel_rfl) (by kernel_rfl) ?_
        refine VX_pure rfl rfl rfl rfl rfl rfl (S_move rfl) ?_
        refine VX_pure rfl rfl rfl rfl rfl rfl (S_nil rfl) ?_
        refine VX_pure rfl rfl rfl rfl rfl rfl (S_field (k := 2) Try.underlying92 rfl rfl ti90 rfl rfl) ?_
        refine VX_effT rfl rfl rfl rfl rfl (E_store ti90 rfl rfl rfl rfl rfl (by repeat (first | exact Has.here | apply Has.there)) (by repeat (first | exact PutR.nil | exact SetL.here | apply SetL.there | apply PutR.cons)) (by repeat (first | exact UpdG.here | apply UpdG.there))) ?_
        rintro _ _ _ ⟨rfl, rfl, rfl⟩
        refine VX_more ?_
        refine VB_end rfl ?_
        refine VX_nil ?_
        refine VQ_then ?_
        refine V_seq ?_
        refine V_region ?_
        refine VL_still rfl rfl rfl (S_move rfl) ?_
        refine VL_keeps (blA := [GN bo (.slice A100 (ks.take (ub ks k) ++ s' :: ks.drop (ub ks k)).length c100) (.slice Av ([] : List Ext).length cvv) (.slice A109 ((bs.set (ub ks k) b1).take (ub ks k + 1) ++ b2 :: (bs.set (ub ks k) b1).drop (ub ks k + 1)).length c109), G100, Gv, G109]) (by repeat (first | exact Split.nil | exact Pick.here | apply Pick.there | apply Split.cons)) (fun h1 sh1 kh1 => ?_)
        obtain ⟨q1, q2, q3, q4, _⟩ := kh1
        have hR : Rp h1 (d + 1) bo (.node (ks.take (ub ks k) ++ s' :: ks.drop (ub ks k)) ((ts.set (ub ks k) (putT d ts[ub ks k] k (s, n)).1).take (ub ks k + 1) ++ m :: (ts.set (ub ks k) (putT d ts[ub ks k] k (s, n)).1).drop (ub ks k + 1))) :=
          ⟨_, NodeAt.own q1 q2 q3 q4 hB100 hBv hB109, ((hA1.take _).app (.cons hR2 (hA1.drop _))).mono fun a b r => Rp.sub sh1 r⟩
        refine VL_eff rfl (E_call rfl rfl rfl Try.call63 (splitT_con (d + 1) bo _ h1 hR (by show (ks.take _ ++ _ :: ks.drop _).length ≤ 1000; simp; omega) (fun d' ks' ts' e1 e2 => by cases e2; simp; omega)) (by repeat (first | exact Split.nil | exact Pick.here | apply Pick.there | apply Split.cons))) ?_
        rintro _ hh115 _ ⟨v115, nb115, ⟨rfl, hP2⟩, hs115, rfl, rfl⟩
        replace hP2 := hP2 hs115
        obtain ⟨b1', s2, o2, rfl, _⟩ := hP2.form
        refine VL_still rfl rfl rfl (S_extract rfl rfl) ?_
        refine VL_still rfl rfl rfl (S_extract rfl rfl) ?_
        refine VL_still rfl rfl rfl (S_extract rfl rfl) ?_
        refine VL_still rfl rfl rfl (S_assign rfl) ?_
        refine VL_still rfl rfl rfl (S_assign rfl) ?_
        refine VL_still rfl rfl rfl (S_assign rfl) ?_
        refine VL_nil ?_
        refine VQ_then ?_
        refine V_ret ?_
        refine VQ_fin3 (nb := []) (by first | exact .inl rfl | exact .inr rfl) rfl (RV_tmp rfl) (RV_tmp rfl) (RV_tmp rfl) ?sb ?po
        case po =>
          refine ⟨rfl, ?_⟩
          rw [putT_s]
          simp only [List.getElem?_eq_getElem hit, hq2]
          exact hP2
        case sb => exact (by repeat (first | exact SubB.nil | exact Pick.here | apply Pick.there | apply SubB.emp | apply SubB.cons))
    · skip
      obtain ⟨rfl, hq2⟩ : o' = none ∧ (putT d ts[ub ks k] k (s, n)).2 = none := by
        rcases ho with ho | ⟨b2, m, rfl, _⟩
        · exact ho
        · simp at hc90
      refine V_skip ?_
      refine VQ_then ?_
      refine V_seq ?_
      refine V_region ?_
      refine VL_still rfl rfl rfl (S_move rfl) ?_
      refine VL_keeps (blA := [GN bo (.slice Ak ks.length ck) (.slice Av ([] : List Ext).length cvv) (.slice (some ⟨bc, 0, none⟩) bs.length capc), Gk, Gv, [(bc, .cells (List.toArray ((bs.set (ub ks k) b1).flatMap pc ++ spc)) 83 (0, 0))]]) (by repeat (first | exact Split.nil | exact Pick.here | apply Pick.there | apply Split.cons)) (fun h1 sh1 kh1 => ?_)
      obtain ⟨q1, q2, q3, q4, _⟩ := kh1
      have hR : Rp h1 (d + 1) bo (.node ks (ts.set (ub ks k) (putT d ts[ub ks k] k (s, n)).1)) :=
        ⟨_, NodeAt.own q1 q2 q3 q4 hBk hBv hBc', hA1.mono fun a b r => Rp.sub sh1 r⟩
      refine VL_eff rfl (E_call rfl rfl rfl Try.call63 (splitT_con (d + 1) bo _ h1 hR (by show ks.length ≤ 1000; omega) (fun d' ks' ts' e1 e2 => by cases e2; simp; omega)) (by repeat (first | exact Split.nil | exact Pick.here | apply Pick.there | apply Split.cons))) ?_
      rintro _ hh115 _ ⟨v115, nb115, ⟨rfl, hP2⟩, hs115, rfl, rfl⟩
      replace hP2 := hP2 hs115
      obtain ⟨b1', s2, o2, rfl, _⟩ := hP2.form
      refine VL_still rfl rfl rfl (S_extract rfl rfl) ?_
      refine VL_still rfl rfl rfl (S_extract rfl rfl) ?_
      refine VL_still rfl rfl rfl (S_extract rfl rfl) ?_
      refine VL_still rfl rfl rfl (S_assign rfl) ?_
      refine VL_still rfl rfl rfl (S_assign rfl) ?_
      refine VL_still rfl rfl rfl (S_assign rfl) ?_
      refine VL_nil ?_
      refine VQ_then ?_
      refine V_ret ?_
      refine VQ_fin3 (nb := []) (by first | exact .inl rfl | exact .inr rfl) rfl (RV_tmp rfl) (RV_tmp rfl) (RV_tmp rfl) ?sb ?po
      case po =>
        refine ⟨rfl, ?_⟩
        rw [putT_s]
        simp only [List.getElem?_eq_getElem hit, hq2]
        exact hP2
      case sb => exact (by repeat (first | exact SubB.nil | exact Pick.here | apply Pick.there | apply SubB.emp | apply SubB.cons))

theorem put_con : ∀ (d b : Nat) (t : Tr) (lo hi k s n : Int) (h : Hp), Rp h d b t → In d lo hi t → Kd d t → nk t ≤ 7 →
    Con Try.prog 43 [ptr b, .int .u64 k, .agg #[.int .i64 s, .int .i64 n]] h [] (fun r h' nb => nb = [] ∧ PutO h' d r (putT d t k (s, n)))
  | 0, b, .leaf l, lo, hi, k, s, n, h, hr, hi', _, hn => put_leaf b l lo hi k s n h hr hi' (by rw [← keysP_len]; exact Nat.le_trans hn (by omega))
  | d + 1, b, .node ks ts, lo, hi, k, s, n, h, ⟨bs, hN, hA⟩, hi', hk, hn => put_node d b ks ts bs lo hi k s n h hN hA hi' hk hn (fun b t lo hi h r i k' n' => put_con d b t lo hi k s n h r i k' n')

end Go.Proofs.Ytdglignjoojimaa

/- The plain law of trees, part 3: shapes; what mending comes to. No program in sight. No conditions. -/
set_option linter.unusedVariables false
set_option linter.unusedSimpArgs false
namespace Go.Proofs.Ytdglignjoojimaa

/-- A leaf has no kids, a node one more than keys. -/
def Sh : Nat → Tr → Prop
  | 0, .leaf _ => True
  | _ + 1, .node ks ts => ts.length = ks.length + 1
  | _, _ => False
theorem In.sh : ∀ {d : Nat} {t : Tr} {lo hi : Int}, In d lo hi t → Sh d t
  | 0, .leaf _, _, _, _ => trivial
  | d + 1, .node ks ts, _, _, h => Ch.len h
theorem Sh.both : ∀ {d : Nat} {a b : Tr} {s : Int}, Sh d a → Sh d b → Sh d (bothT a s b)
  | 0, .leaf _, .leaf _, _, _, _ => trivial
  | d + 1, .node k1 t1, .node k2 t2, s, h1, h2 => by
    have h1 : t1.length = k1.length + 1 := h1
    have h2 : t2.length = k2.length + 1 := h2
    show (t1 ++ t2).length = (k1 ++ s :: k2).length + 1
    simp; omega
theorem cutT_le : ∀ {t : Tr}, nk t ≤ 7 → cutT t = (t, none)
  | .leaf l, h => by
    have h : (keysP l).length ≤ 7 := h
    rw [cutT_0, if_pos (by simpa [keysP] using h)]
  | .node ks ts, h => by
    have h : ks.length ≤ 7 := h
    rw [cutT_s, if_pos h]
theorem cutT_gt : ∀ {t : Tr}, ¬ nk t ≤ 7 → (cutT t).2.isSome = true
  | .leaf l, h => by
    have h : ¬ (keysP l).length ≤ 7 := h
    rw [cutT_0, if_neg (by simpa [keysP] using h)]; rfl
  | .node ks ts, h => by
    have h : ¬ ks.length ≤ 7 := h
    rw [cutT_s, if_neg h]; rfl
theorem mendT_le {ks : List Int} {ts : List Tr} {i : Nat} {a b : Tr} {s : Int} (h1 : ts[i]? = some a) (h2 : ts[i + 1]? = some b) (h3 : ks[i]? = some s) (h : nk (bothT a s b) ≤ 7) :
    mendT ks ts i = (ks.take i ++ ks.drop (i + 1), (ts.take (i + 1) ++ ts.drop (i + 2)).set i (bothT a s b)) := by
  unfold mendT
  simp only [h1, h2, h3, cutT_le h]
theorem mendT_gt {ks : List Int} {ts : List Tr} {i : Nat} {a b l r : Tr} {s s' : Int} (h1 : ts[i]? = some a) (h2 : ts[i + 1]? = some b) (h3 : ks[i]? = some s) (h : cutT (bothT a s b) = (l, some (s', r))) :
    mendT ks ts i = (ks.set i s', (ts.set i l).set (i + 1) r) := by
  unfold mendT
  simp only [h1, h2, h3, h]
theorem keysP_del (l : List Pr) (i j : Nat) : keysP (l.take i ++ l.drop j) = (keysP l).take i ++ (keysP l).drop j := by simp [keysP, List.map_take, List.map_drop]
end Go.Proofs.Ytdglignjoojimaa

/- What mending does. No conditions. -/
set_option linter.unusedVariables false
set_option linter.unusedSimpArgs false
namespace Go.Proofs.Ytdglignjoojimaa

/-- The node itself, of a tree. -/
theorem Rp.node {h : Hp} : ∀ {d b : Nat} {t : Tr}, Rp h d b t → Sh d t → ∃ vs bs, NodeAt h b (keysT t) vs bs ∧ ((d = 0 ∧ bs = [] ∧ vs.length = nk t) ∨ (d ≠ 0 ∧ vs = [] ∧ bs.length = nk t + 1))
  | 0, b, .leaf l, r, _ => ⟨_, _, r, .inl ⟨rfl, rfl, by simp [nk, keysT, keysP]⟩⟩
  | d + 1, b, .node ks ts, ⟨bs, n, a⟩, hs => ⟨_, _, n, .inr ⟨by omega, rfl, by rw [a.len]; exact hs⟩⟩
/-- Two trees of one depth, as a tree put together of their parts. -/
theorem Rp.glue {h : Hp} : ∀ {d b1 b2 : Nat} {t1 t2 : Tr}, Rp h d b1 t1 → Rp h d b2 t2 → Sh d t1 → Sh d t2 → ∃ v1 v2 c1 c2, NodeAt h b1 (keysT t1) v1 c1 ∧ NodeAt h b2 (keysT t2) v2 c2 ∧
    (c1 = [] ↔ d = 0) ∧ v1.length ≤ nk t1 ∧ v2.length ≤ nk t2 ∧ c1.length ≤ nk t1 + 1 ∧ c2.length ≤ nk t2 + 1 ∧
    ∀ (s : Int) (h' : Hp) (b' : Nat), Sub h h' → NodeAt h' b' (if d = 0 then keysT t1 ++ keysT t2 else keysT t1 ++ [s] ++ keysT t2) (v1 ++ v2) (c1 ++ c2) → Rp h' d b' (bothT t1 s t2) ∧ keysT (bothT t1 s t2) = (if d = 0 then keysT t1 ++ keysT t2 else keysT t1 ++ [s] ++ keysT t2)
  | 0, b1, b2, .leaf l1, .leaf l2, r1, r2, _, _ => by
    refine ⟨_, _, _, _, r1, r2, by simp, by simp [nk, keysT, keysP], by simp [nk, keysT, keysP], by simp, by simp, fun s h' b' hs hn => ?_⟩
    have e : keysP (l1 ++ l2) = keysP l1 ++ keysP l2 := by simp [keysP]
    refine ⟨?_, e⟩
    show NodeAt h' b' (keysP (l1 ++ l2)) ((l1 ++ l2).map (fun p => p.2)) []
    rw [e, List.map_append]
    exact hn
  | d + 1, b1, b2, .node k1 t1, .node k2 t2, ⟨c1, n1, a1⟩, ⟨c2, n2, a2⟩, s1, s2 => by
    have s1 : t1.length = k1.length + 1 := s1
    have s2 : t2.length = k2.length + 1 := s2
    have e1 := a1.len
    have e2 := a2.len
    refine ⟨_, _, _, _, n1, n2, ⟨fun e => by subst e; simp at e1; omega, fun e => by omega⟩, by simp, by simp, by show c1.length ≤ k1.length + 1; omega, by show c2.length ≤ k2.length + 1; omega, fun s h' b' hs hn => ?_⟩
    rw [if_neg (by omega)] at hn
    rw [if_neg (by omega)]
    have e : k1 ++ s :: k2 = k1 ++ [s] ++ k2 := by simp
    refine ⟨⟨c1 ++ c2, ?_, (a1.mono fun _ _ r => Rp.sub hs r).app (a2.mono fun _ _ r => Rp.sub hs r)⟩, e⟩
    show NodeAt h' b' (k1 ++ s :: k2) [] (c1 ++ c2)
    rw [e]; exact hn
theorem at_enc {α : Type} {enc : α → List Value} {v : α → Value} (hv : ∀ a, enc a = [v a]) : ∀ {l : List α} {i : Nat} {a : α} {sp : List Value}, l[i]? = some a → (l.flatMap enc ++ sp)[0 + i * 1]? = some (v a)
  | x :: l, 0, a, sp, h => by simp only [List.getElem?_cons_zero, Option.some.injEq] at h; subst h; simp [hv]
  | x :: l, i + 1, a, sp, h => by
    have := at_enc (sp := sp) hv (l := l) (i := i) (a := a) (by simpa using h)
    rw [Nat.zero_add, Nat.mul_one] at this ⊢
    simp only [List.flatMap_cons, hv, List.cons_append, List.nil_append, List.getElem?_cons_succ]; exact this
theorem kat {l : List Int} {i : Nat} {a : Int} {sp : List Value} (h : l[i]? = some a) : (l.flatMap kc ++ sp)[0 + i * 1]? = some (.int .u64 a) := at_enc (v := fun k => .int .u64 k) (fun _ => rfl) h
theorem pat {l : List Nat} {i : Nat} {a : Nat} {sp : List Value} (h : l[i]? = some a) : (l.flatMap pc ++ sp)[0 + i * 1]? = some (ptr a) := at_enc (v := fun b => ptr b) (fun _ => rfl) h
theorem xcs_cat {va vb : List Ext} {v : Value} {G : Gr} {A B : Value} (h : Buf 34 2 v (tot [(A, va.length, xcs va), (B, vb.length, xcs vb)]) (catL [(A, va.length, xcs va), (B, vb.length, xcs vb)]) G) : BV v (va ++ vb) G := by
  have e : tot [(A, va.length, xcs va), (B, vb.length, xcs vb)] = va.length + vb.length := by simp [tot]
  have e2 : catL [(A, va.length, xcs va), (B, vb.length, xcs vb)] = xcs va ++ xcs vb := by simp [catL]
  rw [e, e2] at h
  exact h.cat
theorem pcs_cat {va vb : List Nat} {v : Value} {G : Gr} {A B : Value} (h : Buf 83 1 v (tot [(A, va.length, pcs va), (B, vb.length, pcs vb)]) (catL [(A, va.length, pcs va), (B, vb.length, pcs vb)]) G) : BC v (va ++ vb) G := by
  have e : tot [(A, va.length, pcs va), (B, vb.length, pcs vb)] = va.length + vb.length := by simp [tot]
  have e2 : catL [(A, va.length, pcs va), (B, vb.length, pcs vb)] = pcs va ++ pcs vb := by simp [catL]
  rw [e, e2] at h
  exact h.cat

set_option maxRecDepth 100000 in
theorem mend_con (d bn i ba bb : Nat) (ks : List Int) (ts : List Tr) (bs : List Nat) (ta tb : Tr) (s : Int) (kv vv cv : Value) (Gk Gc : Gr) (h : Hp) (hBk : BK kv ks Gk) (hBc : BC cv bs Gc) (hA : All2 (Rp h d) bs ts) (hS : ∀ x ∈ ts, Sh d x) (hi : i + 1 < bs.length) (hik : i < ks.length) (hn : bs.length ≤ 100) (hnk : ks.length ≤ 100)
    (ht0 : ts[i]? = some ta) (ht1 : ts[i + 1]? = some tb) (hb0 : bs[i]? = some ba) (hb1 : bs[i + 1]? = some bb) (hks : ks[i]? = some s) (hra : Rp h d ba ta) (hrb : Rp h d bb tb) (hna : nk ta ≤ 100) (hnb : nk tb ≤ 100) : Con Try.prog 67 [ptr bn, .int .i64 (i : Nat)] h [GN bn kv vv cv, Gk, Gc] (fun r h' nb => r = .tuple #[] ∧ ∃ kv' cv' Gk' Gc' bs', BK kv' (mendT ks ts i).1 Gk' ∧ BC cv' bs' Gc' ∧ All2 (Rp h' d) bs' (mendT ks ts i).2 ∧ nb = [GN bn kv' vv cv', Gk', Gc']) := by
  obtain ⟨bk, ck, spk, rfl, rfl, l1, l2, hl1, hl2⟩ := Buf.blk hBk (by omega)
  obtain ⟨bc, cc, spc, rfl, rfl, m1, m2, hm1, hm2⟩ := Buf.blk hBc (by omega)
  have hlt0 : i < bs.length := by omega
  have hlt1 : i + 1 < bs.length := by omega
  obtain ⟨v1, v2, c1, c2, hN1, hN2, hc0, w1, w2, w3, w4, hglue⟩ := Rp.glue hra hrb (hS ta (List.mem_of_getElem? ht0)) (hS tb (List.mem_of_getElem? ht1))
  have hN1' := hN1
  obtain ⟨kva, vva, cva, ha, hka, hva, hca⟩ := hN1
  obtain ⟨kvb, vvb, cvb, hb, hkb, hvb, hcb⟩ := hN2
  obtain ⟨A1, cp1, rfl, _, _⟩ := hka.form
  obtain ⟨A2, cp2, rfl, _, _⟩ := hva.form
  obtain ⟨A3, cp3, rfl, _, _⟩ := hca.form
  obtain ⟨A4, cp4, rfl, _, _⟩ := hkb.form
  obtain ⟨A5, cp5, rfl, _, _⟩ := hvb.form
  obtain ⟨A6, cp6, rfl, _, _⟩ := hcb.form
  have n1 : (keysT ta).length = nk ta := rfl
  have n2 : (keysT tb).length = nk tb := rfl
  refine Con_of Try.func67 rfl Try.ntmps67 (Nat.le_of_ble_eq_true rfl) (fun w0 => ?_)
  refine V_seq ?_
  refine V_draw _ _ 0 Try.mixed (by kernel_rfl) (Sub.refl _) (SubB.refl _) ?_
  refine VD_still rfl rfl rfl rfl (S_move rfl) ?_
  refine VD_still rfl rfl rfl rfl (S_nil rfl) ?_
  refine VD_still rfl rfl rfl rfl (S_field (k := 2) Try.underlying92 rfl rfl ti90 rfl rfl) ?_
  first | refine VD_still rfl rfl rfl rfl (S_load Try.underlying90 rfl rfl (Cell.trk (by repeat (first | exact Has.here | apply Has.there)) rfl)) ?_ | refine VD_still rfl rfl rfl rfl (S_load Try.underlying90 rfl rfl (Cell.known (by first | assumption | exact (by assumption : Sub _ _) _ _ (by assumption) | exact (Sub.trans (by assumption) (by assumption)) _ _ (by assumption)) rfl)) ?_
  refine VD_still rfl rfl rfl rfl (S_move rfl) ?_
  refine VD_still rfl rfl rfl rfl (X_at i Try.underlying90 tx83 rfl rfl hlt0) ?_
  refine VD_still rfl rfl rfl rfl (S_load Try.underlying83 rfl rfl (Cell.trk (by repeat (first | exact Has.here | apply Has.there)) (pat hb0))) ?_
  refine VD_still rfl rfl rfl rfl (S_move rfl) ?_
  refine VD_still rfl rfl rfl rfl (S_nil rfl) ?_
  refine VD_still rfl rfl rfl rfl (S_field (k := 2) Try.underlying92 rfl rfl ti90 rfl rfl) ?_
  first | refine VD_still rfl rfl rfl rfl (S_load Try.underlying90 rfl rfl (Cell.trk (by repeat (first | exact Has.here | apply Has.there)) rfl)) ?_ | refine VD_still rfl rfl rfl rfl (S_load Try.underlying90 rfl rfl (Cell.known (by first | assumption | exact (by assumption : Sub _ _) _ _ (by assumption) | exact (Sub.trans (by assumption) (by assumption)) _ _ (by assumption)) rfl)) ?_
  refine VD_still rfl rfl rfl rfl (S_move rfl) ?_
  refine VD_still rfl rfl rfl rfl (S_addn i 1 rfl rfl (by omega)) ?_
  refine VD_still rfl rfl rfl rfl (X_at (i + 1) Try.underlying90 tx83 rfl rfl hlt1) ?_
  refine VD_still rfl rfl rfl rfl (S_load Try.underlying83 rfl rfl (Cell.trk (by repeat (first | exact Has.here | apply Has.there)) (pat hb1))) ?_
  refine VD_still rfl rfl rfl rfl (S_assign rfl) ?_
  refine VD_still rfl rfl rfl rfl (S_assign rfl) ?_
  refine VD_nil ?_
  refine VQ_then ?_
  refine V_seq ?_
  refine V_region ?_
  refine VL_still rfl rfl rfl (S_struct Try.underlying92 to92 tz92 rfl (by repeat (first | exact BuildR.nil | exact PutR.nil | exact SetL.here | apply SetL.there | apply PutR.cons | apply BuildR.cons rfl (by first | exact ti88 | exact ti89 | exact ti90) rfl rfl rfl))) ?_
  refine VL_eff rfl (E_box rfl rfl rfl) ?_
  rintro _ _ _ ⟨b23, hb23, rfl, rfl, rfl⟩
  refine VL_still rfl rfl rfl (S_assign rfl) ?_
  refine VL_nil ?_
  refine VQ_then ?_
  refine V_seq ?_
  refine V_region ?_
  refine VL_still rfl rfl rfl (S_move rfl) ?_
  refine VL_still rfl rfl rfl (S_move rfl) ?_
  refine VL_still rfl rfl rfl (S_nil rfl) ?_
  refine VL_still rfl rfl rfl (S_field (k := 0) Try.underlying92 rfl rfl ti88 rfl rfl) ?_
  first | refine VL_still rfl rfl rfl (S_load Try.underlying88 rfl rfl (Cell.trk (by repeat (first | exact Has.here | apply Has.there)) rfl)) ?_ | refine VL_still rfl rfl rfl (S_load Try.underlying88 rfl rfl (Cell.known (by first | assumption | exact (by assumption : Sub _ _) _ _ (by assumption) | exact (Sub.trans (by assumption) (by assumption)) _ _ (by assumption)) rfl)) ?_
  refine VL_eff rfl (E_call rfl rfl rfl Try.call58 (k_clone0 _ (keysT ta).length (kcs (keysT ta)) h hka (kcE.flat_one _) (by omega)) (by repeat (first | exact Split.nil | exact Pick.here | apply Pick.there | apply Split.cons))) ?_
  rintro _ hh29 _ ⟨v29, nb29, ⟨rfl, G29, hB29, rfl⟩, hs29, rfl, rfl⟩
  obtain ⟨A29, c29, rfl, _, _⟩ := Buf.form hB29
  refine VL_still rfl rfl rfl (S_nil rfl) ?_
  refine VL_still rfl rfl rfl (S_field (k := 0) Try.underlying92 rfl rfl ti88 rfl rfl) ?_
  refine VL_eff rfl (E_store ti88 rfl rfl rfl rfl rfl (by repeat (first | exact Has.here | apply Has.there)) (by repeat (first | exact PutR.nil | exact SetL.here | apply SetL.there | apply PutR.cons)) (by repeat (first | exact UpdG.here | apply UpdG.there))) ?_
  rintro _ _ _ ⟨rfl, rfl, rfl⟩
  refine VL_nil ?_
  refine VQ_then ?_
  refine V_seq_mid (ι := Value × Gr) (fun x => BK x.1 (if d = 0 then keysT ta else keysT ta ++ [s]) x.2) (fun x => [(0, ptr bn), (1, .int .i64 (i : Nat)), (4, ptr ba), (5, ptr bb), (6, ptr b23)]) (fun _ => h) (fun x => [[(b23, .cells (List.toArray [x.1, (.slice none 0 0), (.slice none 0 0)]) 92 (0, 0))], GN bn (.slice (some ⟨bk, 0, none⟩) ks.length ck) vv (.slice (some ⟨bc, 0, none⟩) bs.length cc), [(bk, .cells (List.toArray (ks.flatMap kc ++ spk)) 23 (0, 0))], [(bc, .cells (List.toArray (bs.flatMap pc ++ spc)) 83 (0, 0))], x.2]) ?_ (fun ⟨v5, G5⟩ hB5 => ?_)
  · skip
    refine V_seq ?_
    refine V_region ?_
    refine VL_still rfl rfl rfl (S_move rfl) ?_
    refine VL_eff rfl (E_call rfl rfl rfl Try.call39 (leaf_con ba _ _ _ h hN1') (by repeat (first | exact Split.nil | exact Pick.here | apply Pick.there | apply Split.cons))) ?_
    rintro _ hh33 _ ⟨v33, nb33, ⟨rfl, rfl, rfl⟩, hs33, rfl, rfl⟩
    refine VL_still rfl rfl rfl (S_not rfl) ?_
    refine VL_nil ?_
    refine VQ_then ?_
    refine V_cond rfl (fun hc34 => ?_) (fun hc34 => ?_)
    · skip
      have hd : d ≠ 0 := fun e => by
        rw [hc0.2 e] at hc34
        simp at hc34
      refine V_drawL _ [[(b23, .cells (List.toArray [(.slice A29 (keysT ta).length c29), (.slice none 0 0), (.slice none 0 0)]) 92 (0, 0))], GN bn (.slice (some ⟨bk, 0, none⟩) ks.length ck) vv (.slice (some ⟨bc, 0, none⟩) bs.length cc), [(bk, .cells (List.toArray (ks.flatMap kc ++ spk)) 23 (0, 0))]] 77824 Try.mixed (by kernel_rfl) (by kernel_rfl) (Sub.refl _) (by repeat (first | exact SubB.nil | exact Pick.here | apply Pick.there | apply SubB.emp | apply SubB.cons)) ?_
      refine VD_still rfl rfl rfl rfl (S_move rfl) ?_
      refine VD_still rfl rfl rfl rfl (S_move rfl) ?_
      refine VD_still rfl rfl rfl rfl (S_nil rfl) ?_
      refine VD_still rfl rfl rfl rfl (S_field (k := 0) Try.underlying92 rfl rfl ti88 rfl rfl) ?_
      first | refine VD_still rfl rfl rfl rfl (S_load Try.underlying88 rfl rfl (Cell.trk (by repeat (first | exact Has.here | apply Has.there)) rfl)) ?_ | refine VD_still rfl rfl rfl rfl (S_load Try.underlying88 rfl rfl (Cell.known (by first | assumption | exact (by assumption : Sub _ _) _ _ (by assumption) | exact (Sub.trans (by assumption) (by assumption)) _ _ (by assumption)) rfl)) ?_
      refine VD_still rfl rfl rfl rfl (S_move rfl) ?_
      refine VD_still rfl rfl rfl rfl (S_nil rfl) ?_
      refine VD_still rfl rfl rfl rfl (S_field (k := 0) Try.underlying92 rfl rfl ti88 rfl rfl) ?_
      first | refine VD_still rfl rfl rfl rfl (S_load Try.underlying88 rfl rfl (Cell.trk (by repeat (first | exact Has.here | apply Has.there)) rfl)) ?_ | refine VD_still rfl rfl rfl rfl (S_load Try.underlying88 rfl rfl (Cell.known (by first | assumption | exact (by assumption : Sub _ _) _ _ (by assumption) | exact (Sub.trans (by assumption) (by assumption)) _ _ (by assumption)) rfl)) ?_
      refine VD_still rfl rfl rfl rfl (S_move rfl) ?_
      refine VD_still rfl rfl rfl rfl (X_at i Try.underlying88 tx23 rfl rfl (by omega)) ?_
      refine VD_still rfl rfl rfl rfl (S_load Try.underlying23 rfl rfl (Cell.trk (by repeat (first | exact Has.here | apply Has.there)) (kat hks))) ?_
      refine VD_eff rfl rfl (E_bs1 rfl Try.underlying88 ti23 rfl rfl rfl rfl rfl rfl) ?_
      rintro _ _ _ ⟨b47, hb47, rfl, rfl, rfl⟩
      refine ⟨⟨(by first | exact Sub.refl _ | assumption | exact Sub.trans (by assumption) (by assumption)), (by repeat (first | exact SubB.nil | exact Pick.here | apply Pick.there | apply SubB.emp | apply SubB.cons))⟩, ?_⟩
      refine VD_eff rfl rfl (X_append rfl Try.underlying88 Try.underlying88 rfl tx23 rfl rfl rfl rfl hB29 (by repeat (first | exact Pick.here | apply Pick.there)) (Buf.reads (G := [(b47, .cells (List.toArray [.int .u64 s]) 23 (0, 0))]) (Buf.lit (n := 1) (by rfl) (by omega)) (fun q hq => by simp at hq ⊢; try simp [hq])) rfl (by omega)) ?_
      rintro _ _ _ ⟨v48, G48, hB48, rfl, rfl, rfl⟩
      replace hB48 := Buf.snoc (enc := kc) hB48
      obtain ⟨A48, c48, rfl, _, _⟩ := Buf.form hB48
      refine ⟨⟨(by first | exact Sub.refl _ | assumption | exact Sub.trans (by assumption) (by assumption)), (by repeat (first | exact SubB.nil | exact Pick.here | apply Pick.there | apply SubB.emp | apply SubB.cons))⟩, ?_⟩
      refine VD_still rfl rfl rfl rfl (S_nil rfl) ?_
      refine VD_still rfl rfl rfl rfl (S_field (k := 0) Try.underlying92 rfl rfl ti88 rfl rfl) ?_
      refine VD_last rfl rfl (E_store ti88 rfl rfl rfl rfl rfl (by repeat (first | exact Has.here | apply Has.there)) (by repeat (first | exact PutR.nil | exact SetL.here | apply SetL.there | apply PutR.cons)) (by repeat (first | exact UpdG.here | apply UpdG.there))) ?_
      rintro _ _ _ ⟨rfl, rfl, rfl⟩
      refine VQ_mid (_, G48) ?_ (by repeat (first | exact trivial | refine ⟨rfl, ?_⟩)) rfl (by repeat (first | exact SubB.nil | exact Pick.here | apply Pick.there | apply SubB.emp | apply SubB.cons))
      show BK _ (if d = 0 then keysT ta else keysT ta ++ [s]) _
      rw [if_neg hd]
      exact hB48
    · skip
      have hd : d = 0 := by
        by_cases e : c1 = []
        · exact hc0.1 e
        · simp [e] at hc34
      refine V_skip ?_
      refine VQ_mid (_, G29) ?_ (by repeat (first | exact trivial | refine ⟨rfl, ?_⟩)) rfl (by repeat (first | exact SubB.nil | exact Pick.here | apply Pick.there | apply SubB.emp | apply SubB.cons))
      show BK _ (if d = 0 then keysT ta else keysT ta ++ [s]) _
      rw [if_pos hd]
      exact hB29
  · skip
    simp only at hB5 ⊢
    obtain ⟨A5', c5', rfl, _, _⟩ := Buf.form hB5
    have hK5 : (if d = 0 then keysT ta else keysT ta ++ [s]).length ≤ nk ta + 1 := by split <;> simp [nk]
    refine V_seq ?_
    refine V_drawL _ [[(b23, .cells (List.toArray [(.slice A5' (if d = 0 then keysT ta else keysT ta ++ [s]).length c5'), (.slice none 0 0), (.slice none 0 0)]) 92 (0, 0))]] 4608 Try.mixed (by kernel_rfl) (by kernel_rfl) (Sub.refl _) (by repeat (first | exact SubB.nil | exact Pick.here | apply Pick.there | apply SubB.emp | apply SubB.cons)) ?_
    refine VD_still rfl rfl rfl rfl (S_move rfl) ?_
    refine VD_still rfl rfl rfl rfl (S_move rfl) ?_
    refine VD_still rfl rfl rfl rfl (S_nil rfl) ?_
    refine VD_still rfl rfl rfl rfl (S_field (k := 0) Try.underlying92 rfl rfl ti88 rfl rfl) ?_
    first | refine VD_still rfl rfl rfl rfl (S_load Try.underlying88 rfl rfl (Cell.trk (by repeat (first | exact Has.here | apply Has.there)) rfl)) ?_ | refine VD_still rfl rfl rfl rfl (S_load Try.underlying88 rfl rfl (Cell.known (by first | assumption | exact (by assumption : Sub _ _) _ _ (by assumption) | exact (Sub.trans (by assumption) (by assumption)) _ _ (by assumption)) rfl)) ?_
    refine VD_still rfl rfl rfl rfl (S_move rfl) ?_
    refine VD_still rfl rfl rfl rfl (S_nil rfl) ?_
    refine VD_still rfl rfl rfl rfl (S_field (k := 0) Try.underlying92 rfl rfl ti88 rfl rfl) ?_
    first | refine VD_still rfl rfl rfl rfl (S_load Try.underlying88 rfl rfl (Cell.trk (by repeat (first | exact Has.here | apply Has.there)) rfl)) ?_ | refine VD_still rfl rfl rfl rfl (S_load Try.underlying88 rfl rfl (Cell.known (by first | assumption | exact (by assumption : Sub _ _) _ _ (by assumption) | exact (Sub.trans (by assumption) (by assumption)) _ _ (by assumption)) rfl)) ?_
    refine VD_eff rfl rfl (X_append rfl Try.underlying88 Try.underlying88 rfl tx23 rfl rfl rfl rfl hB5 (by repeat (first | exact Pick.here | apply Pick.there)) (hkb.sub (Sub.refl _)) (kcE.flat_one _) (by omega)) ?_
    rintro _ _ _ ⟨v60, G60, hB60, rfl, rfl, rfl⟩
    replace hB60 := Buf.cat (enc := kc) hB60
    obtain ⟨A60, c60, rfl, _, _⟩ := Buf.form hB60
    refine ⟨⟨(by first | exact Sub.refl _ | assumption | exact Sub.trans (by assumption) (by assumption)), (by repeat (first | exact SubB.nil | exact Pick.here | apply Pick.there | apply SubB.emp | apply SubB.cons))⟩, ?_⟩
    refine VD_still rfl rfl rfl rfl (S_nil rfl) ?_
    refine VD_still rfl rfl rfl rfl (S_field (k := 0) Try.underlying92 rfl rfl ti88 rfl rfl) ?_
    refine VD_last rfl rfl (E_store ti88 rfl rfl rfl rfl rfl (by repeat (first | exact Has.here | apply Has.there)) (by repeat (first | exact PutR.nil | exact SetL.here | apply SetL.there | apply PutR.cons)) (by repeat (first | exact UpdG.here | apply UpdG.there))) ?_
    rintro _ _ _ ⟨rfl, rfl, rfl⟩
    refine VQ_then ?_
    refine V_seq ?_
    refine V_drawL _ [] 9728 Try.mixed (by kernel_rfl) (by kernel_rfl) (Sub.refl _) SubB.nil ?_
    refine VD_still rfl rfl rfl rfl (S_move rfl) ?_
    refine VD_still rfl rfl rfl rfl (S_move rfl) ?_
    refine VD_still rfl rfl rfl rfl (S_nil rfl) ?_
    refine VD_still rfl rfl rfl rfl (S_field (k := 1) Try.underlying92 rfl rfl ti89 rfl rfl) ?_
    first | refine VD_still rfl rfl rfl rfl (S_load Try.underlying89 rfl rfl (Cell.trk (by repeat (first | exact Has.here | apply Has.there)) rfl)) ?_ | refine VD_still rfl rfl rfl rfl (S_load Try.underlying89 rfl rfl (Cell.known (by first | assumption | exact (by assumption : Sub _ _) _ _ (by assumption) | exact (Sub.trans (by assumption) (by assumption)) _ _ (by assumption)) rfl)) ?_
    refine VD_still rfl rfl rfl rfl (S_move rfl) ?_
    refine VD_still rfl rfl rfl rfl (S_nil rfl) ?_
    refine VD_still rfl rfl rfl rfl (S_field (k := 1) Try.underlying92 rfl rfl ti89 rfl rfl) ?_
    first | refine VD_still rfl rfl rfl rfl (S_load Try.underlying89 rfl rfl (Cell.trk (by repeat (first | exact Has.here | apply Has.there)) rfl)) ?_ | refine VD_still rfl rfl rfl rfl (S_load Try.underlying89 rfl rfl (Cell.known (by first | assumption | exact (by assumption : Sub _ _) _ _ (by assumption) | exact (Sub.trans (by assumption) (by assumption)) _ _ (by assumption)) rfl)) ?_
    refine VD_eff rfl rfl (X_bs2 rfl Try.underlying189 tx89 rfl rfl rfl rfl rfl) ?_
    rintro _ _ _ ⟨b72, hb72, rfl, rfl, rfl⟩
    refine ⟨⟨(by first | exact Sub.refl _ | assumption | exact Sub.trans (by assumption) (by assumption)), (by repeat (first | exact SubB.nil | exact Pick.here | apply Pick.there | apply SubB.emp | apply SubB.cons))⟩, ?_⟩
    refine VD_eff rfl rfl (E_call rfl rfl rfl Try.call87 (x_concat b72 [(.slice A2 v1.length cp2, v1.length, xcs v1), (.slice A5 v2.length cp5, v2.length, xcs v2)] h (by simp; exact ⟨hva, hvb⟩) (by simp; exact ⟨xcE.flat_one _, xcE.flat_one _⟩) (by simp [tot]; omega) (by simp)) (by repeat (first | exact Split.nil | exact Pick.here | apply Pick.there | apply Split.cons))) ?_
    rintro _ hh73 _ ⟨v73, nb73, ⟨rfl, G73, hB73, rfl⟩, hs73, rfl, rfl⟩
    replace hB73 := xcs_cat hB73
    obtain ⟨A73, c73, rfl, _, _⟩ := Buf.form hB73
    refine ⟨⟨(by first | exact Sub.refl _ | assumption | exact Sub.trans (by assumption) (by assumption)), (by repeat (first | exact SubB.nil | exact Pick.here | apply Pick.there | apply SubB.emp | apply SubB.cons))⟩, ?_⟩
    refine VD_still rfl rfl rfl rfl (S_nil rfl) ?_
    refine VD_still rfl rfl rfl rfl (S_field (k := 1) Try.underlying92 rfl rfl ti89 rfl rfl) ?_
    refine VD_last rfl rfl (E_store ti89 rfl rfl rfl rfl rfl (by repeat (first | exact Has.here | apply Has.there)) (by repeat (first | exact PutR.nil | exact SetL.here | apply SetL.there | apply PutR.cons)) (by repeat (first | exact UpdG.here | apply UpdG.there))) ?_
    rintro _ _ _ ⟨rfl, rfl, rfl⟩
    refine VQ_then ?_
    refine V_seq ?_
    refine V_drawL _ [] 9728 Try.mixed (by kernel_rfl) (by kernel_rfl) (Sub.refl _) SubB.nil ?_
    refine VD_still rfl rfl rfl rfl (S_move rfl) ?_
    refine VD_still rfl rfl rfl rfl (S_move rfl) ?_
    refine VD_still rfl rfl rfl rfl (S_nil rfl) ?_
    refine VD_still rfl rfl rfl rfl (S_field (k := 2) Try.underlying92 rfl rfl ti90 rfl rfl) ?_
    first | refine VD_still rfl rfl rfl rfl (S_load Try.underlying90 rfl rfl (Cell.trk (by repeat (first | exact Has.here | apply Has.there)) rfl)) ?_ | refine VD_still rfl rfl rfl rfl (S_load Try.underlying90 rfl rfl (Cell.known (by first | assumption | exact (by assumption : Sub _ _) _ _ (by assumption) | exact (Sub.trans (by assumption) (by assumption)) _ _ (by assumption)) rfl)) ?_
    refine VD_still rfl rfl rfl rfl (S_move rfl) ?_
    refine VD_still rfl rfl rfl rfl (S_nil rfl) ?_
    refine VD_still rfl rfl rfl rfl (S_field (k := 2) Try.underlying92 rfl rfl ti90 rfl rfl) ?_
    first | refine VD_still rfl rfl rfl rfl (S_load Try.underlying90 rfl rfl (Cell.trk (by repeat (first | exact Has.here | apply Has.there)) rfl)) ?_ | refine VD_still rfl rfl rfl rfl (S_load Try.underlying90 rfl rfl (Cell.known (by first | assumption | exact (by assumption : Sub _ _) _ _ (by assumption) | exact (Sub.trans (by assumption) (by assumption)) _ _ (by assumption)) rfl)) ?_
    refine VD_eff rfl rfl (X_bs2 rfl Try.underlying191 tx90 rfl rfl rfl rfl rfl) ?_
    rintro _ _ _ ⟨b85, hb85, rfl, rfl, rfl⟩
    refine ⟨⟨(by first | exact Sub.refl _ | assumption | exact Sub.trans (by assumption) (by assumption)), (by repeat (first | exact SubB.nil | exact Pick.here | apply Pick.there | apply SubB.emp | apply SubB.cons))⟩, ?_⟩
    refine VD_eff rfl rfl (E_call rfl rfl rfl Try.call88 (n_concat b85 [(.slice A3 c1.length cp3, c1.length, pcs c1), (.slice A6 c2.length cp6, c2.length, pcs c2)] h (by simp; exact ⟨hca, hcb⟩) (by simp; exact ⟨pcE.flat_one _, pcE.flat_one _⟩) (by simp [tot]; omega) (by simp)) (by repeat (first | exact Split.nil | exact Pick.here | apply Pick.there | apply Split.cons))) ?_
    rintro _ hh86 _ ⟨v86, nb86, ⟨rfl, G86, hB86, rfl⟩, hs86, rfl, rfl⟩
    replace hB86 := pcs_cat hB86
    obtain ⟨A86, c86, rfl, _, _⟩ := Buf.form hB86
    have hKb : (if d = 0 then keysT ta else keysT ta ++ [s]) ++ keysT tb = (if d = 0 then keysT ta ++ keysT tb else keysT ta ++ [s] ++ keysT tb) := by split <;> rfl
    rw [hKb] at hB60 ⊢
    refine ⟨⟨(by first | exact Sub.refl _ | assumption | exact Sub.trans (by assumption) (by assumption)), (by repeat (first | exact SubB.nil | exact Pick.here | apply Pick.there | apply SubB.emp | apply SubB.cons))⟩, ?_⟩
    refine VD_still rfl rfl rfl rfl (S_nil rfl) ?_
    refine VD_still rfl rfl rfl rfl (S_field (k := 2) Try.underlying92 rfl rfl ti90 rfl rfl) ?_
    refine VD_last rfl rfl (E_store ti90 rfl rfl rfl rfl rfl (by repeat (first | exact Has.here | apply Has.there)) (by repeat (first | exact PutR.nil | exact SetL.here | apply SetL.there | apply PutR.cons)) (by repeat (first | exact UpdG.here | apply UpdG.there))) ?_
    rintro _ _ _ ⟨rfl, rfl, rfl⟩
    refine VQ_then ?_
    refine V_seq ?_
    refine V_seq ?_
    refine V_region ?_
    refine VL_still rfl rfl rfl (S_move rfl) ?_
    refine VL_still rfl rfl rfl (S_nil rfl) ?_
    refine VL_still rfl rfl rfl (S_field (k := 0) Try.underlying92 rfl rfl ti88 rfl rfl) ?_
    first | refine VL_still rfl rfl rfl (S_load Try.underlying88 rfl rfl (Cell.trk (by repeat (first | exact Has.here | apply Has.there)) rfl)) ?_ | refine VL_still rfl rfl rfl (S_load Try.underlying88 rfl rfl (Cell.known (by first | assumption | exact (by assumption : Sub _ _) _ _ (by assumption) | exact (Sub.trans (by assumption) (by assumption)) _ _ (by assumption)) rfl)) ?_
    refine VL_still rfl rfl rfl (S_len Try.underlying88 rfl) ?_
    refine VL_still rfl rfl rfl (S_leq rfl rfl) ?_
    refine VL_nil ?_
    refine VQ_then ?_
    refine V_cond rfl (fun hc94 => ?_) (fun hc94 => ?_)
    · skip
      have h7 : (if d = 0 then keysT ta ++ keysT tb else keysT ta ++ [s] ++ keysT tb).length ≤ 7 := by
        have := of_decide_eq_true hc94
        omega
      refine V_seq ?_
      refine V_drawK _ [GN bn (.slice (some ⟨bk, 0, none⟩) ks.length ck) vv (.slice (some ⟨bc, 0, none⟩) bs.length cc)] 19137024 8224 21 Try.mixed (by kernel_rfl) (Sub.refl _) (by repeat (first | exact SubB.nil | exact Pick.here | apply Pick.there | apply SubB.emp | apply SubB.cons)) ?_
      refine VK_pure rfl rfl rfl rfl rfl (S_move rfl) ?_
      refine VK_pure rfl rfl rfl rfl rfl (S_move rfl) ?_
      refine VK_pure rfl rfl rfl rfl rfl (S_move rfl) ?_
      refine VK_pure rfl rfl rfl rfl rfl (S_nil rfl) ?_
      refine VK_pure rfl rfl rfl rfl rfl (S_field (k := 0) Try.underlying92 rfl rfl ti88 rfl rfl) ?_
      first | refine VK_still rfl rfl rfl rfl rfl rfl (S_load Try.underlying88 rfl rfl (Cell.trk (by repeat (first | exact Has.here | apply Has.there)) rfl)) ?_ | refine VK_still rfl rfl rfl rfl rfl rfl (S_load Try.underlying88 rfl rfl (Cell.known (by first | assumption | exact (by assumption : Sub _ _) _ _ (by assumption) | exact (Sub.trans (by assumption) (by assumption)) _ _ (by assumption)) rfl)) ?_
      refine VK_pure rfl rfl rfl rfl rfl (S_move rfl) ?_
      refine VK_pure rfl rfl rfl rfl rfl (S_move rfl) ?_
      refine VK_pure rfl rfl rfl rfl rfl (S_addn i 1 rfl rfl (by omega)) ?_
      refine VK_eff rfl rfl rfl (E_call rfl rfl rfl Try.call65 (k_delete _ ks.length i (i + 1) (kcs ks) h _ hBk (kcE.flat_one _) (by omega) (by omega) (by omega)) (by repeat (first | exact Split.nil | exact Pick.here | apply Pick.there | apply Split.cons))) ?_
      rintro _ hh104 _ ⟨v104, nb104, ⟨rfl, G104, hB104, rfl⟩, hs104, rfl, rfl⟩
      replace hB104 := hB104.del kcE (by omega) (by omega)
      obtain ⟨A104, c104, rfl, _, _⟩ := Buf.form hB104
      refine ⟨⟨(by first | exact Sub.refl _ | assumption | exact Sub.trans (by assumption) (by assumption)), (by repeat (first | exact SubB.nil | exact Pick.here | apply Pick.there | apply SubB.emp | apply SubB.cons))⟩, ?_⟩
      refine VK_pure rfl rfl rfl rfl rfl (S_move rfl) ?_
      refine VK_pure rfl rfl rfl rfl rfl (S_nil rfl) ?_
      refine VK_pure rfl rfl rfl rfl rfl (S_field (k := 2) Try.underlying92 rfl rfl ti90 rfl rfl) ?_
      first | refine VK_still rfl rfl rfl rfl rfl rfl (S_load Try.underlying90 rfl rfl (Cell.trk (by repeat (first | exact Has.here | apply Has.there)) rfl)) ?_ | refine VK_still rfl rfl rfl rfl rfl rfl (S_load Try.underlying90 rfl rfl (Cell.known (by first | assumption | exact (by assumption : Sub _ _) _ _ (by assumption) | exact (Sub.trans (by assumption) (by assumption)) _ _ (by assumption)) rfl)) ?_
      refine VK_pure rfl rfl rfl rfl rfl (S_move rfl) ?_
      refine VK_pure rfl rfl rfl rfl rfl (S_addn i 1 rfl rfl (by omega)) ?_
      refine VK_pure rfl rfl rfl rfl rfl (S_move rfl) ?_
      refine VK_pure rfl rfl rfl rfl rfl (S_addn i 2 rfl rfl (by omega)) ?_
      refine VK_eff rfl rfl rfl (E_call rfl rfl rfl Try.call89 (n_delete _ bs.length (i + 1) (i + 2) (pcs bs) h _ hBc (pcE.flat_one _) (by omega) (by omega) (by omega)) (by repeat (first | exact Split.nil | exact Pick.here | apply Pick.there | apply Split.cons))) ?_
      rintro _ hh113 _ ⟨v113, nb113, ⟨rfl, G113, hB113, rfl⟩, hs113, rfl, rfl⟩
      replace hB113 := hB113.del pcE (by omega) (by omega)
      have hl113 : (bs.take (i + 1) ++ bs.drop (i + 2)).length = bs.length - 1 := by simp; omega
      obtain ⟨bd, cd, spd, rfl, rfl, d1, d2, hd1, hd2⟩ := Buf.blk hB113 (by omega)
      refine ⟨⟨(by first | exact Sub.refl _ | assumption | exact Sub.trans (by assumption) (by assumption)), (by repeat (first | exact SubB.nil | exact Pick.here | apply Pick.there | apply SubB.emp | apply SubB.cons))⟩, ?_⟩
      refine VK_pure rfl rfl rfl rfl rfl (S_nil rfl) ?_
      refine VK_pure rfl rfl rfl rfl rfl (S_field (k := 0) Try.underlying92 rfl rfl ti88 rfl rfl) ?_
      refine VK_effT rfl rfl rfl rfl (E_store ti88 rfl rfl rfl rfl rfl (by repeat (first | exact Has.here | apply Has.there)) (by repeat (first | exact PutR.nil | exact SetL.here | apply SetL.there | apply PutR.cons)) (by repeat (first | exact UpdG.here | apply UpdG.there))) ?_
      rintro _ _ _ ⟨rfl, rfl, rfl⟩
      refine VK_pure rfl rfl rfl rfl rfl (S_nil rfl) ?_
      refine VK_pure rfl rfl rfl rfl rfl (S_field (k := 2) Try.underlying92 rfl rfl ti90 rfl rfl) ?_
      refine VK_effT rfl rfl rfl rfl (E_store ti90 rfl rfl rfl rfl rfl (by repeat (first | exact Has.here | apply Has.there)) (by repeat (first | exact PutR.nil | exact SetL.here | apply SetL.there | apply PutR.cons)) (by repeat (first | exact UpdG.here | apply UpdG.there))) ?_
      rintro _ _ _ ⟨rfl, rfl, rfl⟩
      refine VK_nil ?_
      refine VQ_then ?_
      refine V_seq ?_
      refine V_region ?_
      refine VL_still rfl rfl rfl (S_move rfl) ?_
      refine VL_still rfl rfl rfl (S_nil rfl) ?_
      refine VL_still rfl rfl rfl (S_field (k := 2) Try.underlying92 rfl rfl ti90 rfl rfl) ?_
      first | refine VL_still rfl rfl rfl (S_load Try.underlying90 rfl rfl (Cell.trk (by repeat (first | exact Has.here | apply Has.there)) rfl)) ?_ | refine VL_still rfl rfl rfl (S_load Try.underlying90 rfl rfl (Cell.known (by first | assumption | exact (by assumption : Sub _ _) _ _ (by assumption) | exact (Sub.trans (by assumption) (by assumption)) _ _ (by assumption)) rfl)) ?_
      refine VL_still rfl rfl rfl (S_move rfl) ?_
      refine VL_still rfl rfl rfl (S_move rfl) ?_
      refine VL_still rfl rfl rfl (X_at i Try.underlying90 tx83 rfl rfl (by rw [hl113]; omega)) ?_
      refine VL_eff rfl (E_store ti83 rfl rfl rfl rfl rfl (by repeat (first | exact Has.here | apply Has.there)) (PutR.encd pcE (by rw [hl113]; omega) b23 spd) (by repeat (first | exact UpdG.here | apply UpdG.there))) ?_
      rintro _ _ _ ⟨rfl, rfl, rfl⟩
      refine VL_nil ?_
      refine VQ_then ?_
      refine V_ret ?_
      refine VQ_then_ret ?_
      refine VQ_keeps (blA := [[(b23, .cells (List.toArray [(.slice A60 (if d = 0 then keysT ta ++ keysT tb else keysT ta ++ [s] ++ keysT tb).length c60), (.slice A73 (v1 ++ v2).length c73), (.slice A86 (c1 ++ c2).length c86)]) 92 (0, 0))], G60, G73, G86]) (by repeat (first | exact Split.nil | exact Pick.here | apply Pick.there | apply Split.cons)) (fun h1 sh1 kh1 => ?_)
      obtain ⟨q1, q2, q3, q4, _⟩ := kh1
      obtain ⟨g1, g2⟩ := hglue s h1 b23 sh1 (NodeAt.own q1 q2 q3 q4 hB60 hB73 hB86)
      refine VQ_fin0 (nb := [GN bn (.slice A104 (ks.take i ++ ks.drop (i + 1)).length c104) vv (.slice (some ⟨bd, 0, none⟩) (bs.take (i + 1) ++ bs.drop (i + 2)).length cd), G104, [(bd, .cells (List.toArray (((bs.take (i + 1) ++ bs.drop (i + 2)).set i b23).flatMap pc ++ spd)) 83 (0, 0))]]) (by first | exact .inl rfl | exact .inr rfl) rfl ?sb ?po
      case po =>
        have hm := mendT_le ht0 ht1 hks (by unfold nk; rw [g2]; exact h7)
        rw [hm]
        exact ⟨rfl, _, _, _, _, (bs.take (i + 1) ++ bs.drop (i + 2)).set i b23, hB104, Buf.set pcE i b23 rfl d1 d2 hd2, (((hA.take _).app (hA.drop _)).mono fun _ _ r => Rp.sub sh1 r).set _ g1, rfl⟩
      case sb => exact (by repeat (first | exact SubB.nil | exact Pick.here | apply Pick.there | apply SubB.emp | apply SubB.cons))
    · skip
      have h7 : ¬ (if d = 0 then keysT ta ++ keysT tb else keysT ta ++ [s] ++ keysT tb).length ≤ 7 := by
        have := of_decide_eq_false hc94
        omega
      refine V_skip ?_
      refine VQ_then ?_
      refine V_keeps (blA := [[(b23, .cells (List.toArray [(.slice A60 (if d = 0 then keysT ta ++ keysT tb else keysT ta ++ [s] ++ keysT tb).length c60), (.slice A73 (v1 ++ v2).length c73), (.slice A86 (c1 ++ c2).length c86)]) 92 (0, 0))], G60, G73, G86]) (by repeat (first | exact Split.nil | exact Pick.here | apply Pick.there | apply Split.cons)) (fun h1 sh1 kh1 => ?_)
      obtain ⟨q1, q2, q3, q4, _⟩ := kh1
      obtain ⟨g1, g2⟩ := hglue s h1 b23 sh1 (NodeAt.own q1 q2 q3 q4 hB60 hB73 hB86)
      refine V_drawK _ [GN bn (.slice (some ⟨bk, 0, none⟩) ks.length ck) vv (.slice (some ⟨bc, 0, none⟩) bs.length cc)] 176291840 8456 23 Try.mixed (by kernel_rfl) (Sub.refl _) (by repeat (first | exact SubB.nil | exact Pick.here | apply Pick.there | apply SubB.emp | apply SubB.cons)) ?_
      refine VK_pure rfl rfl rfl rfl rfl (S_move rfl) ?_
      refine VK_pure rfl rfl rfl rfl rfl (S_nil rfl) ?_
      refine VK_pure rfl rfl rfl rfl rfl (S_field (k := 2) Try.underlying92 rfl rfl ti90 rfl rfl) ?_
      first | refine VK_still rfl rfl rfl rfl rfl rfl (S_load Try.underlying90 rfl rfl (Cell.trk (by repeat (first | exact Has.here | apply Has.there)) rfl)) ?_ | refine VK_still rfl rfl rfl rfl rfl rfl (S_load Try.underlying90 rfl rfl (Cell.known (by first | assumption | exact (by assumption : Sub _ _) _ _ (by assumption) | exact (Sub.trans (by assumption) (by assumption)) _ _ (by assumption)) rfl)) ?_
      refine VK_pure rfl rfl rfl rfl rfl (S_move rfl) ?_
      refine VK_pure rfl rfl rfl rfl rfl (S_move rfl) ?_
      refine VK_pure rfl rfl rfl rfl rfl (S_nil rfl) ?_
      refine VK_pure rfl rfl rfl rfl rfl (S_field (k := 0) Try.underlying92 rfl rfl ti88 rfl rfl) ?_
      first | refine VK_still rfl rfl rfl rfl rfl rfl (S_load Try.underlying88 rfl rfl (Cell.trk (by repeat (first | exact Has.here | apply Has.there)) rfl)) ?_ | refine VK_still rfl rfl rfl rfl rfl rfl (S_load Try.underlying88 rfl rfl (Cell.known (by first | assumption | exact (by assumption : Sub _ _) _ _ (by assumption) | exact (Sub.trans (by assumption) (by assumption)) _ _ (by assumption)) rfl)) ?_
      refine VK_pure rfl rfl rfl rfl rfl (S_move rfl) ?_
      refine VK_pure rfl rfl rfl rfl rfl (S_move rfl) ?_
      refine VK_pure rfl rfl rfl rfl rfl (S_nil rfl) ?_
      refine VK_pure rfl rfl rfl rfl rfl (S_field (k := 2) Try.underlying92 rfl rfl ti90 rfl rfl) ?_
      first | refine VK_still rfl rfl rfl rfl rfl rfl (S_load Try.underlying90 rfl rfl (Cell.trk (by repeat (first | exact Has.here | apply Has.there)) rfl)) ?_ | refine VK_still rfl rfl rfl rfl rfl rfl (S_load Try.underlying90 rfl rfl (Cell.known (by first | assumption | exact (by assumption : Sub _ _) _ _ (by assumption) | exact (Sub.trans (by assumption) (by assumption)) _ _ (by assumption)) rfl)) ?_
      refine VK_pure rfl rfl rfl rfl rfl (S_move rfl) ?_
      refine VK_pure rfl rfl rfl rfl rfl (S_addn i 1 rfl rfl (by omega)) ?_
      refine VK_pure rfl rfl rfl rfl rfl (S_move rfl) ?_
      refine VK_eff rfl rfl rfl (E_call rfl rfl rfl Try.call63 (splitT_con d b23 _ h1 g1 (by unfold nk; rw [g2, ← hKb, List.length_append]; omega) (fun d' ks' ts' e1 e2 => by have hsb := Sh.both (s := s) (hS ta (List.mem_of_getElem? ht0)) (hS tb (List.mem_of_getElem? ht1)); rw [e2, e1] at hsb; exact hsb)) (by repeat (first | exact Split.nil | exact Pick.here | apply Pick.there | apply Split.cons))) ?_
      rintro _ hh143 _ ⟨v143, nb143, ⟨rfl, hP⟩, hs143, rfl, rfl⟩
      replace hP := hP hs143
      obtain ⟨b1, s', o', rfl, hR1, ho⟩ := hP.form
      have hsome := cutT_gt (t := bothT ta s tb) (by unfold nk; rw [g2]; exact h7)
      obtain ⟨b2, r, rfl, hq2, hR2⟩ : ∃ b2 r, o' = some ⟨b2, 0, none⟩ ∧ (cutT (bothT ta s tb)).2 = some (s', r) ∧ Rp hh143 d b2 r := by
        rcases ho with ⟨_, e⟩ | ho
        · rw [e] at hsome; cases hsome
        · exact ho
      refine ⟨⟨(by first | exact Sub.refl _ | assumption | exact Sub.trans (by assumption) (by assumption)), (by repeat (first | exact SubB.nil | exact Pick.here | apply Pick.there | apply SubB.emp | apply SubB.cons))⟩, ?_⟩
      refine VK_pure rfl rfl rfl rfl rfl (S_move rfl) ?_
      refine VK_pure rfl rfl rfl rfl rfl (S_extract rfl rfl) ?_
      refine VK_pure rfl rfl rfl rfl rfl (S_extract rfl rfl) ?_
      refine VK_pure rfl rfl rfl rfl rfl (S_extract rfl rfl) ?_
      refine VK_pure rfl rfl rfl rfl rfl (X_at i Try.underlying90 tx83 rfl rfl hlt0) ?_
      refine VK_effT rfl rfl rfl rfl (E_store ti83 rfl rfl rfl rfl rfl (by repeat (first | exact Has.here | apply Has.there)) (PutR.encd pcE hlt0 b1 spc) (by repeat (first | exact UpdG.here | apply UpdG.there))) ?_
      rintro _ _ _ ⟨rfl, rfl, rfl⟩
      refine VK_pure rfl rfl rfl rfl rfl (X_at i Try.underlying88 tx23 rfl rfl (by omega)) ?_
      refine VK_effT rfl rfl rfl rfl (E_store ti23 rfl rfl rfl rfl rfl (by repeat (first | exact Has.here | apply Has.there)) (PutR.encd kcE (by omega) s' spk) (by repeat (first | exact UpdG.here | apply UpdG.there))) ?_
      rintro _ _ _ ⟨rfl, rfl, rfl⟩
      refine VK_pure rfl rfl rfl rfl rfl (X_at (i + 1) Try.underlying90 tx83 rfl rfl hlt1) ?_
      refine VK_effT rfl rfl rfl rfl (E_store ti83 rfl rfl rfl rfl rfl (by repeat (first | exact Has.here | apply Has.there)) (PutR.encd pcE (by rw [List.length_set]; exact hlt1) b2 spc) (by repeat (first | exact UpdG.here | apply UpdG.there))) ?_
      rintro _ _ _ ⟨rfl, rfl, rfl⟩
      refine VK_nil ?_
      refine VQ_fin0 (nb := [GN bn (.slice (some ⟨bk, 0, none⟩) ks.length ck) vv (.slice (some ⟨bc, 0, none⟩) bs.length cc), [(bk, .cells (List.toArray ((ks.set i s').flatMap kc ++ spk)) 23 (0, 0))], [(bc, .cells (List.toArray (((bs.set i b1).set (i + 1) b2).flatMap pc ++ spc)) 83 (0, 0))]]) (by first | exact .inl rfl | exact .inr rfl) rfl ?sb ?po
      case po =>
        have hm := mendT_gt (l := (cutT (bothT ta s tb)).1) (r := r) (s' := s') ht0 ht1 hks (by rw [← hq2])
        rw [hm]
        exact ⟨rfl, _, _, _, _, (bs.set i b1).set (i + 1) b2, Buf.set kcE i s' rfl l1 l2 hl2, (by have := Buf.set (b := bc) (e := 83) (l := bs.set i b1) (sp := spc) pcE (i + 1) b2 (List.length_set) m1 m2 (by rw [List.length_append, pcE.flat_len, List.length_set] ; rw [List.length_append, pcE.flat_len] at hm2; exact hm2); exact this), (((hA.mono fun _ _ r => Rp.sub (Sub.trans sh1 hs143) r).set _ hR1).set _ hR2), rfl⟩
      case sb => exact (by repeat (first | exact SubB.nil | exact Pick.here | apply Pick.there | apply SubB.emp | apply SubB.cons))

end Go.Proofs.Ytdglignjoojimaa

/- The plain law of trees, part 4: what is found; whole trees. No program in sight. No conditions. -/
set_option linter.unusedVariables false
set_option linter.unusedSimpArgs false
namespace Go.Proofs.Ytdglignjoojimaa

def lookP (l : List Pr) (k : Int) : Option (Int × Int) := (l.find? (fun p => decide (p.1 = k))).map (fun p => p.2)
def getT : Nat → Tr → Int → Option (Int × Int)
  | 0, .leaf l, k => if (keysP l)[lb (keysP l) k]? = some k then (l[lb (keysP l) k]?).map (fun p => p.2) else none
  | d + 1, .node ks ts, k => match ts[ub ks k]? with
    | none => none
    | some x => getT d x k
  | _, _, _ => none
theorem getT_0 (l : List Pr) (k : Int) : getT 0 (.leaf l) k = if (keysP l)[lb (keysP l) k]? = some k then (l[lb (keysP l) k]?).map (fun p => p.2) else none := rfl
theorem getT_s (d : Nat) (ks : List Int) (ts : List Tr) (k : Int) : getT (d + 1) (.node ks ts) k = match ts[ub ks k]? with
    | none => none
    | some x => getT d x k := rfl
theorem find_none_left {A B : List Pr} {k : Int} (h : ∀ p ∈ A, p.1 ≠ k) : (A ++ B).find? (fun p => decide (p.1 = k)) = B.find? (fun p => decide (p.1 = k)) := by
  rw [List.find?_append, List.find?_eq_none.2 (fun x hx => by simpa using h x hx)]; rfl
theorem lookP_mid {A B C : List Pr} {k : Int} (hA : ∀ p ∈ A, p.1 ≠ k) (hC : ∀ p ∈ C, p.1 ≠ k) : lookP (A ++ B ++ C) k = lookP B k := by
  unfold lookP
  rw [List.append_assoc, find_none_left hA, List.find?_append, List.find?_eq_none (l := C) |>.2 (fun x hx => by simpa using hC x hx)]
  cases B.find? (fun p => decide (p.1 = k)) <;> rfl
theorem get_ok : ∀ {d : Nat} {t : Tr} {lo hi k : Int}, In d lo hi t → lo ≤ k → k < hi → getT d t k = lookP (flat d t) k
  | 0, .leaf l, lo, hi, k, h, h0, h1 => by
    obtain ⟨c1, c2, c3⟩ := leaf_cut (k := k) h
    rw [getT_0, flat_0]
    by_cases hf : (keysP l)[lb (keysP l) k]? = some k
    · rw [if_pos hf]
      obtain ⟨v, e1, e2⟩ := c2 hf
      have hg : l[lb (keysP l) k]? = some (k, v) := by
        have := congrArg (fun x => x[0]?) e1
        simpa using this
      rw [hg]
      conv => rhs; rw [← List.take_append_drop (lb (keysP l) k) l, e1]
      rw [show l.take (lb (keysP l) k) ++ (k, v) :: l.drop (lb (keysP l) k + 1) = l.take (lb (keysP l) k) ++ [(k, v)] ++ l.drop (lb (keysP l) k + 1) by simp,
        lookP_mid (fun p hp => by have := c1 p hp; omega) (fun p hp => by have := e2 p hp; omega)]
      simp [lookP]
    · rw [if_neg hf]
      have e2 := c3 hf
      symm
      unfold lookP
      rw [List.find?_eq_none.2]
      · rfl
      · intro p hp
        have hp' : p ∈ l.take (lb (keysP l) k) ++ l.drop (lb (keysP l) k) := by rw [List.take_append_drop]; exact hp
        rcases List.mem_append.1 hp' with hp | hp
        · have := c1 p hp; simp; omega
        · have := e2 p hp; simp; omega
  | d + 1, .node ks ts, lo, hi, k, h, h0, h1 => by
    have h : Ch (In d) lo hi ks ts := h
    obtain ⟨A, x, B, lo', hi', e, f⟩ := h.foc (ub_le ks k)
    subst e
    obtain ⟨hA, hB⟩ := f.key k rfl h0 h1
    have hat := f.at_
    have hget : (A ++ x :: B)[ub ks k]? = some x := by rw [List.getElem?_append_right (by omega), hat]; simp
    rw [getT_s, flat_s]
    simp only [hget]
    rw [get_ok f.one hA hB, List.flatMap_append, List.flatMap_cons, ← List.append_assoc]
    symm
    refine lookP_mid (fun p hp => ?_) (fun p hp => ?_)
    · have := flat_side (k := lo') (fun a ha => let ⟨l1, l2, _, q, r⟩ := f.left a ha; ⟨l1, l2, q, r⟩) hp
      omega
    · have := flat_side' (k := hi') (fun a ha => let ⟨l1, l2, q, _, r⟩ := f.right a ha; ⟨l1, l2, q, r⟩) hp
      omega

abbrev top : Int := 18446744073709551616
/-- A whole tree of some pairs. -/
structure TOk (d : Nat) (t : Tr) (l : List Pr) : Prop where
  in_ : In d 0 top t
  kids : Kd d t
  few : nk t ≤ 7
  some_ : d ≠ 0 → 1 ≤ nk t
  flat_ : flat d t = l
theorem TOk.up {d : Nat} {t : Tr} {l : List Pr} (h : TOk d t l) : Up 0 top (keysP l) := by have := h.in_.up; rwa [h.flat_] at this
theorem TOk.new : TOk 0 (.leaf []) [] := ⟨trivial, trivial, by decide, fun h => absurd rfl h, rfl⟩
/-- One tree, or a root over two. -/
def rootT (d : Nat) : Tr × Option (Int × Tr) → Nat × Tr
  | (t, none) => (d, t)
  | (t, some (b, m)) => (d + 1, .node [b] [t, m])
theorem TOk.put {d : Nat} {t : Tr} {l : List Pr} {k : Int} {v : Int × Int} (h : TOk d t l) (h0 : 0 ≤ k) (h1 : k < top) : TOk (rootT d (putT d t k v)).1 (rootT d (putT d t k v)).2 (insP l k v) := by
  have p := put_ok (v := v) h.in_ h.kids h.few h0 h1
  rw [h.flat_] at p
  generalize putT d t k v = q at p
  obtain ⟨t', o⟩ := q
  cases o with
  | none =>
    obtain ⟨p1, p2, p3, p4, p5⟩ := p
    exact ⟨p1, p2, p4, fun hd => Nat.le_trans (h.some_ hd) p3, p5⟩
  | some x =>
    obtain ⟨b, m⟩ := x
    obtain ⟨p1, p2, p3, p4, p5, p6, p7⟩ := p
    refine ⟨⟨t', [m], rfl, p1, p2, p3, m, rfl, p4⟩, fun x hx => ?_, by show [b].length ≤ 7; simp, fun _ => by show 1 ≤ [b].length; simp, ?_⟩
    · rcases List.mem_cons.1 hx with rfl | hx
      · exact p5
      · obtain rfl := List.mem_singleton.1 hx; exact p6
    · show [t', m].flatMap (flat d) = _
      simpa using p7
theorem TOk.del {d : Nat} {t : Tr} {l : List Pr} {k : Int} (h : TOk d t l) (h0 : 0 ≤ k) (h1 : k < top) :
    ((d = 0 ∨ 1 ≤ nk (delT d t k)) ∧ TOk d (delT d t k) (delP l k)) ∨ ∃ d' x, d = d' + 1 ∧ delT d t k = .node [] [x] ∧ TOk d' x (delP l k) := by
  obtain ⟨p1, p2, p3, p4, p5⟩ := del_ok h.in_ h.kids h.few h.some_ h0 h1
  rw [h.flat_] at p5
  by_cases hd : d = 0 ∨ 1 ≤ nk (delT d t k)
  · left
    exact ⟨hd, p1, p2, p3, fun hd' => hd.resolve_left hd', p5⟩
  · right
    simp only [not_or] at hd
    obtain ⟨hd0, hn⟩ := hd
    cases d with
    | zero => exact absurd rfl hd0
    | succ d =>
      generalize delT (d + 1) t k = q at *
      cases q with
      | leaf l => exact absurd p1 (by simp [In])
      | node ks ts =>
        have hks : ks = [] := List.eq_nil_of_length_eq_zero (by have : ¬ 1 ≤ ks.length := hn; omega)
        subst hks
        obtain ⟨x, e, hx⟩ := p1
        subst e
        have hk := p2 x (by simp)
        refine ⟨d, x, rfl, rfl, hx, hk.2.2, hk.2.1, fun _ => by omega, ?_⟩
        have p5 : [x].flatMap (flat d) = delP l k := p5
        simpa using p5

/-! ### How many -/
theorem insP_len {l : List Pr} {k lo hi : Int} {v : Int × Int} (h : Up lo hi (keysP l)) : (insP l k v).length = if (lookP l k).isSome then l.length else l.length + 1 := by
  obtain ⟨c1, c2, c3⟩ := leaf_cut (k := k) h
  by_cases hf : (keysP l)[lb (keysP l) k]? = some k
  · obtain ⟨u, e1, e2⟩ := c2 hf
    have hlt : lb (keysP l) k < l.length := by
      have := (List.getElem?_eq_some_iff.1 hf).1
      simpa [keysP] using this
    have hl : l = l.take (lb (keysP l) k) ++ [(k, u)] ++ l.drop (lb (keysP l) k + 1) := by
      conv => lhs; rw [← List.take_append_drop (lb (keysP l) k) l, e1]
      simp
    have hs : (lookP l k).isSome = true := by
      rw [hl, lookP_mid (fun p hp => by have := c1 p hp; omega) (fun p hp => by have := e2 p hp; omega)]
      simp [lookP]
    rw [if_pos hs]
    conv => lhs; rw [hl]
    rw [insP_mid c1 e2]
    simp [insP]; omega
  · have e2 := c3 hf
    have hl : l = l.take (lb (keysP l) k) ++ [] ++ l.drop (lb (keysP l) k) := by simp
    have hs : (lookP l k).isSome = false := by
      rw [hl, lookP_mid (fun p hp => by have := c1 p hp; omega) (fun p hp => by have := e2 p hp; omega)]
      simp [lookP]
    rw [if_neg (by rw [hs]; simp)]
    conv => lhs; rw [hl]
    rw [insP_mid c1 e2]
    have := lb_le (keysP l) k
    simp [insP, keysP] at this ⊢; omega
theorem delP_no {l : List Pr} {k : Int} (h : (lookP l k).isSome = false) : delP l k = l := by
  unfold delP
  refine filter_all fun p hp => ?_
  unfold lookP at h
  rw [Option.isSome_map] at h
  have h3 : ¬ p.1 = k := fun e => by
    have := List.find?_isSome (p := fun p => decide (p.1 = k)) (xs := l) |>.2 ⟨p, hp, by simpa using e⟩
    rw [h] at this; cases this
  simpa using h3
theorem delP_len {l : List Pr} {k lo hi : Int} (h : Up lo hi (keysP l)) (hs : (lookP l k).isSome = true) : (delP l k).length + 1 = l.length := by
  induction l generalizing lo with
  | nil => simp [lookP] at hs
  | cons p l ih =>
    obtain ⟨a1, a2, a3⟩ : lo ≤ p.1 ∧ p.1 < hi ∧ Up (p.1 + 1) hi (keysP l) := h
    have hlt : ∀ q ∈ l, p.1 < q.1 := fun q hq => by
      have := a3.mem (x := q.1) (List.mem_map.2 ⟨q, hq, rfl⟩); omega
    by_cases hk : p.1 = k
    · have : delP (p :: l) k = l := by
        unfold delP
        rw [List.filter_cons_of_neg (by simpa using hk), filter_all (fun x hx => by have := hlt x hx; simp; omega)]
      rw [this]; simp
    · have e : delP (p :: l) k = p :: delP l k := by unfold delP; rw [List.filter_cons_of_pos (by simpa using hk)]
      have hs' : (lookP l k).isSome = true := by
        unfold lookP at hs ⊢
        rw [List.find?_cons_of_neg (by simpa using hk)] at hs; exact hs
      rw [e]
      simp [ih a3 hs']
end Go.Proofs.Ytdglignjoojimaa

/- What is deleted from a tree. No conditions. -/
set_option linter.unusedVariables false
set_option linter.unusedSimpArgs false
namespace Go.Proofs.Ytdglignjoojimaa

/-- What a deletion hands back. -/
def DelO (h : Hp) (d : Nat) (r : Value) (t : Tr) : Prop := ∃ b, r = ptr b ∧ Rp h d b t
theorem vals_del (l : List Pr) (i j : Nat) : (l.take i ++ l.drop j).map (fun p => p.2) = (l.map (fun p => p.2)).take i ++ (l.map (fun p => p.2)).drop j := by simp [List.map_take, List.map_drop]
theorem max_pred (i : Nat) : (if ((i : Nat) : Int) - 1 < 0 then (0 : Int) else ((i : Nat) : Int) - 1) = ((i - 1 : Nat) : Int) := by split <;> omega
theorem Kd.get {d : Nat} {ts : List Tr} (hK : ∀ x ∈ ts, 3 ≤ nk x ∧ nk x ≤ 7 ∧ Kd d x) {i : Nat} {x : Tr} (h : ts[i]? = some x) : 3 ≤ nk x ∧ nk x ≤ 7 ∧ Kd d x := hK x (List.mem_of_getElem? h)

set_option maxRecDepth 100000 in
theorem del_leaf (b : Nat) (l : List Pr) (lo hi k : Int) (h : Hp) (hN : NodeAt h b (keysP l) (l.map (fun p => p.2)) []) (hu : Up lo hi (keysP l)) (hn : l.length ≤ 900) : Con Try.prog 44 [ptr b, .int .u64 k] h [] (fun r h' nb => nb = [] ∧ DelO h' 0 r (delT 0 (.leaf l) k)) := by
  obtain ⟨kv, vv, cv, hb, hk, hv, hc⟩ := hN
  obtain ⟨A, cap, rfl, hle, hmx⟩ := hk.form
  obtain ⟨A2, cap2, rfl, hlev, hmxv⟩ := hv.form
  obtain ⟨A3, cap3, rfl, hlec, hmxc⟩ := hc.form
  have hkl := keysP_len l
  have hvl : (l.map (fun p => p.2)).length = l.length := List.length_map _
  have hil := lb_le (keysP l) k
  refine Con_of Try.func44 rfl Try.ntmps44 (Nat.le_of_ble_eq_true rfl) (fun w0 => ?_)
  refine V_seq ?_
  refine V_region ?_
  refine VL_still rfl rfl rfl (S_assign rfl) ?_
  refine VL_nil ?_
  refine VQ_then ?_
  refine V_seq ?_
  refine V_region ?_
  refine VL_still rfl rfl rfl (S_move rfl) ?_
  refine VL_eff rfl (E_call rfl rfl rfl Try.call60 (clone_con b (keysP l) (l.map (fun p => p.2)) [] h ⟨_, _, _, hb, hk, hv, hc⟩ (by omega) (by rw [List.length_map]; omega) (by simp)) (by repeat (first | exact Split.nil | exact Pick.here | apply Pick.there | apply Split.cons))) ?_
  rintro _ hh10 _ ⟨v10, nb10, ⟨rfl, bo, kvo, vvo, cvo, Gk, Gv, Gc, rfl, hBk, hBv, hBc, rfl⟩, hs10, rfl, rfl⟩
  obtain ⟨Ak, ck, rfl, _, _⟩ := Buf.form hBk
  obtain ⟨Av, cvv, rfl, _, _⟩ := Buf.form hBv
  obtain ⟨Ac, cc, rfl, _, _⟩ := Buf.form hBc
  refine VL_still rfl rfl rfl (S_assign rfl) ?_
  refine VL_nil ?_
  refine VQ_then ?_
  refine V_seq ?_
  refine V_seq ?_
  refine V_region ?_
  refine VL_still rfl rfl rfl (S_move rfl) ?_
  refine VL_eff rfl (E_call rfl rfl rfl Try.call39 (leaf_con b _ _ _ h ⟨_, _, _, hb, hk, hv, hc⟩) (by repeat (first | exact Split.nil | exact Pick.here | apply Pick.there | apply Split.cons))) ?_
  rintro _ hh12 _ ⟨v12, nb12, ⟨rfl, rfl, rfl⟩, hs12, rfl, rfl⟩
  refine VL_nil ?_
  refine VQ_then ?_
  refine V_cond rfl (fun hc12 => ?_) (fun hc12 => ?_)
  · skip
    refine V_seq ?_
    refine V_seq ?_
    refine V_region ?_
    refine VL_still rfl rfl rfl (S_move rfl) ?_
    refine VL_still rfl rfl rfl (S_nil rfl) ?_
    refine VL_still rfl rfl rfl (S_field (k := 0) Try.underlying92 rfl rfl ti88 rfl rfl) ?_
    first | refine VL_still rfl rfl rfl (S_load Try.underlying88 rfl rfl (Cell.trk (by repeat (first | exact Has.here | apply Has.there)) rfl)) ?_ | refine VL_still rfl rfl rfl (S_load Try.underlying88 rfl rfl (Cell.known (by first | assumption | exact (by assumption : Sub _ _) _ _ (by assumption) | exact (Sub.trans (by assumption) (by assumption)) _ _ (by assumption)) rfl)) ?_
    refine VL_still rfl rfl rfl (S_move rfl) ?_
    refine VL_eff rfl (E_call rfl rfl rfl Try.call41 (bs_con _ (keysP l) k lo hi h hk hu (by omega)) (by repeat (first | exact Split.nil | exact Pick.here | apply Pick.there | apply Split.cons))) ?_
    rintro _ hh19 _ ⟨v19, nb19, ⟨rfl, rfl, rfl⟩, hs19, rfl, rfl⟩
    refine VL_still rfl rfl rfl (S_move rfl) ?_
    refine VL_still rfl rfl rfl (S_extract rfl rfl) ?_
    refine VL_still rfl rfl rfl (S_extract rfl rfl) ?_
    refine VL_still rfl rfl rfl (S_assign rfl) ?_
    refine VL_still rfl rfl rfl (S_assign rfl) ?_
    refine VL_nil ?_
    refine VQ_then ?_
    refine V_seq ?_
    refine V_region ?_
    refine VL_still rfl rfl rfl (S_move rfl) ?_
    refine VL_nil ?_
    refine VQ_then ?_
    refine V_cond rfl (fun hc22 => ?_) (fun hc22 => ?_)
    · skip
      have hf : (keysP l)[lb (keysP l) k]? = some k := of_decide_eq_true hc22
      have hlt : lb (keysP l) k < (keysP l).length := (List.getElem?_eq_some_iff.1 hf).1
      refine V_drawK _ [GN bo (.slice Ak (keysP l).length ck) (.slice Av (l.map (fun p => p.2)).length cvv) (.slice Ac ([] : List Nat).length cc)] 9568768 8224 20 Try.mixed (by kernel_rfl) (Sub.refl _) (by repeat (first | exact SubB.nil | exact Pick.here | apply Pick.there | apply SubB.emp | apply SubB.cons)) ?_
      refine VK_pure rfl rfl rfl rfl rfl (S_move rfl) ?_
      refine VK_pure rfl rfl rfl rfl rfl (S_move rfl) ?_
      refine VK_pure rfl rfl rfl rfl rfl (S_move rfl) ?_
      refine VK_pure rfl rfl rfl rfl rfl (S_nil rfl) ?_
      refine VK_pure rfl rfl rfl rfl rfl (S_field (k := 0) Try.underlying92 rfl rfl ti88 rfl rfl) ?_
      first | refine VK_still rfl rfl rfl rfl rfl rfl (S_load Try.underlying88 rfl rfl (Cell.trk (by repeat (first | exact Has.here | apply Has.there)) rfl)) ?_ | refine VK_still rfl rfl rfl rfl rfl rfl (S_load Try.underlying88 rfl rfl (Cell.known (by first | assumption | exact (by assumption : Sub _ _) _ _ (by assumption) | exact (Sub.trans (by assumption) (by assumption)) _ _ (by assumption)) rfl)) ?_
      refine VK_pure rfl rfl rfl rfl rfl (S_move rfl) ?_
      refine VK_pure rfl rfl rfl rfl rfl (S_move rfl) ?_
      refine VK_pure rfl rfl rfl rfl rfl (S_addn (lb (keysP l) k) 1 rfl rfl (by omega)) ?_
      refine VK_eff rfl rfl rfl (E_call rfl rfl rfl Try.call65 (k_delete _ (keysP l).length (lb (keysP l) k) (lb (keysP l) k + 1) (kcs (keysP l)) h _ hBk (kcE.flat_one _) (by omega) (by omega) (by omega)) (by repeat (first | exact Split.nil | exact Pick.here | apply Pick.there | apply Split.cons))) ?_
      rintro _ hh32 _ ⟨v32, nb32, ⟨rfl, G32, hB32, rfl⟩, hs32, rfl, rfl⟩
      replace hB32 := hB32.del kcE (by omega) (by omega)
      obtain ⟨A32, c32, rfl, _, _⟩ := Buf.form hB32
      refine ⟨⟨(by first | exact Sub.refl _ | assumption | exact Sub.trans (by assumption) (by assumption)), (by repeat (first | exact SubB.nil | exact Pick.here | apply Pick.there | apply SubB.emp | apply SubB.cons))⟩, ?_⟩
      refine VK_pure rfl rfl rfl rfl rfl (S_move rfl) ?_
      refine VK_pure rfl rfl rfl rfl rfl (S_nil rfl) ?_
      refine VK_pure rfl rfl rfl rfl rfl (S_field (k := 1) Try.underlying92 rfl rfl ti89 rfl rfl) ?_
      first | refine VK_still rfl rfl rfl rfl rfl rfl (S_load Try.underlying89 rfl rfl (Cell.trk (by repeat (first | exact Has.here | apply Has.there)) rfl)) ?_ | refine VK_still rfl rfl rfl rfl rfl rfl (S_load Try.underlying89 rfl rfl (Cell.known (by first | assumption | exact (by assumption : Sub _ _) _ _ (by assumption) | exact (Sub.trans (by assumption) (by assumption)) _ _ (by assumption)) rfl)) ?_
      refine VK_pure rfl rfl rfl rfl rfl (S_move rfl) ?_
      refine VK_pure rfl rfl rfl rfl rfl (S_move rfl) ?_
      refine VK_pure rfl rfl rfl rfl rfl (S_addn (lb (keysP l) k) 1 rfl rfl (by omega)) ?_
      refine VK_eff rfl rfl rfl (E_call rfl rfl rfl Try.call66 (x_delete _ (l.map (fun p => p.2)).length (lb (keysP l) k) (lb (keysP l) k + 1) (xcs (l.map (fun p => p.2))) h _ hBv (xcE.flat_one _) (by omega) (by omega) (by omega)) (by repeat (first | exact Split.nil | exact Pick.here | apply Pick.there | apply Split.cons))) ?_
      rintro _ hh40 _ ⟨v40, nb40, ⟨rfl, G40, hB40, rfl⟩, hs40, rfl, rfl⟩
      replace hB40 := hB40.del xcE (by omega) (by omega)
      obtain ⟨A40, c40, rfl, _, _⟩ := Buf.form hB40
      refine ⟨⟨(by first | exact Sub.refl _ | assumption | exact Sub.trans (by assumption) (by assumption)), (by repeat (first | exact SubB.nil | exact Pick.here | apply Pick.there | apply SubB.emp | apply SubB.cons))⟩, ?_⟩
      refine VK_pure rfl rfl rfl rfl rfl (S_nil rfl) ?_
      refine VK_pure rfl rfl rfl rfl rfl (S_field (k := 0) Try.underlying92 rfl rfl ti88 rfl rfl) ?_
      refine VK_effT rfl rfl rfl rfl (E_store ti88 rfl rfl rfl rfl rfl (by repeat (first | exact Has.here | apply Has.there)) (by repeat (first | exact PutR.nil | exact SetL.here | apply SetL.there | apply PutR.cons)) (by repeat (first | exact UpdG.here | apply UpdG.there))) ?_
      rintro _ _ _ ⟨rfl, rfl, rfl⟩
      refine VK_pure rfl rfl rfl rfl rfl (S_nil rfl) ?_
      refine VK_pure rfl rfl rfl rfl rfl (S_field (k := 1) Try.underlying92 rfl rfl ti89 rfl rfl) ?_
      refine VK_effT rfl rfl rfl rfl (E_store ti89 rfl rfl rfl rfl rfl (by repeat (first | exact Has.here | apply Has.there)) (by repeat (first | exact PutR.nil | exact SetL.here | apply SetL.there | apply PutR.cons)) (by repeat (first | exact UpdG.here | apply UpdG.there))) ?_
      rintro _ _ _ ⟨rfl, rfl, rfl⟩
      refine VK_nil ?_
      refine VQ_then ?_
      refine V_seq ?_
      refine V_region ?_
      refine VL_still rfl rfl rfl (S_move rfl) ?_
      refine VL_still rfl rfl rfl (S_assign rfl) ?_
      refine VL_nil ?_
      refine VQ_then ?_
      refine V_ret ?_
      refine VQ_then_ret ?_
      refine VQ_keeps (blA := [GN bo (.slice A32 ((keysP l).take (lb (keysP l) k) ++ (keysP l).drop (lb (keysP l) k + 1)).length c32) (.slice A40 ((l.map (fun p => p.2)).take (lb (keysP l) k) ++ (l.map (fun p => p.2)).drop (lb (keysP l) k + 1)).length c40) (.slice Ac ([] : List Nat).length cc), G32, G40, Gc]) (by repeat (first | exact Split.nil | exact Pick.here | apply Pick.there | apply Split.cons)) (fun h1 sh1 kh1 => ?_)
      obtain ⟨q1, q2, q3, q4, _⟩ := kh1
      refine VQ_fin1 (nb := []) (by first | exact .inl rfl | exact .inr rfl) rfl (RV_tmp rfl) ?sb ?po
      case po =>
        refine ⟨rfl, bo, rfl, ?_⟩
        rw [delT_0, if_pos hf]
        show NodeAt h1 bo (keysP _) (List.map _ _) []
        rw [keysP_del, vals_del]
        exact NodeAt.own q1 q2 q3 q4 hB32 hB40 hBc
      case sb => exact (by repeat (first | exact SubB.nil | exact Pick.here | apply Pick.there | apply SubB.emp | apply SubB.cons))
    · skip
      have hf : (keysP l)[lb (keysP l) k]? ≠ some k := of_decide_eq_false hc22
      refine V_skip ?_
      refine VQ_then ?_
      refine V_seq ?_
      refine V_region ?_
      refine VL_still rfl rfl rfl (S_move rfl) ?_
      refine VL_still rfl rfl rfl (S_assign rfl) ?_
      refine VL_nil ?_
      refine VQ_then ?_
      refine V_ret ?_
      refine VQ_then_ret ?_
      refine VQ_keeps (blA := [GN bo (.slice Ak (keysP l).length ck) (.slice Av (l.map (fun p => p.2)).length cvv) (.slice Ac ([] : List Nat).length cc), Gk, Gv, Gc]) (by repeat (first | exact Split.nil | exact Pick.here | apply Pick.there | apply Split.cons)) (fun h1 sh1 kh1 => ?_)
      obtain ⟨q1, q2, q3, q4, _⟩ := kh1
      refine VQ_fin1 (nb := []) (by first | exact .inl rfl | exact .inr rfl) rfl (RV_tmp rfl) ?sb ?po
      case po =>
        refine ⟨rfl, bo, rfl, ?_⟩
        rw [delT_0, if_neg hf]
        exact NodeAt.own q1 q2 q3 q4 hBk hBv hBc
      case sb => exact (by repeat (first | exact SubB.nil | exact Pick.here | apply Pick.there | apply SubB.emp | apply SubB.cons))
  · skip
    simp at hc12

theorem Ch.at_key {α : Type} {R : Int → Int → α → Prop} {ks : List Int} {ts : List α} {lo hi k : Int} (h : Ch R lo hi ks ts) (hi' : ub ks k < ts.length) (h0 : lo ≤ k) (h1 : k < hi) : ∃ lo' hi', R lo' hi' ts[ub ks k] ∧ lo' ≤ k ∧ k < hi' := by
  obtain ⟨A, t, B, lo', hi'', e, f⟩ := h.foc (i := ub ks k) (ub_le ks k)
  subst e
  have hat := f.at_
  have : (A ++ t :: B)[ub ks k] = t := by rw [List.getElem_append_right (by omega)]; simp [hat]
  have hk := f.key k rfl h0 h1
  refine ⟨lo', hi'', ?_, hk.1, hk.2⟩
  rw [this]; exact f.one

set_option maxRecDepth 100000 in
theorem del_node (d b : Nat) (ks : List Int) (ts : List Tr) (bs : List Nat) (lo hi k : Int) (h : Hp) (hN : NodeAt h b ks [] bs) (hA : All2 (Rp h d) bs ts) (hI : Ch (In d) lo hi ks ts) (hK : ∀ x ∈ ts, 3 ≤ nk x ∧ nk x ≤ 7 ∧ Kd d x) (hn : ks.length ≤ 7) (hn1 : 1 ≤ ks.length) (hlo : lo ≤ k) (hhi : k < hi)
    (ih : ∀ (b : Nat) (t : Tr) (lo hi : Int) (h : Hp), Rp h d b t → In d lo hi t → Kd d t → nk t ≤ 7 → (d ≠ 0 → 1 ≤ nk t) → lo ≤ k → k < hi → Con Try.prog 44 [ptr b, .int .u64 k] h [] (fun r h' nb => nb = [] ∧ DelO h' d r (delT d t k))) : Con Try.prog 44 [ptr b, .int .u64 k] h [] (fun r h' nb => nb = [] ∧ DelO h' (d + 1) r (delT (d + 1) (.node ks ts) k)) := by
  obtain ⟨kv, vv, cv, hb, hk, hv, hc⟩ := hN
  obtain ⟨A, cap, rfl, hle, hmx⟩ := hk.form
  obtain ⟨A2, cap2, rfl, hlev, hmxv⟩ := hv.form
  obtain ⟨A3, cap3, rfl, hlec, hmxc⟩ := hc.form
  have hlen := hI.len
  have hbl := hA.len
  have hil := ub_le ks k
  have hib : ub ks k < bs.length := by omega
  have hit : ub ks k < ts.length := by omega
  have hbs : bs ≠ [] := by intro e; subst e; simp at hib
  obtain ⟨lo', hi', hIx, hkx⟩ := hI.at_key hit hlo hhi
  have hKx := hK ts[ub ks k] (List.getElem_mem hit)
  obtain ⟨bi, hbi, hRi⟩ := hA.get (List.getElem?_eq_getElem hit)
  have hbi' : bs[ub ks k] = bi := by rw [List.getElem?_eq_getElem hib] at hbi; exact Option.some.inj hbi
  obtain ⟨bb, off, cap', e1, hcc⟩ := hc.at_ pcE rfl hib
  cases e1
  rw [hbi'] at hcc
  obtain ⟨x1, x2, x3, x4, x5⟩ := del_ok hIx hKx.2.2 hKx.2.1 (fun _ => by omega) hkx.1 hkx.2
  have hSx := x1.sh
  generalize hdx : delT d ts[ub ks k] k = dx at *
  refine Con_of Try.func44 rfl Try.ntmps44 (Nat.le_of_ble_eq_true rfl) (fun w0 => ?_)
  refine V_seq ?_
  refine V_region ?_
  refine VL_still rfl rfl rfl (S_assign rfl) ?_
  refine VL_nil ?_
  refine VQ_then ?_
  refine V_seq ?_
  refine V_region ?_
  refine VL_still rfl rfl rfl (S_move rfl) ?_
  refine VL_eff rfl (E_call rfl rfl rfl Try.call60 (clone_con b ks [] bs h ⟨_, _, _, hb, hk, hv, hc⟩ (by omega) (by simp) (by omega)) (by repeat (first | exact Split.nil | exact Pick.here | apply Pick.there | apply Split.cons))) ?_
  rintro _ hh10 _ ⟨v10, nb10, ⟨rfl, bo, kvo, vvo, cvo, Gk, Gv, Gc, rfl, hBk, hBv, hBc, rfl⟩, hs10, rfl, rfl⟩
  obtain ⟨Ak, ck, rfl, _, _⟩ := Buf.form hBk
  obtain ⟨Av, cvv, rfl, _, _⟩ := Buf.form hBv
  obtain ⟨bc, capc, spc, rfl, rfl, l1, l2, hl1, hl2⟩ := Buf.blk hBc (by omega)
  refine VL_still rfl rfl rfl (S_assign rfl) ?_
  refine VL_nil ?_
  refine VQ_then ?_
  refine V_seq ?_
  refine V_seq ?_
  refine V_region ?_
  refine VL_still rfl rfl rfl (S_move rfl) ?_
  refine VL_eff rfl (E_call rfl rfl rfl Try.call39 (leaf_con b _ _ _ h ⟨_, _, _, hb, hk, hv, hc⟩) (by repeat (first | exact Split.nil | exact Pick.here | apply Pick.there | apply Split.cons))) ?_
  rintro _ hh12 _ ⟨v12, nb12, ⟨rfl, rfl, rfl⟩, hs12, rfl, rfl⟩
  refine VL_nil ?_
  refine VQ_then ?_
  refine V_cond rfl (fun hc12 => ?_) (fun hc12 => ?_)
  · skip
    exact absurd (of_decide_eq_true hc12) hbs
  · skip
    refine V_skip ?_
    refine VQ_then ?_
    refine V_seq ?_
    refine V_region ?_
    refine VL_still rfl rfl rfl (S_move rfl) ?_
    refine VL_still rfl rfl rfl (S_move rfl) ?_
    refine VL_eff rfl (E_call rfl rfl rfl Try.call40 (way_con b _ _ _ h ⟨_, _, _, hb, hk, hv, hc⟩ k _ _ hI.seps (by omega)) (by repeat (first | exact Split.nil | exact Pick.here | apply Pick.there | apply Split.cons))) ?_
    rintro _ hh48 _ ⟨v48, nb48, ⟨rfl, rfl, rfl⟩, hs48, rfl, rfl⟩
    refine VL_still rfl rfl rfl (S_assign rfl) ?_
    refine VL_nil ?_
    refine VQ_then ?_
    refine V_seq ?_
    refine V_drawL _ [GN bo (.slice Ak ks.length ck) (.slice Av ([] : List Ext).length cvv) (.slice (some ⟨bc, 0, none⟩) bs.length capc)] 40960 Try.mixed (by kernel_rfl) (by kernel_rfl) (Sub.refl _) (by repeat (first | exact SubB.nil | exact Pick.here | apply Pick.there | apply SubB.emp | apply SubB.cons)) ?_
    refine VD_still rfl rfl rfl rfl (S_move rfl) ?_
    refine VD_still rfl rfl rfl rfl (S_nil rfl) ?_
    refine VD_still rfl rfl rfl rfl (S_field (k := 2) Try.underlying92 rfl rfl ti90 rfl rfl) ?_
    first | refine VD_still rfl rfl rfl rfl (S_load Try.underlying90 rfl rfl (Cell.trk (by repeat (first | exact Has.here | apply Has.there)) rfl)) ?_ | refine VD_still rfl rfl rfl rfl (S_load Try.underlying90 rfl rfl (Cell.known (by first | assumption | exact (by assumption : Sub _ _) _ _ (by assumption) | exact (Sub.trans (by assumption) (by assumption)) _ _ (by assumption)) rfl)) ?_
    refine VD_still rfl rfl rfl rfl (S_move rfl) ?_
    refine VD_still rfl rfl rfl rfl (S_move rfl) ?_
    refine VD_still rfl rfl rfl rfl (S_nil rfl) ?_
    refine VD_still rfl rfl rfl rfl (S_field (k := 2) Try.underlying92 rfl rfl ti90 rfl rfl) ?_
    first | refine VD_still rfl rfl rfl rfl (S_load Try.underlying90 rfl rfl (Cell.trk (by repeat (first | exact Has.here | apply Has.there)) rfl)) ?_ | refine VD_still rfl rfl rfl rfl (S_load Try.underlying90 rfl rfl (Cell.known (by first | assumption | exact (by assumption : Sub _ _) _ _ (by assumption) | exact (Sub.trans (by assumption) (by assumption)) _ _ (by assumption)) rfl)) ?_
    refine VD_still rfl rfl rfl rfl (S_move rfl) ?_
    refine VD_still rfl rfl rfl rfl (X_at (ub ks k) Try.underlying90 tx83 rfl rfl hib) ?_
    refine VD_still rfl rfl rfl rfl (S_load Try.underlying83 rfl rfl hcc.1.mem) ?_
    refine VD_still rfl rfl rfl rfl (S_move rfl) ?_
    refine VD_eff rfl rfl (E_call rfl rfl rfl Try.call44 (ih bi _ _ _ h hRi hIx hKx.2.2 hKx.2.1 (fun _ => by omega) hkx.1 hkx.2) (by repeat (first | exact Split.nil | exact Pick.here | apply Pick.there | apply Split.cons))) ?_
    rintro _ hh62 _ ⟨v62, nb62, ⟨rfl, b1, rfl, hR1⟩, hs62, rfl, rfl⟩
    rw [hdx] at hR1
    have hA1 := (hA.mono (fun a b r => Rp.sub hs62 r)).set (ub ks k) hR1
    obtain ⟨vs1, bs1, hN1, _⟩ := Rp.node hR1 hSx
    obtain ⟨kv1, vv1, cv1, hb1, hk1, hv1, hc1⟩ := hN1
    obtain ⟨A7, c7, rfl, _, _⟩ := hk1.form
    refine ⟨⟨(by first | exact Sub.refl _ | assumption | exact Sub.trans (by assumption) (by assumption)), (by repeat (first | exact SubB.nil | exact Pick.here | apply Pick.there | apply SubB.emp | apply SubB.cons))⟩, ?_⟩
    refine VD_still rfl rfl rfl rfl (X_at (ub ks k) Try.underlying90 tx83 rfl rfl hib) ?_
    refine VD_last rfl rfl (E_store ti83 rfl rfl rfl rfl rfl (by repeat (first | exact Has.here | apply Has.there)) (PutR.encd pcE hib b1 spc) (by repeat (first | exact UpdG.here | apply UpdG.there))) ?_
    rintro _ _ _ ⟨rfl, rfl, rfl⟩
    have hBc' : BC (.slice (some ⟨bc, 0, none⟩) bs.length capc) (bs.set (ub ks k) b1) [(bc, .cells (List.toArray ((bs.set (ub ks k) b1).flatMap pc ++ spc)) 83 (0, 0))] := Buf.set pcE _ b1 rfl l1 l2 hl2
    refine VQ_then ?_
    refine V_seq ?_
    refine V_seq ?_
    refine V_region ?_
    refine VL_still rfl rfl rfl (S_move rfl) ?_
    refine VL_still rfl rfl rfl (S_nil rfl) ?_
    refine VL_still rfl rfl rfl (S_field (k := 2) Try.underlying92 rfl rfl ti90 rfl rfl) ?_
    first | refine VL_still rfl rfl rfl (S_load Try.underlying90 rfl rfl (Cell.trk (by repeat (first | exact Has.here | apply Has.there)) rfl)) ?_ | refine VL_still rfl rfl rfl (S_load Try.underlying90 rfl rfl (Cell.known (by first | assumption | exact (by assumption : Sub _ _) _ _ (by assumption) | exact (Sub.trans (by assumption) (by assumption)) _ _ (by assumption)) rfl)) ?_
    refine VL_still rfl rfl rfl (S_move rfl) ?_
    refine VL_still rfl rfl rfl (X_at (ub ks k) Try.underlying90 tx83 rfl rfl hib) ?_
    refine VL_still rfl rfl rfl (S_load Try.underlying83 rfl rfl (Cell.trk (by repeat (first | exact Has.here | apply Has.there)) (pat (List.getElem?_set_self hib)))) ?_
    refine VL_still rfl rfl rfl (S_nil rfl) ?_
    refine VL_still rfl rfl rfl (S_field (k := 0) Try.underlying92 rfl rfl ti88 rfl rfl) ?_
    refine VL_still rfl rfl rfl (S_load Try.underlying88 rfl rfl (Cell.known hb1 rfl)) ?_
    refine VL_still rfl rfl rfl (S_len Try.underlying88 rfl) ?_
    refine VL_still rfl rfl rfl (S_lss rfl rfl) ?_
    refine VL_nil ?_
    refine VQ_then ?_
    refine V_cond rfl (fun hc75 => ?_) (fun hc75 => ?_)
    · skip
      have h3 : nk dx < 3 := by
        have := of_decide_eq_true hc75
        unfold nk
        omega
      have hlt0 : ub ks k - 1 < ks.length := by omega
      have hset : (ts.set (ub ks k) dx).length = ts.length := List.length_set
      obtain ⟨ta, hta⟩ : ∃ x, (ts.set (ub ks k) dx)[ub ks k - 1]? = some x := ⟨_, List.getElem?_eq_getElem (by omega)⟩
      obtain ⟨tb, htb⟩ : ∃ x, (ts.set (ub ks k) dx)[ub ks k - 1 + 1]? = some x := ⟨_, List.getElem?_eq_getElem (by omega)⟩
      obtain ⟨ba, hba, hra⟩ := hA1.get hta
      obtain ⟨bb', hbb, hrb⟩ := hA1.get htb
      obtain ⟨s, hs⟩ : ∃ s, ks[ub ks k - 1]? = some s := ⟨_, List.getElem?_eq_getElem hlt0⟩
      have hS : ∀ x ∈ ts.set (ub ks k) dx, Sh d x := fun x hx => by
        rcases List.mem_or_eq_of_mem_set hx with hx | rfl
        · obtain ⟨j, hj, rfl⟩ := List.getElem_of_mem hx
          obtain ⟨_, _, hj'⟩ := hI.at_ hj
          exact hj'.sh
        · exact hSx
      have hnk : ∀ x ∈ ts.set (ub ks k) dx, nk x ≤ 100 := fun x hx => by
        rcases List.mem_or_eq_of_mem_set hx with hx | rfl
        · have := hK x hx; omega
        · omega
      refine V_region ?_
      refine VL_still rfl rfl rfl (S_move rfl) ?_
      refine VL_still rfl rfl rfl (S_move rfl) ?_
      first | refine VL_still rfl rfl rfl (S_subi rfl rfl (by omega) (by omega)) ?_ | refine VL_still rfl rfl rfl (S_sub rfl rfl) ?_
      refine VL_still rfl rfl rfl (S_max rfl rfl) ?_
      rw [max_pred]
      refine VL_eff rfl (E_call rfl rfl rfl Try.call67 (mend_con d bo (ub ks k - 1) ba bb' ks (ts.set (ub ks k) dx) (bs.set (ub ks k) b1) ta tb s _ _ _ Gk _ hh62 hBk hBc' hA1 hS (by rw [List.length_set]; omega) (by omega) (by rw [List.length_set]; omega) (by omega) hta htb hba hbb hs hra hrb (hnk _ (List.mem_of_getElem? hta)) (hnk _ (List.mem_of_getElem? htb))) (by repeat (first | exact Split.nil | exact Pick.here | apply Pick.there | apply Split.cons))) ?_
      rintro _ hh80 _ ⟨v80, nb80, ⟨rfl, kv2, cv2, Gk2, Gc2, bs2, hBk2, hBc2, hA2, rfl⟩, hs80, rfl, rfl⟩
      refine VL_nil ?_
      refine VQ_then ?_
      refine V_seq ?_
      refine V_region ?_
      refine VL_still rfl rfl rfl (S_move rfl) ?_
      refine VL_still rfl rfl rfl (S_assign rfl) ?_
      refine VL_nil ?_
      refine VQ_then ?_
      refine V_ret ?_
      refine VQ_keeps (blA := [GN bo kv2 (.slice Av ([] : List Ext).length cvv) cv2, Gk2, Gv, Gc2]) (by repeat (first | exact Split.nil | exact Pick.here | apply Pick.there | apply Split.cons)) (fun h1 sh1 kh1 => ?_)
      obtain ⟨q1, q2, q3, q4, _⟩ := kh1
      refine VQ_fin1 (nb := []) (by first | exact .inl rfl | exact .inr rfl) rfl (RV_tmp rfl) ?sb ?po
      case po =>
        refine ⟨rfl, bo, rfl, ?_⟩
        rw [delT_s]
        simp only [List.getElem?_eq_getElem hit, hdx]
        rw [if_pos h3]
        exact ⟨bs2, NodeAt.own q1 q2 q3 q4 hBk2 hBv hBc2, hA2.mono fun _ _ r => Rp.sub sh1 r⟩
      case sb => exact (by repeat (first | exact SubB.nil | exact Pick.here | apply Pick.there | apply SubB.emp | apply SubB.cons))
    · skip
      have h3 : ¬ nk dx < 3 := by
        have := of_decide_eq_false hc75
        unfold nk
        omega
      refine V_skip ?_
      refine VQ_then ?_
      refine V_seq ?_
      refine V_region ?_
      refine VL_still rfl rfl rfl (S_move rfl) ?_
      refine VL_still rfl rfl rfl (S_assign rfl) ?_
      refine VL_nil ?_
      refine VQ_then ?_
      refine V_ret ?_
      refine VQ_keeps (blA := [GN bo (.slice Ak ks.length ck) (.slice Av ([] : List Ext).length cvv) (.slice (some ⟨bc, 0, none⟩) bs.length capc), Gk, Gv, [(bc, .cells (List.toArray ((bs.set (ub ks k) b1).flatMap pc ++ spc)) 83 (0, 0))]]) (by repeat (first | exact Split.nil | exact Pick.here | apply Pick.there | apply Split.cons)) (fun h1 sh1 kh1 => ?_)
      obtain ⟨q1, q2, q3, q4, _⟩ := kh1
      refine VQ_fin1 (nb := []) (by first | exact .inl rfl | exact .inr rfl) rfl (RV_tmp rfl) ?sb ?po
      case po =>
        refine ⟨rfl, bo, rfl, ?_⟩
        rw [delT_s]
        simp only [List.getElem?_eq_getElem hit, hdx]
        rw [if_neg h3]
        exact ⟨_, NodeAt.own q1 q2 q3 q4 hBk hBv hBc', hA1.mono fun _ _ r => Rp.sub sh1 r⟩
      case sb => exact (by repeat (first | exact SubB.nil | exact Pick.here | apply Pick.there | apply SubB.emp | apply SubB.cons))

theorem del_con : ∀ (d b : Nat) (t : Tr) (lo hi k : Int) (h : Hp), Rp h d b t → In d lo hi t → Kd d t → nk t ≤ 7 → (d ≠ 0 → 1 ≤ nk t) → lo ≤ k → k < hi →
    Con Try.prog 44 [ptr b, .int .u64 k] h [] (fun r h' nb => nb = [] ∧ DelO h' d r (delT d t k))
  | 0, b, .leaf l, lo, hi, k, h, hr, hi', _, hn, _, _, _ => del_leaf b l lo hi k h hr hi' (by rw [← keysP_len]; exact Nat.le_trans hn (by omega))
  | d + 1, b, .node ks ts, lo, hi, k, h, ⟨bs, hN, hA⟩, hi', hk, hn, hn1, h0, h1 => del_node d b ks ts bs lo hi k h hN hA hi' hk hn (hn1 (by omega)) h0 h1 (fun b t lo hi h r i k' n' n1 a0 a1 => del_con d b t lo hi k h r i k' n' n1 a0 a1)

end Go.Proofs.Ytdglignjoojimaa

/- A tree's methods. No conditions. -/
set_option linter.unusedVariables false
set_option linter.unusedSimpArgs false
namespace Go.Proofs.Ytdglignjoojimaa

/-- A tree of some pairs, known for good. -/
def TreeAt (h : Hp) (b : Nat) (l : List Pr) : Prop :=
  ∃ d t rb, h b = some (.cells (List.toArray [ptr rb, .int .i64 (l.length : Nat)]) 85 (0, 0)) ∧ Rp h d rb t ∧ TOk d t l
theorem TreeAt.sub {h h' : Hp} {b : Nat} {l : List Pr} (t : TreeAt h b l) (s : Sub h h') : TreeAt h' b l :=
  let ⟨d, t, rb, a, r, o⟩ := t
  ⟨d, t, rb, s _ _ a, Rp.sub s r, o⟩
theorem TreeAt.up {h : Hp} {b : Nat} {l : List Pr} (t : TreeAt h b l) : Up 0 top (keysP l) := let ⟨_, _, _, _, _, o⟩ := t; o.up
abbrev xv (e : Ext) : Value := .agg #[.int .i64 e.1, .int .i64 e.2]
theorem Rp.kids {h : Hp} : ∀ {d b : Nat} {t : Tr}, Rp h d b t → d ≠ 0 → ∃ d' ks ts bs, d = d' + 1 ∧ t = .node ks ts ∧ NodeAt h b ks [] bs ∧ All2 (Rp h d') bs ts
  | 0, _, _, _, hd => absurd rfl hd
  | d + 1, b, .node ks ts, ⟨bs, n, a⟩, _ => ⟨d, ks, ts, bs, rfl, rfl, n, a⟩
theorem Rp.pairs {h : Hp} : ∀ {d b : Nat} {t : Tr}, Rp h d b t → d = 0 → ∃ l, t = .leaf l ∧ NodeAt h b (keysP l) (l.map (fun p => p.2)) []
  | 0, b, .leaf l, r, _ => ⟨l, rfl, r⟩

set_option maxRecDepth 100000 in
theorem len_con (b : Nat) (l : List Pr) (h : Hp) (hT : TreeAt h b l) : Con Try.prog 13 [ptr b] h [] (fun r h' nb => r = .int .i64 (l.length : Nat) ∧ h = h' ∧ nb = []) := by
  obtain ⟨d, t, rb, hb, hR, hO⟩ := hT
  refine Con_of Try.func13 rfl Try.ntmps13 (Nat.le_of_ble_eq_true rfl) (fun w0 => ?_)
  refine V_seq ?_
  refine V_region ?_
  refine VL_still rfl rfl rfl (S_assign rfl) ?_
  refine VL_nil ?_
  refine VQ_then ?_
  refine V_seq ?_
  refine V_region ?_
  refine VL_still rfl rfl rfl (S_move rfl) ?_
  refine VL_still rfl rfl rfl (S_nil rfl) ?_
  refine VL_still rfl rfl rfl (S_field (k := 1) Try.underlying85 rfl rfl ti3 rfl rfl) ?_
  first | refine VL_still rfl rfl rfl (S_load Try.underlying3 rfl rfl (Cell.trk (by repeat (first | exact Has.here | apply Has.there)) rfl)) ?_ | refine VL_still rfl rfl rfl (S_load Try.underlying3 rfl rfl (Cell.known (by first | assumption | exact (by assumption : Sub _ _) _ _ (by assumption) | exact (Sub.trans (by assumption) (by assumption)) _ _ (by assumption)) rfl)) ?_
  refine VL_still rfl rfl rfl (S_assign rfl) ?_
  refine VL_nil ?_
  refine VQ_then ?_
  refine V_ret ?_
  refine VQ_fin1 (nb := []) (by first | exact .inl rfl | exact .inr rfl) rfl (RV_tmp rfl) ?sb ?po
  case po =>
    exact ⟨rfl, rfl, rfl⟩
  case sb => exact (by repeat (first | exact SubB.nil | exact Pick.here | apply Pick.there | apply SubB.emp | apply SubB.cons))

set_option maxRecDepth 100000 in
theorem new_con (h : Hp) : Con Try.prog 36 [] h [] (fun r h' nb => nb = [] ∧ ∃ b, r = ptr b ∧ TreeAt h' b []) := by
  refine Con_of Try.func36 rfl Try.ntmps36 (Nat.le_of_ble_eq_true rfl) (fun w0 => ?_)
  refine V_seq ?_
  refine V_region ?_
  refine VL_still rfl rfl rfl (S_assign rfl) ?_
  refine VL_nil ?_
  refine VQ_then ?_
  refine V_seq ?_
  refine V_region ?_
  refine VL_still rfl rfl rfl (S_struct Try.underlying92 to92 tz92 rfl (by repeat (first | exact BuildR.nil | exact PutR.nil | exact SetL.here | apply SetL.there | apply PutR.cons | apply BuildR.cons rfl (by first | exact ti88 | exact ti89 | exact ti90) rfl rfl rfl))) ?_
  refine VL_eff rfl (E_box rfl rfl rfl) ?_
  rintro _ _ _ ⟨b2, hb2, rfl, rfl, rfl⟩
  refine VL_still rfl rfl rfl (S_struct Try.underlying85 to85 tz85 rfl (by repeat (first | exact BuildR.nil | exact PutR.nil | exact SetL.here | apply SetL.there | apply PutR.cons | apply BuildR.cons rfl (by first | exact ti3 | exact ti83) rfl rfl rfl))) ?_
  refine VL_eff rfl (E_box rfl rfl rfl) ?_
  rintro _ _ _ ⟨b4, hb4, rfl, rfl, rfl⟩
  refine VL_still rfl rfl rfl (S_assign rfl) ?_
  refine VL_nil ?_
  refine VQ_then ?_
  refine V_ret ?_
  refine VQ_keeps (blA := [GN b2 (.slice none 0 0) (.slice none 0 0) (.slice none 0 0), [(b4, .cells (List.toArray [ptr b2, .int .i64 0]) 85 (0, 0))]]) (by repeat (first | exact Split.nil | exact Pick.here | apply Pick.there | apply Split.cons)) (fun h1 sh1 kh1 => ?_)
  obtain ⟨q1, q2, _⟩ := kh1
  refine VQ_fin1 (nb := []) (by first | exact .inl rfl | exact .inr rfl) rfl (RV_tmp rfl) ?sb ?po
  case po =>
    exact ⟨rfl, b4, rfl, 0, .leaf [], b2, q2 (b4, .cells (List.toArray [ptr b2, .int .i64 0]) 85 (0, 0)) (by simp), NodeAt.own (Gk := []) (Gv := []) (Gc := []) q1 (fun q hq => by simp at hq) (fun q hq => by simp at hq) (fun q hq => by simp at hq) (Buf.nil _ _) (Buf.nil _ _) (Buf.nil _ _), TOk.new⟩
  case sb => exact (by repeat (first | exact SubB.nil | exact Pick.here | apply Pick.there | apply SubB.emp | apply SubB.cons))

set_option maxRecDepth 100000 in
theorem get_con (b : Nat) (l : List Pr) (h : Hp) (hT : TreeAt h b l) (k : Int) (h0 : 0 ≤ k) (h1 : k < top) : Con Try.prog 17 [ptr b, .int .u64 k] h [] (fun r h' nb => r = .tuple #[xv ((lookP l k).getD (0, 0)), .bool (lookP l k).isSome] ∧ h = h' ∧ nb = []) := by
  obtain ⟨d, t, rb, hb, hR, hO⟩ := hT
  refine Con_of Try.func17 rfl Try.ntmps17 (Nat.le_of_ble_eq_true rfl) (fun w0 => ?_)
  refine V_seq ?_
  refine V_region ?_
  refine VL_eff rfl (E_alloc rfl tz34) ?_
  rintro _ _ _ ⟨b4, hb4, rfl, rfl, rfl⟩
  refine VL_still rfl rfl rfl (S_assign rfl) ?_
  refine VL_nil ?_
  refine VQ_then ?_
  refine V_seq ?_
  refine V_region ?_
  refine VL_still rfl rfl rfl (S_move rfl) ?_
  refine VL_still rfl rfl rfl (S_nil rfl) ?_
  refine VL_still rfl rfl rfl (S_field (k := 0) Try.underlying85 rfl rfl ti83 rfl rfl) ?_
  first | refine VL_still rfl rfl rfl (S_load Try.underlying83 rfl rfl (Cell.trk (by repeat (first | exact Has.here | apply Has.there)) rfl)) ?_ | refine VL_still rfl rfl rfl (S_load Try.underlying83 rfl rfl (Cell.known (by first | assumption | exact (by assumption : Sub _ _) _ _ (by assumption) | exact (Sub.trans (by assumption) (by assumption)) _ _ (by assumption)) rfl)) ?_
  refine VL_still rfl rfl rfl (S_assign rfl) ?_
  refine VL_nil ?_
  refine VQ_then ?_
  refine V_seq ?_
  refine V_block ?_
  refine V_loop (ι := Nat × Nat × Tr × Int × Int) (fun x => x.1) (fun (d', b', t', lo', hi') => Rp h d' b' t' ∧ In d' lo' hi' t' ∧ lo' ≤ k ∧ k < hi' ∧ getT d' t' k = getT d t k ∧ Kd d' t' ∧ nk t' ≤ 7) (fun (d', b', t', lo', hi') => [(0, ptr b), (1, .int .u64 k), (4, ptr b4), (6, ptr b')]) (fun _ => h) (fun _ => [[(b4, .cells (List.toArray [.int .i64 0, .int .i64 0]) 34 (0, 0))]]) (d, rb, t, 0, top) ⟨hR, hO.in_, h0, h1, rfl, hO.kids, hO.few⟩ (by repeat (first | exact trivial | refine ⟨rfl, ?_⟩)) rfl (by repeat (first | exact SubB.nil | exact Pick.here | apply Pick.there | apply SubB.emp | apply SubB.cons)) (fun ⟨d', b', t', lo', hi'⟩ hi => ?_)
  obtain ⟨hR', hI', k0, k1, hg, hK', hn'⟩ := hi
  simp only at hR' hI' k0 k1 hg hK' hn' ⊢
  obtain ⟨vs', bs', hN', hcase⟩ := Rp.node hR' hI'.sh
  refine V_seq ?_
  refine V_seq ?_
  refine V_region ?_
  refine VL_still rfl rfl rfl (S_move rfl) ?_
  refine VL_eff rfl (E_call rfl rfl rfl Try.call39 (leaf_con b' _ _ _ h hN') (by repeat (first | exact Split.nil | exact Pick.here | apply Pick.there | apply Split.cons))) ?_
  rintro _ hh14 _ ⟨v14, nb14, ⟨rfl, rfl, rfl⟩, hs14, rfl, rfl⟩
  refine VL_still rfl rfl rfl (S_not rfl) ?_
  refine VL_nil ?_
  refine VQ_then ?_
  refine V_cond rfl (fun hc15 => ?_) (fun hc15 => ?_)
  · skip
    have hd : d' ≠ 0 := by
      rcases hcase with ⟨_, e, _⟩ | ⟨e, _⟩
      · simp [e] at hc15
      · exact e
    obtain ⟨d2, ks, ts, bs, rfl, rfl, hN2, hA2⟩ := hR'.kids hd
    have hI2 : Ch (In d2) lo' hi' ks ts := hI'
    have hlen := hI2.len
    have hbl := hA2.len
    have hil := ub_le ks k
    have hib : ub ks k < bs.length := by omega
    have hit : ub ks k < ts.length := by omega
    obtain ⟨lo2, hi2, hIx, hkx⟩ := hI2.at_key hit k0 k1
    obtain ⟨bi, hbi, hRi⟩ := hA2.get (List.getElem?_eq_getElem hit)
    have hbi' : bs[ub ks k] = bi := by rw [List.getElem?_eq_getElem hib] at hbi; exact Option.some.inj hbi
    obtain ⟨kv2, vv2, cv2, hb2, hk2, hv2, hc2⟩ := hN2
    obtain ⟨bb, off, cap', e1, hcc⟩ := hc2.at_ pcE rfl hib
    cases e1
    rw [hbi'] at hcc
    have hn2 : ks.length ≤ 7 := hn'
    have hKx := hK' ts[ub ks k] (List.getElem_mem hit)
    refine V_skip ?_
    refine VQ_then ?_
    refine V_block ?_
    refine V_draw _ [] 64 Try.mixed (by kernel_rfl) (Sub.refl _) SubB.nil ?_
    refine VD_still rfl rfl rfl rfl (S_move rfl) ?_
    refine VD_still rfl rfl rfl rfl (S_nil rfl) ?_
    refine VD_still rfl rfl rfl rfl (S_field (k := 2) Try.underlying92 rfl rfl ti90 rfl rfl) ?_
    refine VD_still rfl rfl rfl rfl (S_load Try.underlying90 rfl rfl (Cell.known hb2 rfl)) ?_
    refine VD_still rfl rfl rfl rfl (S_move rfl) ?_
    refine VD_still rfl rfl rfl rfl (S_move rfl) ?_
    refine VD_eff rfl rfl (E_call rfl rfl rfl Try.call40 (way_con b' _ _ _ h ⟨_, _, _, hb2, hk2, hv2, hc2⟩ k _ _ hI2.seps (by omega)) (by repeat (first | exact Split.nil | exact Pick.here | apply Pick.there | apply Split.cons))) ?_
    rintro _ hh22 _ ⟨v22, nb22, ⟨rfl, rfl, rfl⟩, hs22, rfl, rfl⟩
    refine ⟨⟨(by first | exact Sub.refl _ | assumption | exact Sub.trans (by assumption) (by assumption)), (by repeat (first | exact SubB.nil | exact Pick.here | apply Pick.there | apply SubB.emp | apply SubB.cons))⟩, ?_⟩
    refine VD_still rfl rfl rfl rfl (X_at (ub ks k) Try.underlying90 tx83 rfl rfl hib) ?_
    refine VD_still rfl rfl rfl rfl (S_load Try.underlying83 rfl rfl hcc.1.mem) ?_
    refine VD_still rfl rfl rfl rfl (S_assign rfl) ?_
    refine VD_nil ?_
    refine VQ_block_normal ?_
    refine VQ_mid (d2, bi, ts[ub ks k], lo2, hi2) ⟨⟨hRi, hIx, hkx.1, hkx.2, ?_, hKx.2.2, hKx.2.1⟩, by simp only; omega⟩ (by repeat (first | exact trivial | refine ⟨rfl, ?_⟩)) rfl (by repeat (first | exact SubB.nil | exact Pick.here | apply Pick.there | apply SubB.emp | apply SubB.cons))
    rw [← hg, getT_s, List.getElem?_eq_getElem hit]
  · skip
    have hd : d' = 0 := by
      rcases hcase with ⟨e, _⟩ | ⟨e, _, e2⟩
      · exact e
      · exfalso
        have : bs' = [] := by simpa using hc15
        subst this
        simp at e2
    obtain ⟨l', rfl, hN2⟩ := hR'.pairs hd
    subst hd
    have hI2 : Up lo' hi' (keysP l') := hI'
    have hn2 : (keysP l').length ≤ 7 := hn'
    have hkl := keysP_len l'
    obtain ⟨kv2, vv2, cv2, hb2, hk2, hv2, hc2⟩ := hN2
    have hgl : lookP l k = getT 0 (.leaf l') k := by rw [hg, get_ok hO.in_ h0 h1, hO.flat_]
    refine V_exit ?_
    refine VQ_then_exit ?_
    refine VQ_then_exit ?_
    refine VQ_block_exit ?_
    refine VQ_then ?_
    refine V_seq ?_
    refine V_seq ?_
    refine V_region ?_
    refine VL_still rfl rfl rfl (S_move rfl) ?_
    refine VL_still rfl rfl rfl (S_nil rfl) ?_
    refine VL_still rfl rfl rfl (S_field (k := 0) Try.underlying92 rfl rfl ti88 rfl rfl) ?_
    refine VL_still rfl rfl rfl (S_load Try.underlying88 rfl rfl (Cell.known hb2 rfl)) ?_
    refine VL_still rfl rfl rfl (S_move rfl) ?_
    refine VL_eff rfl (E_call rfl rfl rfl Try.call41 (bs_con _ (keysP l') k _ _ h hk2 hI2 (by omega)) (by repeat (first | exact Split.nil | exact Pick.here | apply Pick.there | apply Split.cons))) ?_
    rintro _ hh31 _ ⟨v31, nb31, ⟨rfl, rfl, rfl⟩, hs31, rfl, rfl⟩
    refine VL_still rfl rfl rfl (S_move rfl) ?_
    refine VL_still rfl rfl rfl (S_extract rfl rfl) ?_
    refine VL_still rfl rfl rfl (S_extract rfl rfl) ?_
    refine VL_still rfl rfl rfl (S_assign rfl) ?_
    refine VL_still rfl rfl rfl (S_assign rfl) ?_
    refine VL_nil ?_
    refine VQ_then ?_
    refine V_seq ?_
    refine V_region ?_
    refine VL_still rfl rfl rfl (S_move rfl) ?_
    refine VL_nil ?_
    refine VQ_then ?_
    refine V_cond rfl (fun hc34 => ?_) (fun hc34 => ?_)
    · skip
      have hf : (keysP l')[lb (keysP l') k]? = some k := of_decide_eq_true hc34
      have hlt : lb (keysP l') k < (l'.map (fun p => p.2)).length := by
        have := (List.getElem?_eq_some_iff.1 hf).1
        simpa [keysP] using this
      obtain ⟨bb, off, cap', e1, hcc⟩ := hv2.at_ xcE rfl hlt
      cases e1
      refine V_seq ?_
      refine V_region ?_
      refine VL_still rfl rfl rfl (S_move rfl) ?_
      refine VL_still rfl rfl rfl (S_nil rfl) ?_
      refine VL_still rfl rfl rfl (S_field (k := 1) Try.underlying92 rfl rfl ti89 rfl rfl) ?_
      refine VL_still rfl rfl rfl (S_load Try.underlying89 rfl rfl (Cell.known hb2 rfl)) ?_
      refine VL_still rfl rfl rfl (S_move rfl) ?_
      refine VL_still rfl rfl rfl (X_at (lb (keysP l') k) Try.underlying89 tx34 rfl rfl hlt) ?_
      refine VL_still rfl rfl rfl (S_loads (vs := xc (l'.map (fun p => p.2))[lb (keysP l') k]) Try.underlying34 rfl ti34 rfl rfl (hcc.mono (Sub.refl _) (fun q hq => by simp at hq))) ?_
      refine VL_eff rfl (E_store ti34 rfl rfl rfl rfl rfl (by repeat (first | exact Has.here | apply Has.there)) (by repeat (first | exact PutR.nil | exact SetL.here | apply SetL.there | apply PutR.cons)) (by repeat (first | exact UpdG.here | apply UpdG.there))) ?_
      rintro _ _ _ ⟨rfl, rfl, rfl⟩
      refine VL_still rfl rfl rfl (S_assign rfl) ?_
      refine VL_nil ?_
      refine VQ_then ?_
      refine V_ret ?_
      refine VQ_then_ret ?_
      refine VQ_fin2 (nb := []) (by first | exact .inl rfl | exact .inr rfl) rfl (RV_cells Try.underlying34 rfl ti34 rfl rfl (Cells.all (by repeat (first | exact Has.here | apply Has.there)))) (RV_tmp rfl) ?sb ?po
      case po =>
        have e : lookP l k = some (l'.map (fun p => p.2))[lb (keysP l') k] := by
          rw [hgl, getT_0, if_pos hf, ← List.getElem?_map, List.getElem?_eq_getElem hlt]
        rw [e]
        exact ⟨rfl, rfl, rfl⟩
      case sb => exact (by repeat (first | exact SubB.nil | exact Pick.here | apply Pick.there | apply SubB.emp | apply SubB.cons))
    · skip
      have hf : (keysP l')[lb (keysP l') k]? ≠ some k := of_decide_eq_false hc34
      refine V_skip ?_
      refine VQ_then ?_
      refine V_seq ?_
      refine V_region ?_
      refine VL_still rfl rfl rfl (S_struct Try.underlying34 to34 tz34 rfl (by repeat (first | exact BuildR.nil | exact PutR.nil | exact SetL.here | apply SetL.there | apply PutR.cons | apply BuildR.cons rfl (by first | exact ti3) rfl rfl rfl))) ?_
      refine VL_eff rfl (E_store ti34 rfl rfl rfl rfl rfl (by repeat (first | exact Has.here | apply Has.there)) (by repeat (first | exact PutR.nil | exact SetL.here | apply SetL.there | apply PutR.cons)) (by repeat (first | exact UpdG.here | apply UpdG.there))) ?_
      rintro _ _ _ ⟨rfl, rfl, rfl⟩
      refine VL_still rfl rfl rfl (S_assign rfl) ?_
      refine VL_nil ?_
      refine VQ_then ?_
      refine V_ret ?_
      refine VQ_fin2 (nb := []) (by first | exact .inl rfl | exact .inr rfl) rfl (RV_cells Try.underlying34 rfl ti34 rfl rfl (Cells.all (by repeat (first | exact Has.here | apply Has.there)))) (RV_tmp rfl) ?sb ?po
      case po =>
        have e : lookP l k = none := by rw [hgl, getT_0, if_neg hf]
        rw [e]
        exact ⟨rfl, rfl, rfl⟩
      case sb => exact (by repeat (first | exact SubB.nil | exact Pick.here | apply Pick.there | apply SubB.emp | apply SubB.cons))

set_option maxRecDepth 100000 in
theorem tput_con (b : Nat) (l : List Pr) (h : Hp) (hT : TreeAt h b l) (k s n : Int) (h0 : 0 ≤ k) (h1 : k < top) (hn : l.length ≤ 1000000) : Con Try.prog 20 [ptr b, .int .u64 k, .agg #[.int .i64 s, .int .i64 n]] h [] (fun r h' nb => nb = [] ∧ ∃ b', r = ptr b' ∧ TreeAt h' b' (insP l k (s, n))) := by
  obtain ⟨d, t, rb, hb, hR, hO⟩ := hT
  refine Con_of Try.func20 rfl Try.ntmps20 (Nat.le_of_ble_eq_true rfl) (fun w0 => ?_)
  refine V_seq ?_
  refine V_region ?_
  refine VL_eff rfl (E_box rfl rfl rfl) ?_
  rintro _ _ _ ⟨b5, hb5, rfl, rfl, rfl⟩
  refine VL_still rfl rfl rfl (S_assign rfl) ?_
  refine VL_nil ?_
  refine VQ_then ?_
  refine V_seq ?_
  refine V_region ?_
  refine VL_still rfl rfl rfl (S_move rfl) ?_
  refine VL_still rfl rfl rfl (S_nil rfl) ?_
  refine VL_still rfl rfl rfl (S_field (k := 1) Try.underlying85 rfl rfl ti3 rfl rfl) ?_
  first | refine VL_still rfl rfl rfl (S_load Try.underlying3 rfl rfl (Cell.trk (by repeat (first | exact Has.here | apply Has.there)) rfl)) ?_ | refine VL_still rfl rfl rfl (S_load Try.underlying3 rfl rfl (Cell.known (by first | assumption | exact (by assumption : Sub _ _) _ _ (by assumption) | exact (Sub.trans (by assumption) (by assumption)) _ _ (by assumption)) rfl)) ?_
  refine VL_still rfl rfl rfl (S_assign rfl) ?_
  refine VL_nil ?_
  refine VQ_then ?_
  refine V_seq ?_
  refine V_seq ?_
  refine V_region ?_
  refine VL_still rfl rfl rfl (S_move rfl) ?_
  refine VL_still rfl rfl rfl (S_move rfl) ?_
  refine VL_eff rfl (E_call rfl rfl rfl Try.call17 (get_con b l h ⟨d, t, rb, hb, hR, hO⟩ k h0 h1) (by repeat (first | exact Split.nil | exact Pick.here | apply Pick.there | apply Split.cons))) ?_
  rintro _ hh20 _ ⟨v20, nb20, ⟨rfl, rfl, rfl⟩, hs20, rfl, rfl⟩
  refine VL_still rfl rfl rfl (S_move rfl) ?_
  refine VL_still rfl rfl rfl (S_extract rfl rfl) ?_
  refine VL_still rfl rfl rfl (S_extract rfl rfl) ?_
  refine VL_eff rfl (E_alloc rfl tz34) ?_
  rintro _ _ _ ⟨b8, hb8, rfl, rfl, rfl⟩
  refine VL_eff rfl (E_store ti34 rfl rfl rfl rfl rfl (by repeat (first | exact Has.here | apply Has.there)) (by repeat (first | exact PutR.nil | exact SetL.here | apply SetL.there | apply PutR.cons)) (by repeat (first | exact UpdG.here | apply UpdG.there))) ?_
  rintro _ _ _ ⟨rfl, rfl, rfl⟩
  refine VL_still rfl rfl rfl (S_assign rfl) ?_
  refine VL_nil ?_
  refine VQ_then ?_
  refine V_seq ?_
  refine V_region ?_
  refine VL_still rfl rfl rfl (S_move rfl) ?_
  refine VL_still rfl rfl rfl (S_not rfl) ?_
  refine VL_nil ?_
  refine VQ_then ?_
  refine V_cond rfl (fun hc24 => ?_) (fun hc24 => ?_)
  · skip
    have hs : (lookP l k).isSome = false := by simpa using hc24
    have hil : (insP l k (s, n)).length = l.length + 1 := by rw [insP_len hO.up, if_neg (by rw [hs]; simp)]
    refine V_region ?_
    refine VL_still rfl rfl rfl (S_move rfl) ?_
    refine VL_still rfl rfl rfl (S_addn l.length 1 rfl rfl (by omega)) ?_
    refine VL_still rfl rfl rfl (S_assign rfl) ?_
    refine VL_nil ?_
    refine VQ_then ?_
    refine V_seq ?_
    refine V_draw _ [[(b5, .cells (List.toArray [.int .i64 s, .int .i64 n]) 34 (0, 0))]] 64 Try.mixed (by kernel_rfl) (Sub.refl _) (by repeat (first | exact SubB.nil | exact Pick.here | apply Pick.there | apply SubB.emp | apply SubB.cons)) ?_
    refine VD_still rfl rfl rfl rfl (S_move rfl) ?_
    refine VD_still rfl rfl rfl rfl (S_nil rfl) ?_
    refine VD_still rfl rfl rfl rfl (S_field (k := 0) Try.underlying85 rfl rfl ti83 rfl rfl) ?_
    first | refine VD_still rfl rfl rfl rfl (S_load Try.underlying83 rfl rfl (Cell.trk (by repeat (first | exact Has.here | apply Has.there)) rfl)) ?_ | refine VD_still rfl rfl rfl rfl (S_load Try.underlying83 rfl rfl (Cell.known (by first | assumption | exact (by assumption : Sub _ _) _ _ (by assumption) | exact (Sub.trans (by assumption) (by assumption)) _ _ (by assumption)) rfl)) ?_
    refine VD_still rfl rfl rfl rfl (S_move rfl) ?_
    first | refine VD_still rfl rfl rfl rfl (S_loads Try.underlying34 rfl ti34 rfl rfl (Cells.known (by first | assumption | exact (by assumption : Sub _ _) _ _ (by assumption) | exact (Sub.trans (by assumption) (by assumption)) _ _ (by assumption)))) ?_ | refine VD_still rfl rfl rfl rfl (S_loads Try.underlying34 rfl ti34 rfl rfl (Cells.all (by repeat (first | exact Has.here | apply Has.there)))) ?_ | refine VD_still rfl rfl rfl rfl (S_loads Try.underlying34 rfl ti34 rfl rfl (Cells.trk (by repeat (first | exact Has.here | apply Has.there)) (by repeat (first | exact TakeR.here (by repeat (first | exact HeadR.nil | apply HeadR.cons)) | apply TakeR.there)))) ?_
    refine VD_eff rfl rfl (E_call rfl rfl rfl Try.call43 (put_con d rb t 0 top k s n h hR hO.in_ hO.kids hO.few) (by repeat (first | exact Split.nil | exact Pick.here | apply Pick.there | apply Split.cons))) ?_
    rintro _ hh34 _ ⟨v34, nb34, ⟨rfl, hP⟩, hs34, rfl, rfl⟩
    obtain ⟨b1, s', o', rfl, hR1, ho⟩ := hP.form
    have hOp := hO.put (k := k) (v := (s, n)) h0 h1
    refine ⟨⟨(by first | exact Sub.refl _ | assumption | exact Sub.trans (by assumption) (by assumption)), (by repeat (first | exact SubB.nil | exact Pick.here | apply Pick.there | apply SubB.emp | apply SubB.cons))⟩, ?_⟩
    refine VD_still rfl rfl rfl rfl (S_move rfl) ?_
    refine VD_still rfl rfl rfl rfl (S_extract rfl rfl) ?_
    refine VD_still rfl rfl rfl rfl (S_extract rfl rfl) ?_
    refine VD_still rfl rfl rfl rfl (S_extract rfl rfl) ?_
    refine VD_still rfl rfl rfl rfl (S_assign rfl) ?_
    refine VD_still rfl rfl rfl rfl (S_assign rfl) ?_
    refine VD_still rfl rfl rfl rfl (S_assign rfl) ?_
    refine VD_nil ?_
    refine VQ_then ?_
    refine V_seq ?_
    refine V_seq ?_
    refine V_region ?_
    refine VL_still rfl rfl rfl (S_move rfl) ?_
    refine VL_still rfl rfl rfl (S_pnenil Try.underlying83 rfl rfl) ?_
    refine VL_nil ?_
    refine VQ_then ?_
    refine V_cond rfl (fun hc39 => ?_) (fun hc39 => ?_)
    · skip
      obtain ⟨b2, m, rfl, hq2, hR2⟩ : ∃ b2 m, o' = some ⟨b2, 0, none⟩ ∧ (putT d t k (s, n)).2 = some (s', m) ∧ Rp hh34 d b2 m := by
        rcases ho with ⟨rfl, _⟩ | ho
        · simp at hc39
        · exact ho
      refine V_region ?_
      refine VL_still rfl rfl rfl (S_move rfl) ?_
      refine VL_eff rfl (E_bs1 rfl Try.underlying88 ti23 rfl rfl rfl rfl rfl rfl) ?_
      rintro _ _ _ ⟨b41, hb41, rfl, rfl, rfl⟩
      refine VL_still rfl rfl rfl (S_move rfl) ?_
      refine VL_still rfl rfl rfl (S_move rfl) ?_
      refine VL_eff rfl (X_bs2 rfl Try.underlying90 tx83 rfl rfl rfl rfl rfl) ?_
      rintro _ _ _ ⟨b44, hb44, rfl, rfl, rfl⟩
      refine VL_still rfl rfl rfl (S_struct Try.underlying92 to92 tz92 rfl (by repeat (first | exact BuildR.nil | exact PutR.nil | exact SetL.here | apply SetL.there | apply PutR.cons | apply BuildR.cons rfl (by first | exact ti88 | exact ti89 | exact ti90) rfl rfl rfl))) ?_
      refine VL_eff rfl (E_box rfl rfl rfl) ?_
      rintro _ _ _ ⟨b46, hb46, rfl, rfl, rfl⟩
      refine VL_still rfl rfl rfl (S_assign rfl) ?_
      refine VL_nil ?_
      refine VQ_then ?_
      refine V_seq ?_
      refine V_region ?_
      refine VL_still rfl rfl rfl (S_move rfl) ?_
      refine VL_still rfl rfl rfl (S_move rfl) ?_
      refine VL_still rfl rfl rfl (S_struct Try.underlying85 to85 tz85 rfl (by repeat (first | exact BuildR.nil | exact PutR.nil | exact SetL.here | apply SetL.there | apply PutR.cons | apply BuildR.cons rfl (by first | exact ti3 | exact ti83) rfl rfl rfl))) ?_
      refine VL_eff rfl (E_box rfl rfl rfl) ?_
      rintro _ _ _ ⟨b50, hb50, rfl, rfl, rfl⟩
      refine VL_still rfl rfl rfl (S_assign rfl) ?_
      refine VL_nil ?_
      refine VQ_then ?_
      refine V_ret ?_
      refine VQ_keeps (blA := [GN b46 (.slice (some ⟨b41, 0, none⟩) 1 1) (.slice none 0 0) (.slice (some ⟨b44, 0, none⟩) 2 2), [(b41, .cells (List.toArray [.int .u64 s']) 23 (0, 0))], [(b44, .cells (List.toArray [ptr b1, ptr b2]) 83 (0, 0))], [(b50, .cells (List.toArray [ptr b46, .int .i64 ((l.length + 1 : Nat))]) 85 (0, 0))]]) (by repeat (first | exact Split.nil | exact Pick.here | apply Pick.there | apply Split.cons)) (fun h1 sh1 kh1 => ?_)
      obtain ⟨q1, q2, q3, q4, _⟩ := kh1
      refine VQ_fin1 (nb := []) (by first | exact .inl rfl | exact .inr rfl) rfl (RV_tmp rfl) ?sb ?po
      case po =>
        refine ⟨rfl, b50, rfl, _, _, b46, ?_, ?_, hOp⟩
        · rw [hil]; exact q4 (b50, _) (by simp)
        · have e : rootT d (putT d t k (s, n)) = (d + 1, .node [s'] [(putT d t k (s, n)).1, m]) := by
            generalize putT d t k (s, n) = q at hq2 ⊢
            obtain ⟨t', o⟩ := q
            simp only at hq2
            subst hq2; rfl
          rw [e]
          exact ⟨[b1, b2], NodeAt.own (Gv := []) q1 q2 (fun q hq => by simp at hq) q3 (Buf.lit (n := 1) (cs := [.int .u64 s']) rfl (by omega)) (Buf.nil _ _) (Buf.lit (n := 2) (cs := [ptr b1, ptr b2]) rfl (by omega)), .cons (Rp.sub sh1 hR1) (.cons (Rp.sub sh1 hR2) .nil)⟩
      case sb => exact (by repeat (first | exact SubB.nil | exact Pick.here | apply Pick.there | apply SubB.emp | apply SubB.cons))
    · skip
      obtain ⟨rfl, hq2⟩ : o' = none ∧ (putT d t k (s, n)).2 = none := by
        rcases ho with ho | ⟨b2, m, rfl, _⟩
        · exact ho
        · simp at hc39
      refine V_skip ?_
      refine VQ_then ?_
      refine V_seq ?_
      refine V_region ?_
      refine VL_still rfl rfl rfl (S_move rfl) ?_
      refine VL_still rfl rfl rfl (S_move rfl) ?_
      refine VL_still rfl rfl rfl (S_struct Try.underlying85 to85 tz85 rfl (by repeat (first | exact BuildR.nil | exact PutR.nil | exact SetL.here | apply SetL.there | apply PutR.cons | apply BuildR.cons rfl (by first | exact ti3 | exact ti83) rfl rfl rfl))) ?_
      refine VL_eff rfl (E_box rfl rfl rfl) ?_
      rintro _ _ _ ⟨b50, hb50, rfl, rfl, rfl⟩
      refine VL_still rfl rfl rfl (S_assign rfl) ?_
      refine VL_nil ?_
      refine VQ_then ?_
      refine V_ret ?_
      refine VQ_keeps (blA := [[(b50, .cells (List.toArray [ptr b1, .int .i64 ((l.length + 1 : Nat))]) 85 (0, 0))]]) (by repeat (first | exact Split.nil | exact Pick.here | apply Pick.there | apply Split.cons)) (fun h1 sh1 kh1 => ?_)
      obtain ⟨q4, _⟩ := kh1
      refine VQ_fin1 (nb := []) (by first | exact .inl rfl | exact .inr rfl) rfl (RV_tmp rfl) ?sb ?po
      case po =>
        refine ⟨rfl, b50, rfl, _, _, b1, ?_, ?_, hOp⟩
        · rw [hil]; exact q4 (b50, _) (by simp)
        · have e : rootT d (putT d t k (s, n)) = (d, (putT d t k (s, n)).1) := by
            generalize putT d t k (s, n) = q at hq2 ⊢
            obtain ⟨t', o⟩ := q
            simp only at hq2
            subst hq2; rfl
          rw [e]
          exact Rp.sub sh1 hR1
      case sb => exact (by repeat (first | exact SubB.nil | exact Pick.here | apply Pick.there | apply SubB.emp | apply SubB.cons))
  · skip
    have hs : (lookP l k).isSome = true := by simpa using hc24
    have hil : (insP l k (s, n)).length = l.length := by rw [insP_len hO.up, if_pos hs]
    refine V_skip ?_
    refine VQ_then ?_
    refine V_seq ?_
    refine V_draw _ [[(b5, .cells (List.toArray [.int .i64 s, .int .i64 n]) 34 (0, 0))]] 64 Try.mixed (by kernel_rfl) (Sub.refl _) (by repeat (first | exact SubB.nil | exact Pick.here | apply Pick.there | apply SubB.emp | apply SubB.cons)) ?_
    refine VD_still rfl rfl rfl rfl (S_move rfl) ?_
    refine VD_still rfl rfl rfl rfl (S_nil rfl) ?_
    refine VD_still rfl rfl rfl rfl (S_field (k := 0) Try.underlying85 rfl rfl ti83 rfl rfl) ?_
    first | refine VD_still rfl rfl rfl rfl (S_load Try.underlying83 rfl rfl (Cell.trk (by repeat (first | exact Has.here | apply Has.there)) rfl)) ?_ | refine VD_still rfl rfl rfl rfl (S_load Try.underlying83 rfl rfl (Cell.known (by first | assumption | exact (by assumption : Sub _ _) _ _ (by assumption) | exact (Sub.trans (by assumption) (by assumption)) _ _ (by assumption)) rfl)) ?_
    refine VD_still rfl rfl rfl rfl (S_move rfl) ?_
    first | refine VD_still rfl rfl rfl rfl (S_loads Try.underlying34 rfl ti34 rfl rfl (Cells.known (by first | assumption | exact (by assumption : Sub _ _) _ _ (by assumption) | exact (Sub.trans (by assumption) (by assumption)) _ _ (by assumption)))) ?_ | refine VD_still rfl rfl rfl rfl (S_loads Try.underlying34 rfl ti34 rfl rfl (Cells.all (by repeat (first | exact Has.here | apply Has.there)))) ?_ | refine VD_still rfl rfl rfl rfl (S_loads Try.underlying34 rfl ti34 rfl rfl (Cells.trk (by repeat (first | exact Has.here | apply Has.there)) (by repeat (first | exact TakeR.here (by repeat (first | exact HeadR.nil | apply HeadR.cons)) | apply TakeR.there)))) ?_
    refine VD_eff rfl rfl (E_call rfl rfl rfl Try.call43 (put_con d rb t 0 top k s n h hR hO.in_ hO.kids hO.few) (by repeat (first | exact Split.nil | exact Pick.here | apply Pick.there | apply Split.cons))) ?_
    rintro _ hh34 _ ⟨v34, nb34, ⟨rfl, hP⟩, hs34, rfl, rfl⟩
    obtain ⟨b1, s', o', rfl, hR1, ho⟩ := hP.form
    have hOp := hO.put (k := k) (v := (s, n)) h0 h1
    refine ⟨⟨(by first | exact Sub.refl _ | assumption | exact Sub.trans (by assumption) (by assumption)), (by repeat (first | exact SubB.nil | exact Pick.here | apply Pick.there | apply SubB.emp | apply SubB.cons))⟩, ?_⟩
    refine VD_still rfl rfl rfl rfl (S_move rfl) ?_
    refine VD_still rfl rfl rfl rfl (S_extract rfl rfl) ?_
    refine VD_still rfl rfl rfl rfl (S_extract rfl rfl) ?_
    refine VD_still rfl rfl rfl rfl (S_extract rfl rfl) ?_
    refine VD_still rfl rfl rfl rfl (S_assign rfl) ?_
    refine VD_still rfl rfl rfl rfl (S_assign rfl) ?_
    refine VD_still rfl rfl rfl rfl (S_assign rfl) ?_
    refine VD_nil ?_
    refine VQ_then ?_
    refine V_seq ?_
    refine V_seq ?_
    refine V_region ?_
    refine VL_still rfl rfl rfl (S_move rfl) ?_
    refine VL_still rfl rfl rfl (S_pnenil Try.underlying83 rfl rfl) ?_
    refine VL_nil ?_
    refine VQ_then ?_
    refine V_cond rfl (fun hc39 => ?_) (fun hc39 => ?_)
    · skip
      obtain ⟨b2, m, rfl, hq2, hR2⟩ : ∃ b2 m, o' = some ⟨b2, 0, none⟩ ∧ (putT d t k (s, n)).2 = some (s', m) ∧ Rp hh34 d b2 m := by
        rcases ho with ⟨rfl, _⟩ | ho
        · simp at hc39
        · exact ho
      refine V_region ?_
      refine VL_still rfl rfl rfl (S_move rfl) ?_
      refine VL_eff rfl (E_bs1 rfl Try.underlying88 ti23 rfl rfl rfl rfl rfl rfl) ?_
      rintro _ _ _ ⟨b41, hb41, rfl, rfl, rfl⟩
      refine VL_still rfl rfl rfl (S_move rfl) ?_
      refine VL_still rfl rfl rfl (S_move rfl) ?_
      refine VL_eff rfl (X_bs2 rfl Try.underlying90 tx83 rfl rfl rfl rfl rfl) ?_
      rintro _ _ _ ⟨b44, hb44, rfl, rfl, rfl⟩
      refine VL_still rfl rfl rfl (S_struct Try.underlying92 to92 tz92 rfl (by repeat (first | exact BuildR.nil | exact PutR.nil | exact SetL.here | apply SetL.there | apply PutR.cons | apply BuildR.cons rfl (by first | exact ti88 | exact ti89 | exact ti90) rfl rfl rfl))) ?_
      refine VL_eff rfl (E_box rfl rfl rfl) ?_
      rintro _ _ _ ⟨b46, hb46, rfl, rfl, rfl⟩
      refine VL_still rfl rfl rfl (S_assign rfl) ?_
      refine VL_nil ?_
      refine VQ_then ?_
      refine V_seq ?_
      refine V_region ?_
      refine VL_still rfl rfl rfl (S_move rfl) ?_
      refine VL_still rfl rfl rfl (S_move rfl) ?_
      refine VL_still rfl rfl rfl (S_struct Try.underlying85 to85 tz85 rfl (by repeat (first | exact BuildR.nil | exact PutR.nil | exact SetL.here | apply SetL.there | apply PutR.cons | apply BuildR.cons rfl (by first | exact ti3 | exact ti83) rfl rfl rfl))) ?_
      refine VL_eff rfl (E_box rfl rfl rfl) ?_
      rintro _ _ _ ⟨b50, hb50, rfl, rfl, rfl⟩
      refine VL_still rfl rfl rfl (S_assign rfl) ?_
      refine VL_nil ?_
      refine VQ_then ?_
      refine V_ret ?_
      refine VQ_keeps (blA := [GN b46 (.slice (some ⟨b41, 0, none⟩) 1 1) (.slice none 0 0) (.slice (some ⟨b44, 0, none⟩) 2 2), [(b41, .cells (List.toArray [.int .u64 s']) 23 (0, 0))], [(b44, .cells (List.toArray [ptr b1, ptr b2]) 83 (0, 0))], [(b50, .cells (List.toArray [ptr b46, .int .i64 ((l.length : Nat))]) 85 (0, 0))]]) (by repeat (first | exact Split.nil | exact Pick.here | apply Pick.there | apply Split.cons)) (fun h1 sh1 kh1 => ?_)
      obtain ⟨q1, q2, q3, q4, _⟩ := kh1
      refine VQ_fin1 (nb := []) (by first | exact .inl rfl | exact .inr rfl) rfl (RV_tmp rfl) ?sb ?po
      case po =>
        refine ⟨rfl, b50, rfl, _, _, b46, ?_, ?_, hOp⟩
        · rw [hil]; exact q4 (b50, _) (by simp)
        · have e : rootT d (putT d t k (s, n)) = (d + 1, .node [s'] [(putT d t k (s, n)).1, m]) := by
            generalize putT d t k (s, n) = q at hq2 ⊢
            obtain ⟨t', o⟩ := q
            simp only at hq2
            subst hq2; rfl
          rw [e]
          exact ⟨[b1, b2], NodeAt.own (Gv := []) q1 q2 (fun q hq => by simp at hq) q3 (Buf.lit (n := 1) (cs := [.int .u64 s']) rfl (by omega)) (Buf.nil _ _) (Buf.lit (n := 2) (cs := [ptr b1, ptr b2]) rfl (by omega)), .cons (Rp.sub sh1 hR1) (.cons (Rp.sub sh1 hR2) .nil)⟩
      case sb => exact (by repeat (first | exact SubB.nil | exact Pick.here | apply Pick.there | apply SubB.emp | apply SubB.cons))
    · skip
      obtain ⟨rfl, hq2⟩ : o' = none ∧ (putT d t k (s, n)).2 = none := by
        rcases ho with ho | ⟨b2, m, rfl, _⟩
        · exact ho
        · simp at hc39
      refine V_skip ?_
      refine VQ_then ?_
      refine V_seq ?_
      refine V_region ?_
      refine VL_still rfl rfl rfl (S_move rfl) ?_
      refine VL_still rfl rfl rfl (S_move rfl) ?_
      refine VL_still rfl rfl rfl (S_struct Try.underlying85 to85 tz85 rfl (by repeat (first | exact BuildR.nil | exact PutR.nil | exact SetL.here | apply SetL.there | apply PutR.cons | apply BuildR.cons rfl (by first | exact ti3 | exact ti83) rfl rfl rfl))) ?_
      refine VL_eff rfl (E_box rfl rfl rfl) ?_
      rintro _ _ _ ⟨b50, hb50, rfl, rfl, rfl⟩
      refine VL_still rfl rfl rfl (S_assign rfl) ?_
      refine VL_nil ?_
      refine VQ_then ?_
      refine V_ret ?_
      refine VQ_keeps (blA := [[(b50, .cells (List.toArray [ptr b1, .int .i64 ((l.length : Nat))]) 85 (0, 0))]]) (by repeat (first | exact Split.nil | exact Pick.here | apply Pick.there | apply Split.cons)) (fun h1 sh1 kh1 => ?_)
      obtain ⟨q4, _⟩ := kh1
      refine VQ_fin1 (nb := []) (by first | exact .inl rfl | exact .inr rfl) rfl (RV_tmp rfl) ?sb ?po
      case po =>
        refine ⟨rfl, b50, rfl, _, _, b1, ?_, ?_, hOp⟩
        · rw [hil]; exact q4 (b50, _) (by simp)
        · have e : rootT d (putT d t k (s, n)) = (d, (putT d t k (s, n)).1) := by
            generalize putT d t k (s, n) = q at hq2 ⊢
            obtain ⟨t', o⟩ := q
            simp only at hq2
            subst hq2; rfl
          rw [e]
          exact Rp.sub sh1 hR1
      case sb => exact (by repeat (first | exact SubB.nil | exact Pick.here | apply Pick.there | apply SubB.emp | apply SubB.cons))

set_option maxRecDepth 100000 in
theorem tdel_con (b : Nat) (l : List Pr) (h : Hp) (hT : TreeAt h b l) (k : Int) (h0 : 0 ≤ k) (h1 : k < top) (hn : l.length ≤ 1000000) : Con Try.prog 21 [ptr b, .int .u64 k] h [] (fun r h' nb => nb = [] ∧ ∃ b', r = ptr b' ∧ TreeAt h' b' (delP l k)) := by
  obtain ⟨d, t, rb, hb, hR, hO⟩ := hT
  refine Con_of Try.func21 rfl Try.ntmps21 (Nat.le_of_ble_eq_true rfl) (fun w0 => ?_)
  refine V_seq ?_
  refine V_region ?_
  refine VL_still rfl rfl rfl (S_assign rfl) ?_
  refine VL_nil ?_
  refine VQ_then ?_
  refine V_seq ?_
  refine V_seq ?_
  refine V_region ?_
  refine VL_still rfl rfl rfl (S_move rfl) ?_
  refine VL_still rfl rfl rfl (S_move rfl) ?_
  refine VL_eff rfl (E_call rfl rfl rfl Try.call17 (get_con b l h ⟨d, t, rb, hb, hR, hO⟩ k h0 h1) (by repeat (first | exact Split.nil | exact Pick.here | apply Pick.there | apply Split.cons))) ?_
  rintro _ hh11 _ ⟨v11, nb11, ⟨rfl, rfl, rfl⟩, hs11, rfl, rfl⟩
  refine VL_still rfl rfl rfl (S_move rfl) ?_
  refine VL_still rfl rfl rfl (S_extract rfl rfl) ?_
  refine VL_still rfl rfl rfl (S_extract rfl rfl) ?_
  refine VL_eff rfl (E_alloc rfl tz34) ?_
  rintro _ _ _ ⟨b5, hb5, rfl, rfl, rfl⟩
  refine VL_eff rfl (E_store ti34 rfl rfl rfl rfl rfl (by repeat (first | exact Has.here | apply Has.there)) (by repeat (first | exact PutR.nil | exact SetL.here | apply SetL.there | apply PutR.cons)) (by repeat (first | exact UpdG.here | apply UpdG.there))) ?_
  rintro _ _ _ ⟨rfl, rfl, rfl⟩
  refine VL_still rfl rfl rfl (S_assign rfl) ?_
  refine VL_nil ?_
  refine VQ_then ?_
  refine V_seq ?_
  refine V_region ?_
  refine VL_still rfl rfl rfl (S_move rfl) ?_
  refine VL_still rfl rfl rfl (S_not rfl) ?_
  refine VL_nil ?_
  refine VQ_then ?_
  refine V_cond rfl (fun hc15 => ?_) (fun hc15 => ?_)
  · skip
    have hs : (lookP l k).isSome = false := by simpa using hc15
    refine V_seq ?_
    refine V_region ?_
    refine VL_still rfl rfl rfl (S_move rfl) ?_
    refine VL_still rfl rfl rfl (S_assign rfl) ?_
    refine VL_nil ?_
    refine VQ_then ?_
    refine V_ret ?_
    refine VQ_then_ret ?_
    refine VQ_fin1 (nb := []) (by first | exact .inl rfl | exact .inr rfl) rfl (RV_tmp rfl) ?sb ?po
    case po =>
      rw [delP_no hs]
      exact ⟨rfl, b, rfl, d, t, rb, hb, hR, hO⟩
    case sb => exact (by repeat (first | exact SubB.nil | exact Pick.here | apply Pick.there | apply SubB.emp | apply SubB.cons))
  · skip
    have hs : (lookP l k).isSome = true := by simpa using hc15
    have hdl := delP_len hO.up hs
    refine V_skip ?_
    refine VQ_then ?_
    refine V_seq ?_
    refine V_region ?_
    refine VL_still rfl rfl rfl (S_move rfl) ?_
    refine VL_still rfl rfl rfl (S_nil rfl) ?_
    refine VL_still rfl rfl rfl (S_field (k := 0) Try.underlying85 rfl rfl ti83 rfl rfl) ?_
    first | refine VL_still rfl rfl rfl (S_load Try.underlying83 rfl rfl (Cell.trk (by repeat (first | exact Has.here | apply Has.there)) rfl)) ?_ | refine VL_still rfl rfl rfl (S_load Try.underlying83 rfl rfl (Cell.known (by first | assumption | exact (by assumption : Sub _ _) _ _ (by assumption) | exact (Sub.trans (by assumption) (by assumption)) _ _ (by assumption)) rfl)) ?_
    refine VL_still rfl rfl rfl (S_move rfl) ?_
    refine VL_eff rfl (E_call rfl rfl rfl Try.call44 (del_con d rb t 0 top k h hR hO.in_ hO.kids hO.few hO.some_ h0 h1) (by repeat (first | exact Split.nil | exact Pick.here | apply Pick.there | apply Split.cons))) ?_
    rintro _ hh22 _ ⟨v22, nb22, ⟨rfl, b1, rfl, hR1⟩, hs22, rfl, rfl⟩
    have hI1 := (del_ok hO.in_ hO.kids hO.few hO.some_ h0 h1).1
    have hOd := hO.del h0 h1
    generalize delT d t k = dt at *
    obtain ⟨vs1, bs1, hN1, hcase⟩ := Rp.node hR1 hI1.sh
    have hN1' := hN1
    obtain ⟨kv1, vv1, cv1, hb1, hk1, hv1, hc1⟩ := hN1
    obtain ⟨A7, c7, rfl, _, _⟩ := hc1.form
    refine VL_still rfl rfl rfl (S_assign rfl) ?_
    refine VL_nil ?_
    refine VQ_then ?_
    refine V_seq ?_
    refine V_seq ?_
    refine V_region ?_
    refine VL_still rfl rfl rfl (S_move rfl) ?_
    refine VL_eff rfl (E_call rfl rfl rfl Try.call39 (leaf_con b1 _ _ _ hh22 hN1') (by repeat (first | exact Split.nil | exact Pick.here | apply Pick.there | apply Split.cons))) ?_
    rintro _ hh24 _ ⟨v24, nb24, ⟨rfl, rfl, rfl⟩, hs24, rfl, rfl⟩
    refine VL_still rfl rfl rfl (S_not rfl) ?_
    refine VL_still rfl rfl rfl (S_move rfl) ?_
    refine VL_bool 26 rfl (fun hc26 => ?_) (fun hc26 => ?_)
    · skip
      have hne : bs1 ≠ [] := by simpa using hc26
      obtain ⟨hd0, hv0, hbl⟩ : d ≠ 0 ∧ vs1 = [] ∧ bs1.length = nk dt + 1 := by
        rcases hcase with ⟨_, e, _⟩ | e
        · exact absurd e hne
        · exact e
      refine VL_still rfl rfl rfl (S_move rfl) ?_
      refine VL_still rfl rfl rfl (S_nil rfl) ?_
      refine VL_still rfl rfl rfl (S_field (k := 2) Try.underlying92 rfl rfl ti90 rfl rfl) ?_
      refine VL_still rfl rfl rfl (S_load Try.underlying90 rfl rfl (Cell.known hb1 rfl)) ?_
      refine VL_still rfl rfl rfl (S_len Try.underlying90 rfl) ?_
      refine VL_still rfl rfl rfl (S_eql rfl rfl) ?_
      first | refine VL_still rfl rfl rfl (S_pick_t rfl rfl) ?_ | refine VL_still rfl rfl rfl (S_pick_f rfl rfl) ?_
      refine VL_nil ?_
      refine VQ_then ?_
      refine V_cond rfl (fun hc33 => ?_) (fun hc33 => ?_)
      · skip
        have h1k : bs1.length = 1 := by
          have := of_decide_eq_true hc33
          omega
        obtain ⟨d', x, rfl, rfl, hOk⟩ : ∃ d' x, d = d' + 1 ∧ dt = .node [] [x] ∧ TOk d' x (delP l k) := by
          rcases hOd with ⟨e | e, _⟩ | e
          · exact absurd e hd0
          · omega
          · exact e
        obtain ⟨bs2, hN2, hA2⟩ := hR1
        obtain ⟨b2, rfl⟩ : ∃ b2, bs2 = [b2] := by
          have := hA2.len
          match bs2, this with
          | [b2], _ => exact ⟨b2, rfl⟩
        obtain ⟨bi, hbi, hRi⟩ := hA2.get (i := 0) rfl
        simp only [List.getElem?_cons_zero, Option.some.injEq] at hbi
        subst hbi
        obtain ⟨kv2, vv2, cv2, hb2, hk2, hv2, hc2⟩ := hN2
        have e2 := hb2.symm.trans hb1
        simp only [Option.some.injEq, Obj.cells.injEq, Array.mk.injEq, List.cons.injEq, and_true] at e2
        obtain ⟨_, _, e2⟩ := e2
        subst e2
        obtain ⟨bb, off, cap', e1, hcc⟩ := hc2.at_ pcE rfl (i := 0) (by simp)
        simp only [Value.slice.injEq] at e1
        obtain ⟨rfl, _, rfl⟩ := e1
        refine V_region ?_
        refine VL_still rfl rfl rfl (S_move rfl) ?_
        refine VL_still rfl rfl rfl (S_nil rfl) ?_
        refine VL_still rfl rfl rfl (S_field (k := 2) Try.underlying92 rfl rfl ti90 rfl rfl) ?_
        refine VL_still rfl rfl rfl (S_load Try.underlying90 rfl rfl (Cell.known hb1 rfl)) ?_
        refine VL_still rfl rfl rfl (X_at 0 Try.underlying90 tx83 rfl rfl (by omega)) ?_
        refine VL_still rfl rfl rfl (S_load Try.underlying83 rfl rfl hcc.1.mem) ?_
        refine VL_still rfl rfl rfl (S_assign rfl) ?_
        refine VL_nil ?_
        refine VQ_then ?_
        refine V_seq ?_
        refine V_region ?_
        refine VL_still rfl rfl rfl (S_move rfl) ?_
        refine VL_still rfl rfl rfl (S_move rfl) ?_
        refine VL_still rfl rfl rfl (S_nil rfl) ?_
        refine VL_still rfl rfl rfl (S_field (k := 1) Try.underlying85 rfl rfl ti3 rfl rfl) ?_
        refine VL_still rfl rfl rfl (S_load Try.underlying3 rfl rfl (Cell.known (hs22 _ _ hb) rfl)) ?_
        refine VL_still rfl rfl rfl (S_subn l.length 1 rfl rfl (by omega) (by omega)) ?_
        refine VL_still rfl rfl rfl (S_struct Try.underlying85 to85 tz85 rfl (by repeat (first | exact BuildR.nil | exact PutR.nil | exact SetL.here | apply SetL.there | apply PutR.cons | apply BuildR.cons rfl (by first | exact ti3 | exact ti83) rfl rfl rfl))) ?_
        refine VL_eff rfl (E_box rfl rfl rfl) ?_
        rintro _ _ _ ⟨b47, hb47, rfl, rfl, rfl⟩
        refine VL_still rfl rfl rfl (S_assign rfl) ?_
        refine VL_nil ?_
        refine VQ_then ?_
        refine V_ret ?_
        refine VQ_keeps (blA := [[(b47, .cells (List.toArray [ptr b2, .int .i64 ((l.length - 1 : Nat))]) 85 (0, 0))]]) (by repeat (first | exact Split.nil | exact Pick.here | apply Pick.there | apply Split.cons)) (fun h1 sh1 kh1 => ?_)
        obtain ⟨q4, _⟩ := kh1
        refine VQ_fin1 (nb := []) (by first | exact .inl rfl | exact .inr rfl) rfl (RV_tmp rfl) ?sb ?po
        case po =>
          refine ⟨rfl, b47, rfl, _, _, b2, ?_, Rp.sub sh1 hRi, hOk⟩
          rw [show (delP l k).length = l.length - 1 by omega]; exact q4 (b47, _) (by simp)
        case sb => exact (by repeat (first | exact SubB.nil | exact Pick.here | apply Pick.there | apply SubB.emp | apply SubB.cons))
      · skip
        have h1k : bs1.length ≠ 1 := by
          have := of_decide_eq_false hc33
          omega
        have hOk : TOk d dt (delP l k) := by
          rcases hOd with ⟨_, e⟩ | ⟨d', x, rfl, rfl, _⟩
          · exact e
          · simp [nk, keysT] at hbl; omega
        refine V_skip ?_
        refine VQ_then ?_
        refine V_seq ?_
        refine V_region ?_
        refine VL_still rfl rfl rfl (S_move rfl) ?_
        refine VL_still rfl rfl rfl (S_move rfl) ?_
        refine VL_still rfl rfl rfl (S_nil rfl) ?_
        refine VL_still rfl rfl rfl (S_field (k := 1) Try.underlying85 rfl rfl ti3 rfl rfl) ?_
        refine VL_still rfl rfl rfl (S_load Try.underlying3 rfl rfl (Cell.known (hs22 _ _ hb) rfl)) ?_
        refine VL_still rfl rfl rfl (S_subn l.length 1 rfl rfl (by omega) (by omega)) ?_
        refine VL_still rfl rfl rfl (S_struct Try.underlying85 to85 tz85 rfl (by repeat (first | exact BuildR.nil | exact PutR.nil | exact SetL.here | apply SetL.there | apply PutR.cons | apply BuildR.cons rfl (by first | exact ti3 | exact ti83) rfl rfl rfl))) ?_
        refine VL_eff rfl (E_box rfl rfl rfl) ?_
        rintro _ _ _ ⟨b47, hb47, rfl, rfl, rfl⟩
        refine VL_still rfl rfl rfl (S_assign rfl) ?_
        refine VL_nil ?_
        refine VQ_then ?_
        refine V_ret ?_
        refine VQ_keeps (blA := [[(b47, .cells (List.toArray [ptr b1, .int .i64 ((l.length - 1 : Nat))]) 85 (0, 0))]]) (by repeat (first | exact Split.nil | exact Pick.here | apply Pick.there | apply Split.cons)) (fun h1 sh1 kh1 => ?_)
        obtain ⟨q4, _⟩ := kh1
        refine VQ_fin1 (nb := []) (by first | exact .inl rfl | exact .inr rfl) rfl (RV_tmp rfl) ?sb ?po
        case po =>
          refine ⟨rfl, b47, rfl, _, _, b1, ?_, Rp.sub sh1 hR1, hOk⟩
          rw [show (delP l k).length = l.length - 1 by omega]; exact q4 (b47, _) (by simp)
        case sb => exact (by repeat (first | exact SubB.nil | exact Pick.here | apply Pick.there | apply SubB.emp | apply SubB.cons))
    · skip
      have hne : bs1 = [] := by simpa using hc26
      have hd0 : d = 0 := by
        rcases hcase with ⟨e, _⟩ | ⟨_, _, e⟩
        · exact e
        · rw [hne] at e; simp at e
      have hOk : TOk d dt (delP l k) := by
        rcases hOd with ⟨_, e⟩ | ⟨d', x, rfl, _⟩
        · exact e
        · omega
      refine VL_skip rfl rfl rfl ?_
      refine VL_skip rfl rfl rfl ?_
      refine VL_skip rfl rfl rfl ?_
      refine VL_skip rfl rfl rfl ?_
      refine VL_skip rfl rfl rfl ?_
      refine VL_skip rfl rfl rfl ?_
      first | refine VL_still rfl rfl rfl (S_pick_t rfl rfl) ?_ | refine VL_still rfl rfl rfl (S_pick_f rfl rfl) ?_
      refine VL_nil ?_
      refine VQ_then ?_
      refine V_cond_false rfl ?_
      refine V_skip ?_
      refine VQ_then ?_
      refine V_seq ?_
      refine V_region ?_
      refine VL_still rfl rfl rfl (S_move rfl) ?_
      refine VL_still rfl rfl rfl (S_move rfl) ?_
      refine VL_still rfl rfl rfl (S_nil rfl) ?_
      refine VL_still rfl rfl rfl (S_field (k := 1) Try.underlying85 rfl rfl ti3 rfl rfl) ?_
      refine VL_still rfl rfl rfl (S_load Try.underlying3 rfl rfl (Cell.known (hs22 _ _ hb) rfl)) ?_
      refine VL_still rfl rfl rfl (S_subn l.length 1 rfl rfl (by omega) (by omega)) ?_
      refine VL_still rfl rfl rfl (S_struct Try.underlying85 to85 tz85 rfl (by repeat (first | exact BuildR.nil | exact PutR.nil | exact SetL.here | apply SetL.there | apply PutR.cons | apply BuildR.cons rfl (by first | exact ti3 | exact ti83) rfl rfl rfl))) ?_
      refine VL_eff rfl (E_box rfl rfl rfl) ?_
      rintro _ _ _ ⟨b47, hb47, rfl, rfl, rfl⟩
      refine VL_still rfl rfl rfl (S_assign rfl) ?_
      refine VL_nil ?_
      refine VQ_then ?_
      refine V_ret ?_
      refine VQ_keeps (blA := [[(b47, .cells (List.toArray [ptr b1, .int .i64 ((l.length - 1 : Nat))]) 85 (0, 0))]]) (by repeat (first | exact Split.nil | exact Pick.here | apply Pick.there | apply Split.cons)) (fun h1 sh1 kh1 => ?_)
      obtain ⟨q4, _⟩ := kh1
      refine VQ_fin1 (nb := []) (by first | exact .inl rfl | exact .inr rfl) rfl (RV_tmp rfl) ?sb ?po
      case po =>
        refine ⟨rfl, b47, rfl, _, _, b1, ?_, Rp.sub sh1 hR1, hOk⟩
        rw [show (delP l k).length = l.length - 1 by omega]; exact q4 (b47, _) (by simp)
      case sb => exact (by repeat (first | exact SubB.nil | exact Pick.here | apply Pick.there | apply SubB.emp | apply SubB.cons))

end Go.Proofs.Ytdglignjoojimaa

/- The plain law of trees, part 5: what is visited. No program in sight. No conditions. -/
set_option linter.unusedVariables false
set_option linter.unusedSimpArgs false
namespace Go.Proofs.Ytdglignjoojimaa

def fromP (k : Int) (l : List Pr) : List Pr := l.filter (fun p => decide (k ≤ p.1))
def vis (to : Int) (l : List Pr) : List Pr := l.takeWhile (fun p => decide (p.1 ≤ to))
def visB (to : Int) (l : List Pr) : Bool := l.all (fun p => decide (p.1 ≤ to))
def rangeP (k to : Int) (l : List Pr) : List Pr := l.filter (fun p => decide (k ≤ p.1) && decide (p.1 ≤ to))
theorem vis_all {to : Int} {l : List Pr} (h : visB to l = true) : vis to l = l := by
  unfold vis
  unfold visB at h
  induction l with
  | nil => rfl
  | cons p l ih =>
    rw [List.all_cons, Bool.and_eq_true] at h
    rw [List.takeWhile_cons, if_pos h.1, ih h.2]
theorem vis_app {to : Int} {a b : List Pr} (h : visB to a = true) : vis to (a ++ b) = a ++ vis to b := by
  induction a with
  | nil => rfl
  | cons p a ih =>
    unfold visB at h
    rw [List.all_cons, Bool.and_eq_true] at h
    have := ih h.2
    unfold vis at this ⊢
    rw [List.cons_append, List.takeWhile_cons, if_pos h.1, this]; rfl
theorem vis_stop {to : Int} {a b : List Pr} (h : visB to a = false) : vis to (a ++ b) = vis to a := by
  induction a with
  | nil => cases h
  | cons p a ih =>
    unfold vis at ih ⊢
    rw [List.cons_append, List.takeWhile_cons, List.takeWhile_cons]
    by_cases hp : decide (p.1 ≤ to) = true
    · rw [if_pos hp, if_pos hp, ih]
      unfold visB at h ⊢
      rw [List.all_cons, hp] at h; simpa using h
    · rw [if_neg hp, if_neg hp]
theorem visB_app (to : Int) (a b : List Pr) : visB to (a ++ b) = (visB to a && visB to b) := List.all_append
theorem fromP_app (k : Int) (a b : List Pr) : fromP k (a ++ b) = fromP k a ++ fromP k b := List.filter_append ..
theorem fromP_snoc (k : Int) (l : List Pr) (i : Nat) (hi : i < l.length) : fromP k (l.take (i + 1)) = fromP k (l.take i) ++ (if k ≤ l[i].1 then [l[i]] else []) := by
  rw [List.take_succ_eq_append_getElem hi, fromP_app]
  congr 1
  unfold fromP
  rw [List.filter_cons]
  by_cases h : k ≤ l[i].1 <;> simp [h]
theorem vis_range : ∀ {l : List Pr} {lo hi k to : Int}, Up lo hi (keysP l) → vis to (fromP k l) = rangeP k to l
  | [], _, _, _, _, _ => rfl
  | p :: l, lo, hi, k, to, h => by
    obtain ⟨h1, h2, h3⟩ : lo ≤ p.1 ∧ p.1 < hi ∧ Up (p.1 + 1) hi (keysP l) := h
    have ih := vis_range (k := k) (to := to) h3
    unfold fromP rangeP at ih ⊢
    by_cases hk : k ≤ p.1
    · rw [List.filter_cons_of_pos (by simpa using hk)]
      by_cases ht : p.1 ≤ to
      · rw [List.filter_cons_of_pos (by simp [hk, ht]), ← ih]
        unfold vis
        rw [List.takeWhile_cons, if_pos (by simpa using ht)]
      · rw [List.filter_cons_of_neg (by simp [ht])]
        unfold vis
        rw [List.takeWhile_cons, if_neg (by simpa using ht)]
        symm
        refine filter_no fun q hq => ?_
        have := h3.mem (x := q.1) (List.mem_map.2 ⟨q, hq, rfl⟩)
        simp; omega
    · rw [List.filter_cons_of_neg (by simpa using hk), List.filter_cons_of_neg (by simp [hk])]
      exact ih
/-- The kids ahead of a key's way have lesser keys only. -/
theorem Ch.ahead {d : Nat} : ∀ {ks : List Int} {ts : List Tr} {lo hi : Int} (k : Int), Ch (In d) lo hi ks ts → ∀ p ∈ (ts.take (ub ks k)).flatMap (flat d), p.1 < k
  | [], ts, lo, hi, k, h, p, hp => by simp [ub] at hp
  | s :: ks, ts, lo, hi, k, ⟨t, ts', e, h1, h2, h3, h⟩, p, hp => by
    subst e
    unfold ub at hp
    split at hp
    · rename_i hs
      simp only [List.take_succ_cons, List.flatMap_cons, List.mem_append] at hp
      rcases hp with hp | hp
      · have := h3.up.mem (x := p.1) (List.mem_map.2 ⟨p, hp, rfl⟩); omega
      · exact h.ahead k p hp
    · simp at hp
theorem from_way {d : Nat} {ks : List Int} {ts : List Tr} {lo hi : Int} (k : Int) (h : Ch (In d) lo hi ks ts) : fromP k (ts.flatMap (flat d)) = fromP k ((ts.drop (ub ks k)).flatMap (flat d)) := by
  conv => lhs; rw [← List.take_append_drop (ub ks k) ts, List.flatMap_append, fromP_app]
  have : fromP k ((ts.take (ub ks k)).flatMap (flat d)) = [] := filter_no fun p hp => by have := h.ahead k p hp; simp; omega
  rw [this]; rfl
theorem flat_snoc {d : Nat} (ts : List Tr) (j : Nat) (hj : j < ts.length) : (ts.take (j + 1)).flatMap (flat d) = (ts.take j).flatMap (flat d) ++ flat d ts[j] := by
  rw [List.take_succ_eq_append_getElem hj, List.flatMap_append]; simp
theorem flat_part {d : Nat} (ts : List Tr) (j : Nat) (hj : j < ts.length) : ts.flatMap (flat d) = (ts.take j).flatMap (flat d) ++ (flat d ts[j] ++ (ts.drop (j + 1)).flatMap (flat d)) := by
  conv => lhs; rw [← List.take_append_drop j ts, List.drop_eq_getElem_cons hj, List.flatMap_append, List.flatMap_cons]
theorem len_take {d : Nat} (ts : List Tr) (j : Nat) : ((ts.take j).flatMap (flat d)).length ≤ (ts.flatMap (flat d)).length := by
  conv => rhs; rw [← List.take_append_drop j ts, List.flatMap_append, List.length_append]
  omega
theorem fromP_len (k : Int) (l : List Pr) : (fromP k l).length ≤ l.length := List.length_filter_le _ _
theorem vis_len (to : Int) (l : List Pr) : (vis to l).length ≤ l.length := (List.takeWhile_sublist _).length_le
end Go.Proofs.Ytdglignjoojimaa
