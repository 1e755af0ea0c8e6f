/- Search and a node's small functions. No conditions. -/
import Derived.Test.YtdglignjoojimaaB4
import Derived.Test.YtdglignjoojimaaT2
set_option linter.unusedVariables false
set_option linter.unusedSimpArgs false
namespace Go.Proofs.Ytdglignjoojimaa


/-- Keys, extents and addresses, laid in cells. -/
abbrev Ext := Int × Int
def kc (k : Int) : List Value := [.int .u64 k]
def xc (e : Ext) : List Value := [.int .i64 e.1, .int .i64 e.2]
def pc (b : Nat) : List Value := [.pointer (some ⟨b, 0, none⟩)]
theorem kcE : Enc kc 1 := ⟨fun _ => rfl, fun _ => rfl⟩
theorem xcE : Enc xc 2 := ⟨fun _ => rfl, fun _ => rfl⟩
theorem pcE : Enc pc 1 := ⟨fun _ => rfl, fun _ => rfl⟩
abbrev kcs (l : List Int) : List Value := l.flatMap kc
abbrev xcs (l : List Ext) : List Value := l.flatMap xc
abbrev pcs (l : List Nat) : List Value := l.flatMap pc
abbrev ptr (b : Nat) : Value := .pointer (some ⟨b, 0, none⟩)
/-- A node's block. -/
abbrev GN (b : Nat) (kv vv cv : Value) : Gr := [(b, .cells (List.toArray [kv, vv, cv]) 92 (0, 0))]
abbrev BK (v : Value) (l : List Int) (G : Gr) : Prop := Buf 23 1 v l.length (kcs l) G
abbrev BV (v : Value) (l : List Ext) (G : Gr) : Prop := Buf 34 2 v l.length (xcs l) G
abbrev BC (v : Value) (l : List Nat) (G : Gr) : Prop := Buf 83 1 v l.length (pcs l) G
/-- A node that is known for good: its keys, its extents, where its kids are. -/
def NodeAt (h : Hp) (b : Nat) (ks : List Int) (vs : List Ext) (bs : List Nat) : Prop :=
  ∃ kv vv cv, h b = some (.cells (List.toArray [kv, vv, cv]) 92 (0, 0)) ∧ SlR h [] kv ks.length (kcs ks) 1 ∧ SlR h [] vv vs.length (xcs vs) 2 ∧ SlR h [] cv bs.length (pcs bs) 1
theorem NodeAt.sub {h h' : Hp} {b : Nat} {ks : List Int} {vs : List Ext} {bs : List Nat} (n : NodeAt h b ks vs bs) (s : Sub h h') : NodeAt h' b ks vs bs :=
  let ⟨kv, vv, cv, a, b, c, d⟩ := n
  ⟨kv, vv, cv, s _ _ a, b.sub s, c.sub s, d.sub s⟩
theorem NodeAt.own {h : Hp} {b : Nat} {ks : List Int} {vs : List Ext} {bs : List Nat} {kv vv cv : Value} {Gk Gv Gc : Gr} (h0 : KnowG h (GN b kv vv cv)) (h1 : KnowG h Gk) (h2 : KnowG h Gv) (h3 : KnowG h Gc)
    (b1 : BK kv ks Gk) (b2 : BV vv vs Gv) (b3 : BC cv bs Gc) : NodeAt h b ks vs bs :=
  ⟨kv, vv, cv, h0 (b, .cells (List.toArray [kv, vv, cv]) 92 (0, 0)) (by simp), b1.known h1, b2.known h2, b3.known h3⟩
/-- A tree that is known for good. -/
def Rp (h : Hp) : Nat → Nat → Tr → Prop
  | 0, b, .leaf l => NodeAt h b (keysP l) (l.map (fun p => p.2)) []
  | d + 1, b, .node ks ts => ∃ bs, NodeAt h b ks [] bs ∧ All2 (Rp h d) bs ts
  | _, _, _ => False
theorem Rp.sub {h h' : Hp} (s : Sub h h') : ∀ {d b : Nat} {t : Tr}, Rp h d b t → Rp h' d b t
  | 0, b, .leaf l, r => NodeAt.sub r s
  | d + 1, b, .node ks ts, ⟨bs, n, a⟩ => ⟨bs, n.sub s, a.mono fun _ _ r => Rp.sub s r⟩
theorem keysP_len (l : List Pr) : (keysP l).length = l.length := by simp [keysP]
theorem kcs_app (a b : List Int) : kcs (a ++ b) = kcs a ++ kcs b := List.flatMap_append
theorem xcs_app (a b : List Ext) : xcs (a ++ b) = xcs a ++ xcs b := List.flatMap_append
theorem pcs_app (a b : List Nat) : pcs (a ++ b) = pcs a ++ pcs b := List.flatMap_append
theorem getD_at {l : List Int} {i : Nat} (h : i < l.length) : l.getD i 0 = l[i] := by simp [List.getD_eq_getElem?_getD, h]

set_option maxRecDepth 100000 in
theorem isNaN1 (a : Int) (h : Hp) : Con Try.prog 79 [.int .u64 a] h [] (fun r h' nb => r = .bool false ∧ h = h' ∧ nb = []) := by
  refine Con_of Try.func79 rfl Try.ntmps79 (Nat.le_of_ble_eq_true rfl) (fun w0 => ?_)
  refine V_seq ?_
  refine V_region ?_
  refine VL_still rfl rfl rfl (S_assign rfl) ?_
  refine VL_nil ?_
  refine VQ_then ?_
  refine V_seq ?_
  refine V_region ?_
  refine VL_still rfl rfl rfl (S_move rfl) ?_
  refine VL_still rfl rfl rfl (S_move rfl) ?_
  refine VL_still rfl rfl rfl (S_neq rfl rfl) ?_
  refine VL_still rfl rfl rfl (S_assign rfl) ?_
  refine VL_nil ?_
  refine VQ_then ?_
  refine V_ret ?_
  refine VQ_fin1 (nb := []) (by first | exact .inl rfl | exact .inr rfl) rfl (RV_tmp rfl) ?sb ?po
  case po =>
    exact ⟨by simp, rfl, rfl⟩
  case sb => exact (by repeat (first | exact SubB.nil | exact Pick.here | apply Pick.there | apply SubB.emp | apply SubB.cons))

set_option maxRecDepth 100000 in
theorem isNaN2 (a : Int) (h : Hp) : Con Try.prog 57 [.int .u64 a] h [] (fun r h' nb => r = .bool false ∧ h = h' ∧ nb = []) := by
  refine Con_of Try.func57 rfl Try.ntmps57 (Nat.le_of_ble_eq_true rfl) (fun w0 => ?_)
  refine V_seq ?_
  refine V_region ?_
  refine VL_still rfl rfl rfl (S_assign rfl) ?_
  refine VL_nil ?_
  refine VQ_then ?_
  refine V_seq ?_
  refine V_region ?_
  refine VL_still rfl rfl rfl (S_move rfl) ?_
  refine VL_still rfl rfl rfl (S_move rfl) ?_
  refine VL_still rfl rfl rfl (S_neq rfl rfl) ?_
  refine VL_still rfl rfl rfl (S_assign rfl) ?_
  refine VL_nil ?_
  refine VQ_then ?_
  refine V_ret ?_
  refine VQ_fin1 (nb := []) (by first | exact .inl rfl | exact .inr rfl) rfl (RV_tmp rfl) ?sb ?po
  case po =>
    exact ⟨by simp, rfl, rfl⟩
  case sb => exact (by repeat (first | exact SubB.nil | exact Pick.here | apply Pick.there | apply SubB.emp | apply SubB.cons))

set_option maxRecDepth 100000 in
theorem less_con (a b : Int) (h : Hp) : Con Try.prog 56 [.int .u64 a, .int .u64 b] h [] (fun r h' nb => r = .bool (decide (a < b)) ∧ h = h' ∧ nb = []) := by
  refine Con_of Try.func56 rfl Try.ntmps56 (Nat.le_of_ble_eq_true rfl) (fun w0 => ?_)
  refine V_seq ?_
  refine V_region ?_
  refine VL_still rfl rfl rfl (S_assign rfl) ?_
  refine VL_nil ?_
  refine VQ_then ?_
  refine V_seq ?_
  refine V_region ?_
  refine VL_still rfl rfl rfl (S_move rfl) ?_
  refine VL_eff rfl (E_call rfl rfl rfl Try.call79 (isNaN1 a h) (by repeat (first | exact Split.nil | exact Pick.here | apply Pick.there | apply Split.cons))) ?_
  rintro _ hh6 _ ⟨v6, nb6, ⟨rfl, rfl, rfl⟩, hs6, rfl, rfl⟩
  refine VL_still rfl rfl rfl (S_move rfl) ?_
  refine VL_bool 7 rfl (fun hc7 => ?_) (fun hc7 => ?_)
  · skip
    simp at hc7
  · skip
    refine VL_skip rfl rfl rfl ?_
    refine VL_skip rfl rfl rfl ?_
    refine VL_skip rfl rfl rfl ?_
    first | refine VL_still rfl rfl rfl (S_pick_t rfl rfl) ?_ | refine VL_still rfl rfl rfl (S_pick_f rfl rfl) ?_
    refine VL_still rfl rfl rfl (S_move rfl) ?_
    refine VL_still rfl rfl rfl (S_move rfl) ?_
    refine VL_still rfl rfl rfl (S_move rfl) ?_
    refine VL_still rfl rfl rfl (S_lss rfl rfl) ?_
    first | refine VL_still rfl rfl rfl (S_pick_t rfl rfl) ?_ | refine VL_still rfl rfl rfl (S_pick_f rfl rfl) ?_
    refine VL_still rfl rfl rfl (S_assign rfl) ?_
    refine VL_nil ?_
    refine VQ_then ?_
    refine V_ret ?_
    refine VQ_fin1 (nb := []) (by first | exact .inl rfl | exact .inr rfl) rfl (RV_tmp rfl) ?sb ?po
    case po =>
      exact ⟨by simp, rfl, rfl⟩
    case sb => exact (by repeat (first | exact SubB.nil | exact Pick.here | apply Pick.there | apply SubB.emp | apply SubB.cons))

set_option maxRecDepth 100000 in
theorem bs_con (v : Value) (ks : List Int) (k lo hi : Int) (h : Hp) (hs : SlR h [] v ks.length (kcs ks) 1) (hu : Up lo hi ks) (hn : ks.length ≤ 1000000) : Con Try.prog 41 [v, .int .u64 k] h [] (fun r h' nb => r = .tuple #[.int .i64 (lb ks k : Nat), .bool (decide (ks[lb ks k]? = some k))] ∧ h = h' ∧ nb = []) := by
  obtain ⟨A, cap, rfl, hle, hmx⟩ := hs.form
  refine Con_of Try.func41 rfl Try.ntmps41 (Nat.le_of_ble_eq_true rfl) (fun w0 => ?_)
  refine V_seq ?_
  refine V_region ?_
  refine VL_still rfl rfl rfl (S_assign rfl) ?_
  refine VL_still rfl rfl rfl (S_assign rfl) ?_
  refine VL_nil ?_
  refine VQ_then ?_
  refine V_seq ?_
  refine V_region ?_
  refine VL_still rfl rfl rfl (S_move rfl) ?_
  refine VL_still rfl rfl rfl (S_len Try.underlying88 rfl) ?_
  refine VL_still rfl rfl rfl (S_assign rfl) ?_
  refine VL_nil ?_
  refine VQ_then ?_
  refine V_seq ?_
  refine V_region ?_
  refine VL_still rfl rfl rfl (S_move rfl) ?_
  refine VL_still rfl rfl rfl (S_assign rfl) ?_
  refine VL_still rfl rfl rfl (S_assign rfl) ?_
  refine VL_nil ?_
  refine VQ_then ?_
  refine V_seq ?_
  refine V_block ?_
  refine V_loop (ι := Nat × Nat) (fun x => x.2 - x.1) (fun (i, j) => i ≤ j ∧ j ≤ ks.length ∧ (∀ q (hq : q < ks.length), q < i → ks[q] < k) ∧ (∀ q (hq : q < ks.length), j ≤ q → k ≤ ks[q])) (fun (i, j) => [(0, .slice A ks.length cap), (1, .int .u64 k), (6, .int .i64 (ks.length : Nat)), (7, .int .i64 (i : Nat)), (8, .int .i64 (j : Nat))]) (fun _ => h) (fun _ => []) (0, ks.length) ⟨Nat.zero_le _, Nat.le_refl _, fun q hq h => absurd h (by omega), fun q hq h => absurd h (by omega)⟩ (by repeat (first | exact trivial | refine ⟨rfl, ?_⟩)) rfl SubB.nil (fun ⟨i, j⟩ hi => ?_)
  obtain ⟨hi1, hi2, hi3, hi4⟩ := hi
  simp only at hi1 hi2 hi3 hi4 ⊢
  refine V_seq ?_
  refine V_seq ?_
  refine V_region ?_
  refine VL_still rfl rfl rfl (S_move rfl) ?_
  refine VL_still rfl rfl rfl (S_move rfl) ?_
  refine VL_still rfl rfl rfl (S_lss rfl rfl) ?_
  refine VL_nil ?_
  refine VQ_then ?_
  refine V_cond rfl (fun hc15 => ?_) (fun hc15 => ?_)
  · skip
    have hij : i < j := by
      have := of_decide_eq_true hc15
      omega
    have hm : (i + j) / 2 < ks.length := by omega
    obtain ⟨bb, off, cap', e1, hc⟩ := hs.at_ kcE rfl hm
    cases e1
    refine V_skip ?_
    refine VQ_then ?_
    refine V_block ?_
    refine V_seq ?_
    refine V_region ?_
    refine VL_still rfl rfl rfl (S_move rfl) ?_
    refine VL_still rfl rfl rfl (S_move rfl) ?_
    refine VL_still rfl rfl rfl (S_addn i j rfl rfl (by omega)) ?_
    refine VL_still rfl rfl rfl (S_convu Try.underlying3 Try.underlying130 rfl (by omega) (by omega)) ?_
    refine VL_still rfl rfl rfl (S_half rfl rfl (by omega)) ?_
    refine VL_still rfl rfl rfl (S_convi Try.underlying130 Try.underlying3 rfl (by omega) (by omega)) ?_
    rw [show (((i + j : Nat) : Int) / 2) = (((i + j) / 2 : Nat) : Int) by omega]
    refine VL_still rfl rfl rfl (S_assign rfl) ?_
    refine VL_nil ?_
    refine VQ_then ?_
    refine V_seq ?_
    refine V_region ?_
    refine VL_still rfl rfl rfl (S_move rfl) ?_
    refine VL_still rfl rfl rfl (S_move rfl) ?_
    refine VL_still rfl rfl rfl (X_at ((i + j) / 2) Try.underlying88 tx23 rfl rfl hm) ?_
    refine VL_still rfl rfl rfl (S_load Try.underlying23 rfl rfl hc.1) ?_
    refine VL_still rfl rfl rfl (S_move rfl) ?_
    refine VL_eff rfl (E_call rfl rfl rfl Try.call56 (less_con ks[(i + j) / 2] k h) (by repeat (first | exact Split.nil | exact Pick.here | apply Pick.there | apply Split.cons))) ?_
    rintro _ hh27 _ ⟨v27, nb27, ⟨rfl, rfl, rfl⟩, hs27, rfl, rfl⟩
    refine VL_nil ?_
    refine VQ_then ?_
    refine V_cond rfl (fun hc27 => ?_) (fun hc27 => ?_)
    · skip
      have hlt : ks[(i + j) / 2] < k := of_decide_eq_true hc27
      refine V_region ?_
      refine VL_still rfl rfl rfl (S_move rfl) ?_
      refine VL_still rfl rfl rfl (S_addn ((i + j) / 2) 1 rfl rfl (by omega)) ?_
      refine VL_still rfl rfl rfl (S_assign rfl) ?_
      refine VL_nil ?_
      refine VQ_block_normal ?_
      refine VQ_mid ((i + j) / 2 + 1, j) ⟨⟨by omega, hi2, fun q hq hq' => ?_, hi4⟩, by simp only; omega⟩ (by repeat (first | exact trivial | refine ⟨rfl, ?_⟩)) rfl SubB.nil
      rcases Nat.lt_or_ge q ((i + j) / 2) with h1 | h1
      · exact Int.lt_of_le_of_lt (Up.get_le hu h1 hm) hlt
      · obtain rfl : q = (i + j) / 2 := by omega
        exact hlt
    · skip
      have hge : k ≤ ks[(i + j) / 2] := by
        have := of_decide_eq_false hc27
        omega
      refine V_region ?_
      refine VL_still rfl rfl rfl (S_move rfl) ?_
      refine VL_still rfl rfl rfl (S_assign rfl) ?_
      refine VL_nil ?_
      refine VQ_block_normal ?_
      refine VQ_mid (i, (i + j) / 2) ⟨⟨by omega, by omega, hi3, fun q hq hq' => ?_⟩, by simp only; omega⟩ (by repeat (first | exact trivial | refine ⟨rfl, ?_⟩)) rfl SubB.nil
      rcases Nat.lt_or_ge ((i + j) / 2) q with h1 | h1
      · exact Int.le_trans hge (Up.get_le hu h1 hq)
      · obtain rfl : q = (i + j) / 2 := by omega
        exact hge
  · skip
    obtain rfl : i = j := by
      have := of_decide_eq_false hc15
      omega
    obtain rfl : lb ks k = i := lb_of hi2 hi3 hi4
    refine V_exit ?_
    refine VQ_then_exit ?_
    refine VQ_then_exit ?_
    refine VQ_block_exit ?_
    refine VQ_then ?_
    refine V_seq ?_
    refine V_region ?_
    refine VL_still rfl rfl rfl (S_move rfl) ?_
    refine VL_still rfl rfl rfl (S_move rfl) ?_
    refine VL_still rfl rfl rfl (S_move rfl) ?_
    refine VL_still rfl rfl rfl (S_lss rfl rfl) ?_
    refine VL_still rfl rfl rfl (S_move rfl) ?_
    refine VL_bool 35 rfl (fun hc35 => ?_) (fun hc35 => ?_)
    · skip
      have hlt : lb ks k < ks.length := by
        have := of_decide_eq_true hc35
        omega
      obtain ⟨bb, off, cap', e1, hc⟩ := hs.at_ kcE rfl hlt
      cases e1
      refine VL_still rfl rfl rfl (S_move rfl) ?_
      refine VL_still rfl rfl rfl (S_move rfl) ?_
      refine VL_still rfl rfl rfl (X_at (lb ks k) Try.underlying88 tx23 rfl rfl hlt) ?_
      refine VL_still rfl rfl rfl (S_load Try.underlying23 rfl rfl hc.1) ?_
      refine VL_still rfl rfl rfl (S_move rfl) ?_
      refine VL_still rfl rfl rfl (S_eql rfl rfl) ?_
      refine VL_still rfl rfl rfl (S_move rfl) ?_
      refine VL_bool 42 rfl (fun hc42 => ?_) (fun hc42 => ?_)
      · skip
        refine VL_skip rfl rfl rfl ?_
        refine VL_skip rfl rfl rfl ?_
        refine VL_skip rfl rfl rfl ?_
        refine VL_skip rfl rfl rfl ?_
        refine VL_skip rfl rfl rfl ?_
        refine VL_skip rfl rfl rfl ?_
        refine VL_skip rfl rfl rfl ?_
        refine VL_skip rfl rfl rfl ?_
        refine VL_skip rfl rfl rfl ?_
        first | refine VL_still rfl rfl rfl (S_pick_t rfl rfl) ?_ | refine VL_still rfl rfl rfl (S_pick_f rfl rfl) ?_
        first | refine VL_still rfl rfl rfl (S_pick_t rfl rfl) ?_ | refine VL_still rfl rfl rfl (S_pick_f rfl rfl) ?_
        refine VL_still rfl rfl rfl (S_assign rfl) ?_
        refine VL_still rfl rfl rfl (S_assign rfl) ?_
        refine VL_nil ?_
        refine VQ_then ?_
        refine V_ret ?_
        refine VQ_fin2 (nb := []) (by first | exact .inl rfl | exact .inr rfl) rfl (RV_tmp rfl) (RV_tmp rfl) ?sb ?po
        case po =>
          have e : ks[lb ks k] = k := of_decide_eq_true hc42
          refine ⟨?_, rfl, rfl⟩
          rw [show decide (ks[lb ks k]? = some k) = true from decide_eq_true (by rw [List.getElem?_eq_getElem hlt, e])]
        case sb => exact (by repeat (first | exact SubB.nil | exact Pick.here | apply Pick.there | apply SubB.emp | apply SubB.cons))
      · skip
        refine VL_still rfl rfl rfl (S_move rfl) ?_
        refine VL_still rfl rfl rfl (S_move rfl) ?_
        refine VL_still rfl rfl rfl (X_at (lb ks k) Try.underlying88 tx23 rfl rfl hlt) ?_
        refine VL_still rfl rfl rfl (S_load Try.underlying23 rfl rfl hc.1) ?_
        refine VL_eff rfl (E_call rfl rfl rfl Try.call57 (isNaN2 ks[lb ks k] h) (by repeat (first | exact Split.nil | exact Pick.here | apply Pick.there | apply Split.cons))) ?_
        rintro _ hh47 _ ⟨v47, nb47, ⟨rfl, rfl, rfl⟩, hs47, rfl, rfl⟩
        refine VL_still rfl rfl rfl (S_move rfl) ?_
        refine VL_bool 48 rfl (fun hc48 => ?_) (fun hc48 => ?_)
        · skip
          simp at hc48
        · skip
          refine VL_skip rfl rfl rfl ?_
          refine VL_skip rfl rfl rfl ?_
          first | refine VL_still rfl rfl rfl (S_pick_t rfl rfl) ?_ | refine VL_still rfl rfl rfl (S_pick_f rfl rfl) ?_
          first | refine VL_still rfl rfl rfl (S_pick_t rfl rfl) ?_ | refine VL_still rfl rfl rfl (S_pick_f rfl rfl) ?_
          first | refine VL_still rfl rfl rfl (S_pick_t rfl rfl) ?_ | refine VL_still rfl rfl rfl (S_pick_f rfl rfl) ?_
          refine VL_still rfl rfl rfl (S_assign rfl) ?_
          refine VL_still rfl rfl rfl (S_assign rfl) ?_
          refine VL_nil ?_
          refine VQ_then ?_
          refine V_ret ?_
          refine VQ_fin2 (nb := []) (by first | exact .inl rfl | exact .inr rfl) rfl (RV_tmp rfl) (RV_tmp rfl) ?sb ?po
          case po =>
            have e : ¬ ks[lb ks k] = k := of_decide_eq_false hc42
            refine ⟨?_, rfl, rfl⟩
            rw [show decide (ks[lb ks k]? = some k) = false from decide_eq_false (by rw [List.getElem?_eq_getElem hlt]; simpa using e)]
          case sb => exact (by repeat (first | exact SubB.nil | exact Pick.here | apply Pick.there | apply SubB.emp | apply SubB.cons))
    · skip
      have hge : ¬ lb ks k < ks.length := by
        have := of_decide_eq_false hc35
        omega
      refine VL_skip rfl rfl rfl ?_
      refine VL_skip rfl rfl rfl ?_
      refine VL_skip rfl rfl rfl ?_
      refine VL_skip rfl rfl rfl ?_
      refine VL_skip rfl rfl rfl ?_
      refine VL_skip rfl rfl rfl ?_
      refine VL_skip rfl rfl rfl ?_
      refine VL_skip rfl rfl rfl ?_
      refine VL_skip rfl rfl rfl ?_
      refine VL_skip rfl rfl rfl ?_
      refine VL_skip rfl rfl rfl ?_
      refine VL_skip rfl rfl rfl ?_
      refine VL_skip rfl rfl rfl ?_
      refine VL_skip rfl rfl rfl ?_
      refine VL_skip rfl rfl rfl ?_
      refine VL_skip rfl rfl rfl ?_
      refine VL_skip rfl rfl rfl ?_
      first | refine VL_still rfl rfl rfl (S_pick_t rfl rfl) ?_ | refine VL_still rfl rfl rfl (S_pick_f rfl rfl) ?_
      refine VL_still rfl rfl rfl (S_assign rfl) ?_
      refine VL_still rfl rfl rfl (S_assign rfl) ?_
      refine VL_nil ?_
      refine VQ_then ?_
      refine V_ret ?_
      refine VQ_fin2 (nb := []) (by first | exact .inl rfl | exact .inr rfl) rfl (RV_tmp rfl) (RV_tmp rfl) ?sb ?po
      case po =>
        refine ⟨?_, rfl, rfl⟩
        rw [show decide (ks[lb ks k]? = some k) = false from decide_eq_false (by rw [List.getElem?_eq_none (by omega)]; simp)]
      case sb => exact (by repeat (first | exact SubB.nil | exact Pick.here | apply Pick.there | apply SubB.emp | apply SubB.cons))

set_option maxRecDepth 100000 in
theorem leaf_con (b : Nat) (ks : List Int) (vs : List Ext) (bs : List Nat) (h : Hp) (hN : NodeAt h b ks vs bs) : Con Try.prog 39 [ptr b] h [] (fun r h' nb => r = .bool (decide (bs = [])) ∧ h = h' ∧ nb = []) := by
  obtain ⟨kv, vv, cv, hb, hk, hv, hc⟩ := hN
  obtain ⟨A, cap, rfl, hle, hmx⟩ := hk.form
  obtain ⟨Av, capv, rfl, hlev, hmxv⟩ := hv.form
  obtain ⟨Ac, capc, rfl, hlec, hmxc⟩ := hc.form
  refine Con_of Try.func39 rfl Try.ntmps39 (Nat.le_of_ble_eq_true rfl) (fun w0 => ?_)
  refine V_seq ?_
  refine V_region ?_
  refine VL_still rfl rfl rfl (S_assign rfl) ?_
  refine VL_nil ?_
  refine VQ_then ?_
  refine V_seq ?_
  refine V_region ?_
  refine VL_still rfl rfl rfl (S_move rfl) ?_
  refine VL_still rfl rfl rfl (S_nil rfl) ?_
  refine VL_still rfl rfl rfl (S_field (k := 2) Try.underlying92 rfl rfl ti90 rfl rfl) ?_
  first | refine VL_still rfl rfl rfl (S_load Try.underlying90 rfl rfl (Cell.trk (by repeat (first | exact Has.here | apply Has.there)) rfl)) ?_ | refine VL_still rfl rfl rfl (S_load Try.underlying90 rfl rfl (Cell.known (by first | assumption | exact (by assumption : Sub _ _) _ _ (by assumption) | exact (Sub.trans (by assumption) (by assumption)) _ _ (by assumption)) rfl)) ?_
  refine VL_still rfl rfl rfl (S_len Try.underlying90 rfl) ?_
  refine VL_still rfl rfl rfl (S_eql rfl rfl) ?_
  refine VL_still rfl rfl rfl (S_assign rfl) ?_
  refine VL_nil ?_
  refine VQ_then ?_
  refine V_ret ?_
  refine VQ_fin1 (nb := []) (by first | exact .inl rfl | exact .inr rfl) rfl (RV_tmp rfl) ?sb ?po
  case po =>
    refine ⟨?_, rfl, rfl⟩
    congr 1
    rw [decide_eq_decide]
    cases bs <;> simp <;> omega
  case sb => exact (by repeat (first | exact SubB.nil | exact Pick.here | apply Pick.there | apply SubB.emp | apply SubB.cons))

set_option maxRecDepth 100000 in
theorem way_con (b : Nat) (ks : List Int) (vs : List Ext) (bs : List Nat) (h : Hp) (hN : NodeAt h b ks vs bs) (k lo hi : Int) (hu : Up lo hi ks) (hn : ks.length ≤ 1000000) : Con Try.prog 40 [ptr b, .int .u64 k] h [] (fun r h' nb => r = .int .i64 (ub ks k : Nat) ∧ h = h' ∧ nb = []) := by
  obtain ⟨kv, vv, cv, hb, hk, hv, hc⟩ := hN
  obtain ⟨A, cap, rfl, hle, hmx⟩ := hk.form
  obtain ⟨Av, capv, rfl, hlev, hmxv⟩ := hv.form
  obtain ⟨Ac, capc, rfl, hlec, hmxc⟩ := hc.form
  refine Con_of Try.func40 rfl Try.ntmps40 (Nat.le_of_ble_eq_true rfl) (fun w0 => ?_)
  refine V_seq ?_
  refine V_region ?_
  refine VL_still rfl rfl rfl (S_assign rfl) ?_
  refine VL_nil ?_
  refine VQ_then ?_
  refine V_seq ?_
  refine V_region ?_
  refine VL_still rfl rfl rfl (S_move rfl) ?_
  refine VL_still rfl rfl rfl (S_nil rfl) ?_
  refine VL_still rfl rfl rfl (S_field (k := 0) Try.underlying92 rfl rfl ti88 rfl rfl) ?_
  first | refine VL_still rfl rfl rfl (S_load Try.underlying88 rfl rfl (Cell.trk (by repeat (first | exact Has.here | apply Has.there)) rfl)) ?_ | refine VL_still rfl rfl rfl (S_load Try.underlying88 rfl rfl (Cell.known (by first | assumption | exact (by assumption : Sub _ _) _ _ (by assumption) | exact (Sub.trans (by assumption) (by assumption)) _ _ (by assumption)) rfl)) ?_
  refine VL_still rfl rfl rfl (S_move rfl) ?_
  refine VL_eff rfl (E_call rfl rfl rfl Try.call41 (bs_con _ ks k lo hi h hk hu hn) (by repeat (first | exact Split.nil | exact Pick.here | apply Pick.there | apply Split.cons))) ?_
  rintro _ hh13 _ ⟨v13, nb13, ⟨rfl, rfl, rfl⟩, hs13, rfl, rfl⟩
  refine VL_still rfl rfl rfl (S_move rfl) ?_
  refine VL_still rfl rfl rfl (S_extract rfl rfl) ?_
  refine VL_still rfl rfl rfl (S_extract rfl rfl) ?_
  refine VL_still rfl rfl rfl (S_assign rfl) ?_
  refine VL_still rfl rfl rfl (S_assign rfl) ?_
  refine VL_nil ?_
  refine VQ_then ?_
  refine V_seq ?_
  refine V_seq ?_
  refine V_region ?_
  refine VL_still rfl rfl rfl (S_move rfl) ?_
  refine VL_nil ?_
  refine VQ_then ?_
  refine V_cond rfl (fun hc16 => ?_) (fun hc16 => ?_)
  · skip
    have e : ub ks k = lb ks k + 1 := by rw [ub_eq hu, if_pos (of_decide_eq_true hc16)]
    refine V_region ?_
    refine VL_still rfl rfl rfl (S_move rfl) ?_
    refine VL_still rfl rfl rfl (S_addn (lb ks k) 1 rfl rfl (by have := lb_le ks k; omega)) ?_
    refine VL_still rfl rfl rfl (S_assign rfl) ?_
    refine VL_nil ?_
    refine VQ_then ?_
    refine V_seq ?_
    refine V_region ?_
    refine VL_still rfl rfl rfl (S_move rfl) ?_
    refine VL_still rfl rfl rfl (S_assign rfl) ?_
    refine VL_nil ?_
    refine VQ_then ?_
    refine V_ret ?_
    refine VQ_fin1 (nb := []) (by first | exact .inl rfl | exact .inr rfl) rfl (RV_tmp rfl) ?sb ?po
    case po =>
      exact ⟨by rw [e], rfl, rfl⟩
    case sb => exact (by repeat (first | exact SubB.nil | exact Pick.here | apply Pick.there | apply SubB.emp | apply SubB.cons))
  · skip
    have e : ub ks k = lb ks k := by rw [ub_eq hu, if_neg (of_decide_eq_false hc16)]
    refine V_skip ?_
    refine VQ_then ?_
    refine V_seq ?_
    refine V_region ?_
    refine VL_still rfl rfl rfl (S_move rfl) ?_
    refine VL_still rfl rfl rfl (S_assign rfl) ?_
    refine VL_nil ?_
    refine VQ_then ?_
    refine V_ret ?_
    refine VQ_fin1 (nb := []) (by first | exact .inl rfl | exact .inr rfl) rfl (RV_tmp rfl) ?sb ?po
    case po =>
      exact ⟨by rw [e], rfl, rfl⟩
    case sb => exact (by repeat (first | exact SubB.nil | exact Pick.here | apply Pick.there | apply SubB.emp | apply SubB.cons))

end Go.Proofs.Ytdglignjoojimaa
