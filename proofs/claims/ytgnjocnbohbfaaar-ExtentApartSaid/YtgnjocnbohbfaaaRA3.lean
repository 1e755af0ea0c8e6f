/- Contracts of package extent, part 2. No conditions. -/
import Derived.Test.YtgnjocnbohbfaaaRA2
set_option linter.unusedVariables false
namespace Go.Proofs.YtgnjocnbohbfaaaR

abbrev Ex := Int × Int
def xc (e : Ex) : List Value := [.int .i64 e.1, .int .i64 e.2]
theorem xcE : Enc xc 2 := ⟨fun _ => rfl, fun _ => rfl⟩
abbrev xcs (l : List Ex) : List Value := l.flatMap xc

set_option maxRecDepth 100000 in
theorem idx_con (v : Value) (l : List Ex) (f be : Nat) (s n : Int) (pf : Int → Int → Bool) (G : Gr) (h : Hp) (hs : SlR h [G] v l.length (xcs l) 2) (hn : l.length ≤ 1000000) (hcf : ∀ args w, (callFunc f args).run Try.prog w = .ok (.enter f args) w) (hf : ∀ a b, Con Try.prog f [xt a b, .pointer (some ⟨be, 0, none⟩)] h [[(be, .cells (List.toArray [.int .i64 s, .int .i64 n]) 27 (0, 0))]] (fun v h' nb => v = .bool (pf a b) ∧ h = h' ∧ nb = [[(be, .cells (List.toArray [.int .i64 s, .int .i64 n]) 27 (0, 0))]])) : Con Try.prog 31 [v, .func (.func f) (List.toArray []) (List.toArray [.pointer (some ⟨be, 0, none⟩)])] h [G, [(be, .cells (List.toArray [.int .i64 s, .int .i64 n]) 27 (0, 0))]] (fun r h' nb => ∃ k : Int, r = .int .i64 k ∧ decide (0 ≤ k) = l.any (fun e => pf e.1 e.2) ∧ h = h' ∧ nb = [G, [(be, .cells (List.toArray [.int .i64 s, .int .i64 n]) 27 (0, 0))]]) := by
  obtain ⟨A, cap, rfl, hle, hmx⟩ := hs.form
  refine Con_of Try.func31 rfl Try.ntmps31 (Nat.le_of_ble_eq_true rfl) (fun w0 => ?_)
  refine V_seq ?_
  refine V_region ?_
  refine VL_still rfl rfl rfl (S_assign rfl) ?_
  refine VL_nil ?_
  refine VQ_then ?_
  refine V_seq ?_
  refine V_seq ?_
  refine V_region ?_
  refine VL_still rfl rfl rfl (S_move rfl) ?_
  refine VL_still rfl rfl rfl (S_len Try.underlying35 rfl) ?_
  refine VL_still rfl rfl rfl (S_move rfl) ?_
  refine VL_nil ?_
  refine VQ_then ?_
  refine V_block ?_
  refine V_loop (ι := Nat) (fun i => l.length - i) (fun i => i ≤ l.length ∧ ∀ j (hj : j < l.length), j < i → pf l[j].1 l[j].2 = false) (fun i => [(0, .slice A l.length cap), (1, .func (.func f) (List.toArray []) (List.toArray [.pointer (some ⟨be, 0, none⟩)])), (7, .int .i64 l.length), (8, .int .i64 i)]) (fun _ => h) (fun _ => [G, [(be, .cells (List.toArray [.int .i64 s, .int .i64 n]) 27 (0, 0))]]) 0 ⟨Nat.zero_le _, fun j hj hj' => absurd hj' (by omega)⟩ (by repeat (first | exact trivial | refine ⟨rfl, ?_⟩)) rfl (by repeat (first | exact SubB.nil | exact Pick.here | apply Pick.there | apply SubB.emp | apply SubB.cons)) (fun i hi => ?_)
  obtain ⟨hi1, hi2⟩ := hi
  refine V_seq ?_
  refine V_region ?_
  refine VL_still rfl rfl rfl (S_lss rfl rfl) ?_
  refine VL_nil ?_
  refine VQ_then ?_
  refine V_seq ?_
  refine V_cond rfl (fun hc9 => ?_) (fun hc9 => ?_)
  · skip
    have hlt : i < l.length := by
      have := of_decide_eq_true hc9
      omega
    obtain ⟨bb, off, cap', e1, hc⟩ := hs.at_ xcE rfl hlt
    cases e1
    refine V_skip ?_
    refine VQ_then ?_
    refine V_seq ?_
    refine V_block ?_
    refine V_seq ?_
    refine V_region ?_
    refine VL_still rfl rfl rfl (S_move rfl) ?_
    refine VL_still rfl rfl rfl (S_assign rfl) ?_
    refine VL_nil ?_
    refine VQ_then ?_
    refine V_seq ?_
    refine V_region ?_
    refine VL_still rfl rfl rfl (S_move rfl) ?_
    refine VL_still rfl rfl rfl (S_move rfl) ?_
    refine VL_still rfl rfl rfl (S_move rfl) ?_
    refine VL_still rfl rfl rfl (X_at i Try.underlying35 tx27 rfl rfl hlt) ?_
    refine VL_still rfl rfl rfl (S_loads (vs := xc l[i]) Try.underlying27 rfl ti27 rfl rfl (hc.mono (Sub.refl _) (fun q hq => by simp at hq ⊢; simp [hq]))) ?_
    refine VL_eff rfl (E_call rfl rfl rfl hcf (hf _ _) (by repeat (first | exact Split.nil | exact Pick.here | apply Pick.there | apply Split.cons))) ?_
    rintro _ _ _ ⟨v16, nb16, ⟨rfl, rfl, rfl⟩, hs16, rfl, rfl⟩
    refine VL_nil ?_
    refine VQ_then ?_
    refine V_cond rfl (fun hc16 => ?_) (fun hc16 => ?_)
    · skip
      have hpf : pf l[i].1 l[i].2 = true := hc16
      refine V_seq ?_
      refine V_region ?_
      refine VL_still rfl rfl rfl (S_move rfl) ?_
      refine VL_still rfl rfl rfl (S_assign rfl) ?_
      refine VL_nil ?_
      refine VQ_then ?_
      refine V_ret ?_
      refine VQ_block_ret ?_
      refine VQ_then_ret ?_
      refine VQ_then_ret ?_
      refine VQ_block_ret ?_
      refine VQ_then_ret ?_
      refine VQ_fin1 (nb := [G, [(be, .cells (List.toArray [.int .i64 s, .int .i64 n]) 27 (0, 0))]]) (by first | exact .inl rfl | exact .inr rfl) rfl (RV_tmp rfl) ?sb ?po
      case po =>
        refine ⟨_, rfl, ?_, rfl, rfl⟩
        rw [decide_eq_true (by omega)]
        exact (List.any_eq_true.2 ⟨l[i], List.getElem_mem hlt, hpf⟩).symm
      case sb => exact (by repeat (first | exact SubB.nil | exact Pick.here | apply Pick.there | apply SubB.emp | apply SubB.cons))
    · skip
      have hpf : pf l[i].1 l[i].2 = false := hc16
      refine V_skip ?_
      refine VQ_block_normal ?_
      refine VQ_then ?_
      refine V_region ?_
      first | refine VL_still rfl rfl rfl (S_addi rfl rfl (by omega) (by omega)) ?_ | refine VL_still rfl rfl rfl (S_add rfl rfl) ?_
      refine VL_still rfl rfl rfl (S_move rfl) ?_
      refine VL_nil ?_
      refine VQ_mid (i + 1) ⟨⟨by omega, fun j hj hj' => ?_⟩, by omega⟩ (by repeat (first | exact trivial | refine ⟨rfl, ?_⟩)) rfl (by repeat (first | exact SubB.nil | exact Pick.here | apply Pick.there | apply SubB.emp | apply SubB.cons))
      rcases Nat.lt_or_ge j i with hlt' | hge
      · exact hi2 j hj hlt'
      · obtain rfl : j = i := by omega
        exact hpf
  · skip
    refine V_exit ?_
    refine VQ_then_exit ?_
    refine VQ_then_exit ?_
    refine VQ_block_exit ?_
    refine VQ_then ?_
    refine V_seq ?_
    refine V_region ?_
    refine VL_still rfl rfl rfl (S_assign rfl) ?_
    refine VL_nil ?_
    refine VQ_then ?_
    refine V_ret ?_
    refine VQ_fin1 (nb := [G, [(be, .cells (List.toArray [.int .i64 s, .int .i64 n]) 27 (0, 0))]]) (by first | exact .inl rfl | exact .inr rfl) rfl (RV_tmp rfl) ?sb ?po
    case po =>
      refine ⟨_, rfl, ?_, rfl, rfl⟩
      have hge : i = l.length := by
        have := of_decide_eq_false hc9
        omega
      rw [decide_eq_false (by omega)]
      symm
      rw [List.any_eq_false]
      intro x hx
      obtain ⟨j, hj, rfl⟩ := List.getElem_of_mem hx
      simp [hi2 j hj (by omega)]
    case sb => exact (by repeat (first | exact SubB.nil | exact Pick.here | apply Pick.there | apply SubB.emp | apply SubB.cons))

set_option maxRecDepth 100000 in
theorem has_con (v : Value) (l : List Ex) (f be : Nat) (s n : Int) (pf : Int → Int → Bool) (G : Gr) (h : Hp) (hs : SlR h [G] v l.length (xcs l) 2) (hn : l.length ≤ 1000000) (hcf : ∀ args w, (callFunc f args).run Try.prog w = .ok (.enter f args) w) (hf : ∀ a b, Con Try.prog f [xt a b, .pointer (some ⟨be, 0, none⟩)] h [[(be, .cells (List.toArray [.int .i64 s, .int .i64 n]) 27 (0, 0))]] (fun v h' nb => v = .bool (pf a b) ∧ h = h' ∧ nb = [[(be, .cells (List.toArray [.int .i64 s, .int .i64 n]) 27 (0, 0))]])) : Con Try.prog 26 [v, .func (.func f) (List.toArray []) (List.toArray [.pointer (some ⟨be, 0, none⟩)])] h [G, [(be, .cells (List.toArray [.int .i64 s, .int .i64 n]) 27 (0, 0))]] (fun r h' nb => r = .bool (l.any (fun e => pf e.1 e.2)) ∧ h = h' ∧ nb = [G, [(be, .cells (List.toArray [.int .i64 s, .int .i64 n]) 27 (0, 0))]]) := by
  obtain ⟨A, cap, rfl, hle, hmx⟩ := hs.form
  refine Con_of Try.func26 rfl Try.ntmps26 (Nat.le_of_ble_eq_true rfl) (fun w0 => ?_)
  refine V_seq ?_
  refine V_region ?_
  refine VL_still rfl rfl rfl (S_assign rfl) ?_
  refine VL_nil ?_
  refine VQ_then ?_
  refine V_seq ?_
  refine V_region ?_
  refine VL_still rfl rfl rfl (S_move rfl) ?_
  refine VL_still rfl rfl rfl (S_move rfl) ?_
  refine VL_eff rfl (E_call rfl rfl rfl Try.call31 (idx_con _ l f be s n pf G h hs hn hcf hf) (by repeat (first | exact Split.nil | exact Pick.here | apply Pick.there | apply Split.cons))) ?_
  rintro _ _ _ ⟨v7, nb7, ⟨k7, rfl, hk7, rfl, rfl⟩, hs7, rfl, rfl⟩
  refine VL_still rfl rfl rfl (S_geq rfl rfl) ?_
  refine VL_still rfl rfl rfl (S_assign rfl) ?_
  refine VL_nil ?_
  refine VQ_then ?_
  refine V_ret ?_
  refine VQ_fin1 (nb := [G, [(be, .cells (List.toArray [.int .i64 s, .int .i64 n]) 27 (0, 0))]]) (by first | exact .inl rfl | exact .inr rfl) rfl (RV_tmp rfl) ?sb ?po
  case po =>
    exact ⟨by rw [hk7], rfl, rfl⟩
  case sb => exact (by repeat (first | exact SubB.nil | exact Pick.here | apply Pick.there | apply SubB.emp | apply SubB.cons))

set_option maxRecDepth 100000 in
theorem within_con (v : Value) (l : List Ex) (s n : Int) (G : Gr) (h : Hp) (hs : SlR h [G] v l.length (xcs l) 2) (hn : l.length ≤ 1000000) : Con Try.prog 20 [v, xt s n] h [G] (fun r h' nb => r = .bool (l.any (fun e => (fun a b => decide (a ≤ s) && decide (IntKind.i64.wrap (s + n) ≤ IntKind.i64.wrap (a + b))) e.1 e.2)) ∧ h = h' ∧ nb = [G]) := by
  obtain ⟨A, cap, rfl, hle, hmx⟩ := hs.form
  refine Con_of Try.func20 rfl Try.ntmps20 (Nat.le_of_ble_eq_true rfl) (fun w0 => ?_)
  refine V_seq ?_
  refine V_region ?_
  refine VL_eff rfl (E_box rfl rfl rfl) ?_
  rintro _ _ _ ⟨b3, hb3, rfl, rfl, rfl⟩
  refine VL_still rfl rfl rfl (S_assign rfl) ?_
  refine VL_nil ?_
  refine VQ_then ?_
  refine V_seq ?_
  refine V_region ?_
  refine VL_still rfl rfl rfl (S_move rfl) ?_
  refine VL_still rfl rfl rfl (S_fn rfl rfl) ?_
  refine VL_eff rfl (E_call rfl rfl rfl Try.call26 (has_con _ l 27 b3 s n (fun a b => decide (a ≤ s) && decide (IntKind.i64.wrap (s + n) ≤ IntKind.i64.wrap (a + b))) G h hs hn Try.call27 (fun a b => within1 a b s n b3 h)) (by repeat (first | exact Split.nil | exact Pick.here | apply Pick.there | apply Split.cons))) ?_
  rintro _ _ _ ⟨v7, nb7, ⟨rfl, rfl, rfl⟩, hs7, rfl, rfl⟩
  refine VL_still rfl rfl rfl (S_assign rfl) ?_
  refine VL_nil ?_
  refine VQ_then ?_
  refine V_ret ?_
  refine VQ_fin1 (nb := [G]) (by first | exact .inl rfl | exact .inr rfl) rfl (RV_tmp rfl) ?sb ?po
  case po =>
    exact ⟨rfl, rfl, rfl⟩
  case sb => exact (by repeat (first | exact SubB.nil | exact Pick.here | apply Pick.there | apply SubB.emp | apply SubB.cons))

set_option maxRecDepth 100000 in
theorem meets_con (v : Value) (l : List Ex) (s n : Int) (G : Gr) (h : Hp) (hs : SlR h [G] v l.length (xcs l) 2) (hn : l.length ≤ 1000000) : Con Try.prog 23 [v, xt s n] h [G] (fun r h' nb => r = .bool (l.any (fun e => (fun a b => decide (a < IntKind.i64.wrap (s + n)) && decide (s < IntKind.i64.wrap (a + b))) e.1 e.2)) ∧ h = h' ∧ nb = [G]) := by
  obtain ⟨A, cap, rfl, hle, hmx⟩ := hs.form
  refine Con_of Try.func23 rfl Try.ntmps23 (Nat.le_of_ble_eq_true rfl) (fun w0 => ?_)
  refine V_seq ?_
  refine V_region ?_
  refine VL_eff rfl (E_box rfl rfl rfl) ?_
  rintro _ _ _ ⟨b3, hb3, rfl, rfl, rfl⟩
  refine VL_still rfl rfl rfl (S_assign rfl) ?_
  refine VL_nil ?_
  refine VQ_then ?_
  refine V_seq ?_
  refine V_region ?_
  refine VL_still rfl rfl rfl (S_move rfl) ?_
  refine VL_still rfl rfl rfl (S_fn rfl rfl) ?_
  refine VL_eff rfl (E_call rfl rfl rfl Try.call26 (has_con _ l 28 b3 s n (fun a b => decide (a < IntKind.i64.wrap (s + n)) && decide (s < IntKind.i64.wrap (a + b))) G h hs hn Try.call28 (fun a b => meets1 a b s n b3 h)) (by repeat (first | exact Split.nil | exact Pick.here | apply Pick.there | apply Split.cons))) ?_
  rintro _ _ _ ⟨v7, nb7, ⟨rfl, rfl, rfl⟩, hs7, rfl, rfl⟩
  refine VL_still rfl rfl rfl (S_assign rfl) ?_
  refine VL_nil ?_
  refine VQ_then ?_
  refine V_ret ?_
  refine VQ_fin1 (nb := [G]) (by first | exact .inl rfl | exact .inr rfl) rfl (RV_tmp rfl) ?sb ?po
  case po =>
    exact ⟨rfl, rfl, rfl⟩
  case sb => exact (by repeat (first | exact SubB.nil | exact Pick.here | apply Pick.there | apply SubB.emp | apply SubB.cons))

end Go.Proofs.YtgnjocnbohbfaaaR
