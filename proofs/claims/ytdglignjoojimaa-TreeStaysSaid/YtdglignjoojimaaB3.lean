/- Contracts of the library's slices functions at pointers to tree.node. No conditions. -/
import Derived.Test.YtdglignjoojimaaTy
set_option linter.unusedVariables false
set_option linter.unusedSimpArgs false
namespace Go.Proofs.Ytdglignjoojimaa

set_option maxRecDepth 100000 in
theorem n_clone (v : Value) (n : Nat) (cs : List Value) (h : Hp) (G : Gr) (hs : SlR h [G] v n cs 1) (ho : ones cs = true) (hn : n ≤ 1000000) : Con Try.prog 80 [v] h [G] (fun r h' nb => h = h' ∧ ∃ G', Buf 83 1 r n cs G' ∧ nb = [G, G']) := by
  obtain ⟨A, cap, rfl, hle, hmx⟩ := hs.form
  refine Con_of Try.func80 rfl Try.ntmps80 (Nat.le_of_ble_eq_true rfl) (fun w0 => ?_)
  refine V_seq ?_
  refine V_region ?_
  refine VL_still rfl rfl rfl (S_assign rfl) ?_
  refine VL_nil ?_
  refine VQ_then ?_
  refine V_seq ?_
  refine V_seq ?_
  refine V_region ?_
  refine VL_still rfl rfl rfl (S_move rfl) ?_
  refine VL_still rfl rfl rfl (S_eqnil Try.underlying90 rfl rfl) ?_
  refine VL_nil ?_
  refine VQ_then ?_
  refine V_cond rfl (fun hc4 => ?_) (fun hc4 => ?_)
  · skip
    refine V_seq ?_
    refine V_region ?_
    refine VL_still rfl rfl rfl (S_assign rfl) ?_
    refine VL_nil ?_
    refine VQ_then ?_
    refine V_ret ?_
    refine VQ_then_ret ?_
    refine VQ_fin1 (nb := [G, []]) (by first | exact .inl rfl | exact .inr rfl) rfl (RV_tmp rfl) ?sb ?po
    case po =>
      refine ⟨rfl, [], ?_, rfl⟩
      cases A with
      | none =>
        obtain ⟨rfl, rfl⟩ := hs.nil_len
        exact .inl ⟨rfl, rfl, rfl, rfl⟩
      | some a => simp at hc4
    case sb => exact (by repeat (first | exact SubB.nil | exact Pick.here | apply Pick.there | apply SubB.emp | apply SubB.cons))
  · skip
    refine V_skip ?_
    refine VQ_then ?_
    refine V_seq ?_
    refine V_region ?_
    refine VL_eff rfl (E_bs0 rfl Try.underlying90 ti83) ?_
    rintro _ _ _ ⟨b5, hb5, rfl, rfl, rfl⟩
    refine VL_still rfl rfl rfl (S_move rfl) ?_
    refine VL_eff rfl (X_append rfl Try.underlying90 Try.underlying90 rfl tx83 rfl rfl rfl rfl (Buf.lit (n := 0) (cs := []) rfl (by omega)) Pick.here (hs.mono (Sub.refl _) (fun q hq => by simp at hq ⊢; simp [hq])) ho (by omega)) ?_
    rintro _ _ _ ⟨v7, G7, hB7, rfl, rfl, rfl⟩
    rw [Nat.zero_add, List.nil_append] at hB7
    refine VL_still rfl rfl rfl (S_assign rfl) ?_
    refine VL_nil ?_
    refine VQ_then ?_
    refine V_ret ?_
    refine VQ_fin1 (nb := [G, G7]) (by first | exact .inl rfl | exact .inr rfl) rfl (RV_tmp rfl) ?sb ?po
    case po =>
      exact ⟨rfl, G7, hB7, rfl⟩
    case sb => exact (by repeat (first | exact SubB.nil | exact Pick.here | apply Pick.there | apply SubB.emp | apply SubB.cons))

theorem ov85a : Try.f85.body.isNone = true := by kernel_rfl
theorem ov85b : (Try.f85.name == "runtime.NumGoroutine") = false := by kernel_rfl
theorem ov85c : (Extern.findNext Try.f85).isNone = true := by kernel_rfl
theorem ov85d : Extern.find Try.f85 = some (Extern.SlicesOverlaps.overlaps (List.toArray [90, 90]) (List.toArray [4])) := by kernel_rfl
set_option maxRecDepth 100000 in
theorem n_insert (v : Value) (n i b2 : Nat) (cs vc : List Value) (h : Hp) (G : Gr) (hB : Buf 83 1 v n cs G) (ho : ones cs = true) (ho' : ones vc = true) (hvc : vc.length = 1) (hi : i ≤ n) (hn : n ≤ 1000000) : Con Try.prog 64 [v, .int .i64 (i : Nat), .slice (some ⟨b2, 0, none⟩) 1 1] h [G, [(b2, .cells (List.toArray vc) 83 (0, 0))]] (fun r h' nb => h = h' ∧ ∃ G', Buf 83 1 r (n + 1) (cs.take (i * 1) ++ vc ++ cs.drop (i * 1)) G' ∧ nb = [G']) := by
  have hrd := hB.reads (h := h) (bl := [G]) (fun q hq => by simpa using hq)
  obtain ⟨A, cap, rfl, hle, hmx⟩ := hrd.form
  have hvt : List.take (1 * 1) (List.drop 0 vc) = vc := by rw [List.drop_zero]; exact List.take_of_length_le (by omega)
  refine Con_of Try.func64 rfl Try.ntmps64 (Nat.le_of_ble_eq_true rfl) (fun w0 => ?_)
  refine V_seq ?_
  refine V_region ?_
  refine VL_still rfl rfl rfl (S_assign rfl) ?_
  refine VL_nil ?_
  refine VQ_then ?_
  refine V_seq ?_
  refine V_region ?_
  refine VL_still rfl rfl rfl (S_move rfl) ?_
  refine VL_still rfl rfl rfl (S_move rfl) ?_
  refine VL_still rfl rfl rfl (X_cut i n Try.underlying90 tx83 rfl rfl rfl (by omega) (by omega)) ?_
  refine VL_nil ?_
  refine VQ_then ?_
  refine V_seq ?_
  refine V_region ?_
  refine VL_still rfl rfl rfl (S_move rfl) ?_
  refine VL_still rfl rfl rfl (S_len Try.underlying90 rfl) ?_
  refine VL_still rfl rfl rfl (S_assign rfl) ?_
  refine VL_nil ?_
  refine VQ_then ?_
  refine V_seq ?_
  refine V_seq ?_
  refine V_region ?_
  refine VL_still rfl rfl rfl (S_move rfl) ?_
  refine VL_still rfl rfl rfl (S_eql rfl rfl) ?_
  refine VL_nil ?_
  refine VQ_then ?_
  refine V_cond rfl (fun hc16 => ?_) (fun hc16 => ?_)
  · skip
    simp at hc16
  · skip
    refine V_skip ?_
    refine VQ_then ?_
    refine V_seq ?_
    refine V_region ?_
    refine VL_still rfl rfl rfl (S_move rfl) ?_
    refine VL_still rfl rfl rfl (S_len Try.underlying90 rfl) ?_
    refine VL_still rfl rfl rfl (S_assign rfl) ?_
    refine VL_nil ?_
    refine VQ_then ?_
    refine V_seq ?_
    refine V_seq ?_
    refine V_region ?_
    refine VL_still rfl rfl rfl (S_move rfl) ?_
    refine VL_still rfl rfl rfl (S_move rfl) ?_
    refine VL_still rfl rfl rfl (S_eql rfl rfl) ?_
    refine VL_nil ?_
    refine VQ_then ?_
    refine V_cond rfl (fun hc22 => ?_) (fun hc22 => ?_)
    · skip
      have hin : i = n := by
        have := of_decide_eq_true hc22
        omega
      refine V_seq ?_
      refine V_region ?_
      refine VL_still rfl rfl rfl (S_move rfl) ?_
      refine VL_still rfl rfl rfl (S_move rfl) ?_
      refine VL_eff rfl (X_append rfl Try.underlying90 Try.underlying90 rfl tx83 rfl rfl rfl rfl hB Pick.here (SlR.blk (b := b2) (off := 0) (l := vc) (T := 83) (fz := (0, 0)) (by simp) (by omega) (by omega) (by omega)) (by rw [hvt]; exact ho') (by omega)) ?_
      rintro _ _ _ ⟨v25, G25, hB25, rfl, rfl, rfl⟩
      rw [hvt] at hB25
      refine VL_still rfl rfl rfl (S_assign rfl) ?_
      refine VL_nil ?_
      refine VQ_then ?_
      refine V_ret ?_
      refine VQ_then_ret ?_
      refine VQ_fin1 (nb := [G25]) (by first | exact .inl rfl | exact .inr rfl) rfl (RV_tmp rfl) ?sb ?po
      case po =>
        refine ⟨rfl, G25, ?_, rfl⟩
        have hl : cs.length = n * 1 := hrd.len
        subst hin
        rw [List.take_of_length_le (by omega), List.drop_of_length_le (by omega), List.append_nil]
        exact hB25
      case sb => exact (by repeat (first | exact SubB.nil | exact Pick.here | apply Pick.there | apply SubB.emp | apply SubB.cons))
    · skip
      have hin : i < n := by
        have := of_decide_eq_false hc22
        omega
      rcases hB with ⟨e1, rfl, _⟩ | ⟨b, cap', sp, e1, rfl, l1, l2, hl, hl'⟩
      · omega
      cases e1
      refine V_ne (b := b) (b' := b2) Pick.here Pick.here (fun hne => ?_)
      have hl2 : cs.length + sp.length = cap * 1 := by rw [← hl', List.length_append]
      refine V_skip ?_
      refine VQ_then ?_
      refine V_seq ?_
      refine V_seq ?_
      refine V_region ?_
      refine VL_still rfl rfl rfl (S_move rfl) ?_
      refine VL_still rfl rfl rfl (S_move rfl) ?_
      first | refine VL_still rfl rfl rfl (S_addi rfl rfl (by omega) (by omega)) ?_ | refine VL_still rfl rfl rfl (S_add rfl rfl) ?_
      refine VL_still rfl rfl rfl (S_move rfl) ?_
      refine VL_still rfl rfl rfl (S_cap Try.underlying90 rfl) ?_
      refine VL_still rfl rfl rfl (S_gtr rfl rfl) ?_
      refine VL_nil ?_
      refine VQ_then ?_
      refine V_cond rfl (fun hc31 => ?_) (fun hc31 => ?_)
      · skip
        have hc : cap < n + 1 := by
          have := of_decide_eq_true hc31
          omega
        refine V_seq ?_
        refine V_region ?_
        refine VL_still rfl rfl rfl (S_move rfl) ?_
        refine VL_still rfl rfl rfl (S_move rfl) ?_
        refine VL_still rfl rfl rfl (X_to i (by simp) Try.underlying90 tx83 rfl rfl (by omega)) ?_
        refine VL_still rfl rfl rfl (S_move rfl) ?_
        refine VL_still rfl rfl rfl (S_move rfl) ?_
        first | refine VL_still rfl rfl rfl (S_addi rfl rfl (by omega) (by omega)) ?_ | refine VL_still rfl rfl rfl (S_add rfl rfl) ?_
        refine VL_still rfl rfl rfl (S_move rfl) ?_
        first | refine VL_still rfl rfl rfl (S_subi rfl rfl (by omega) (by omega)) ?_ | refine VL_still rfl rfl rfl (S_sub rfl rfl) ?_
        refine VL_eff rfl (X_append_zeros rfl Try.underlying90 Try.underlying3 tx83 rfl rfl rfl rfl rfl (SlR.blk (b := b) (off := 0) (l := cs ++ sp) (T := 83) (fz := (0, 0)) (by simp) (by rw [List.length_append]; omega) (by omega) (by omega)) (by omega) (by omega) (by omega)) ?_
        rintro _ _ _ ⟨b9, cap9, sp9, hb9, k1, k2, k3, rfl, rfl, rfl⟩
        have eL : (List.drop 0 (cs ++ sp)).take (i * 1) = cs.take (i * 1) := by rw [List.drop_zero, List.take_append_of_le_length (by omega)]
        have eN : i + ((n : Int) + ((1 : Nat) : Int) - (i : Int)).toNat = n + 1 := by omega
        rw [eL] at k3 ⊢
        rw [eN] at k1 ⊢
        have hF : (fillC (.pointer none) ((n : Int) + ((1 : Nat) : Int) - (i : Int)).toNat).length = vc.length + (cs.length - i * 1) := by
          rw [fillC_length (sz := 1) rfl]; omega
        refine VL_ne (b := b9) (b' := b2) Pick.here (Pick.there Pick.here) (fun hne9 => ?_)
        refine VL_still rfl rfl rfl (S_assign rfl) ?_
        refine VL_nil ?_
        refine VQ_then ?_
        refine V_seq ?_
        refine V_region ?_
        refine VL_still rfl rfl rfl (S_move rfl) ?_
        refine VL_still rfl rfl rfl (S_move rfl) ?_
        refine VL_still rfl rfl rfl (X_piece i (n + 1) Try.underlying90 tx83 rfl rfl rfl (by omega) (by omega) (by omega)) ?_
        refine VL_still rfl rfl rfl (S_move rfl) ?_
        refine VL_eff rfl (X_copy (b := b9) (off := 0 + i * 1) (l := cs.take (i * 1) ++ fillC (.pointer none) ((n : Int) + ((1 : Nat) : Int) - (i : Int)).toNat ++ sp9) rfl Try.underlying90 tx83 rfl rfl (SlR.blk (b := b2) (off := 0) (l := vc) (T := 83) (fz := (0, 0)) (by simp) (by omega) (by omega) (by omega)) Pick.here (fun _ => rfl) (fun _ => by rw [k3]; omega) (by rw [hvt]; exact ones_take ho')) ?_
        rintro _ _ _ ⟨rfl, rfl, rfl⟩
        have eV : List.take (min 1 (n + 1 - i) * 1) ((vc.drop 0).take (1 * 1)) = vc := by
          rw [show min 1 (n + 1 - i) = 1 by omega, List.drop_zero, List.take_take]
          exact List.take_of_length_le (by omega)
        rw [eV]
        refine VL_nil ?_
        refine VQ_then ?_
        refine V_seq ?_
        refine V_drawL _ [] 256 Try.mixed (by kernel_rfl) (by kernel_rfl) (Sub.refl _) SubB.nil ?_
        refine VD_still rfl rfl rfl rfl (S_move rfl) ?_
        refine VD_still rfl rfl rfl rfl (S_move rfl) ?_
        refine VD_still rfl rfl rfl rfl (S_move rfl) ?_
        first | refine VD_still rfl rfl rfl rfl (S_addi rfl rfl (by omega) (by omega)) ?_ | refine VD_still rfl rfl rfl rfl (S_add rfl rfl) ?_
        refine VD_still rfl rfl rfl rfl (X_piece (i + 1) (n + 1) Try.underlying90 tx83 rfl rfl rfl (by omega) (by omega) (by omega)) ?_
        refine VD_still rfl rfl rfl rfl (S_move rfl) ?_
        refine VD_still rfl rfl rfl rfl (S_move rfl) ?_
        refine VD_still rfl rfl rfl rfl (X_piece i n Try.underlying90 tx83 rfl rfl rfl (by omega) (by omega) (by omega)) ?_
        have eD : List.take (min (n - i) (n + 1 - (i + 1)) * 1) (((cs ++ sp).drop (0 + i * 1)).take ((n - i) * 1)) = cs.drop (i * 1) := by
          rw [show min (n - i) (n + 1 - (i + 1)) = n - i by omega, Nat.zero_add, List.take_take, Nat.min_self, List.drop_append_of_le_length (by omega), List.take_append_of_le_length (by rw [List.length_drop]; omega), List.take_of_length_le (by rw [List.length_drop]; omega)]
        refine VD_last rfl rfl (X_copy (b := b9) (off := 0 + (i + 1) * 1) (l := putAt (cs.take (i * 1) ++ fillC (.pointer none) ((n : Int) + ((1 : Nat) : Int) - (i : Int)).toNat ++ sp9) (0 + i * 1) vc) rfl Try.underlying90 tx83 rfl rfl (SlR.blk (b := b) (off := 0 + i * 1) (l := cs ++ sp) (T := 83) (fz := (0, 0)) (by simp) (by rw [List.length_append]; omega) (by omega) (by omega)) Pick.here (fun _ => rfl) (fun _ => by rw [putAt_length (by rw [k3]; omega), k3]; omega) (by rw [eD]; exact ones_drop ho)) ?_
        rintro _ _ _ ⟨rfl, rfl, rfl⟩
        rw [eD]
        refine VQ_then ?_
        refine V_seq ?_
        refine V_region ?_
        refine VL_still rfl rfl rfl (S_move rfl) ?_
        refine VL_still rfl rfl rfl (S_assign rfl) ?_
        refine VL_nil ?_
        refine VQ_then ?_
        refine V_ret ?_
        refine VQ_then_ret ?_
        refine VQ_fin1 (nb := [[(b9, .cells (List.toArray (putAt (putAt (cs.take (i * 1) ++ fillC (.pointer none) ((n : Int) + ((1 : Nat) : Int) - (i : Int)).toNat ++ sp9) (0 + i * 1) vc) (0 + (i + 1) * 1) (cs.drop (i * 1)))) 83 (0, 0))]]) (by first | exact .inl rfl | exact .inr rfl) rfl (RV_tmp rfl) ?sb ?po
        case po =>
          refine ⟨rfl, _, ?_, rfl⟩
          have hg := ins_grow (cs := cs) (vc := vc) (F := fillC (.pointer none) ((n : Int) + ((1 : Nat) : Int) - (i : Int)).toNat) (sp := sp9) (a := i * 1) (by omega) hF
          rw [Nat.zero_add, Nat.zero_add, show (i + 1) * 1 = i * 1 + vc.length by omega, hg]
          refine .inr ⟨b9, cap9, sp9, rfl, rfl, by omega, by omega, ?_, ?_⟩
          · simp; omega
          · rw [List.length_append, List.length_append, hF, List.length_take] at k3
            simp only [List.length_append, List.length_take, List.length_drop]
            omega
        case sb => exact (by repeat (first | exact SubB.nil | exact Pick.here | apply Pick.there | apply SubB.emp | apply SubB.cons))
      · skip
        have hc : n + 1 ≤ cap := by
          have := of_decide_eq_false hc31
          omega
        refine V_skip ?_
        refine VQ_then ?_
        refine V_seq ?_
        refine V_region ?_
        refine VL_still rfl rfl rfl (S_move rfl) ?_
        refine VL_still rfl rfl rfl (S_move rfl) ?_
        refine VL_still rfl rfl rfl (S_move rfl) ?_
        first | refine VL_still rfl rfl rfl (S_addi rfl rfl (by omega) (by omega)) ?_ | refine VL_still rfl rfl rfl (S_add rfl rfl) ?_
        refine VL_still rfl rfl rfl (X_to (n + 1) (by simp) Try.underlying90 tx83 rfl rfl (by omega)) ?_
        refine VL_still rfl rfl rfl (S_assign rfl) ?_
        refine VL_nil ?_
        refine VQ_then ?_
        refine V_seq ?_
        refine V_seq ?_
        refine V_region ?_
        refine VL_still rfl rfl rfl (S_move rfl) ?_
        refine VL_still rfl rfl rfl (S_move rfl) ?_
        refine VL_still rfl rfl rfl (S_move rfl) ?_
        refine VL_still rfl rfl rfl (S_move rfl) ?_
        first | refine VL_still rfl rfl rfl (S_addi rfl rfl (by omega) (by omega)) ?_ | refine VL_still rfl rfl rfl (S_add rfl rfl) ?_
        refine VL_still rfl rfl rfl (X_piece (i + 1) (n + 1) Try.underlying90 tx83 rfl rfl rfl (by omega) (by omega) (by omega)) ?_
        refine VL_eff rfl (E_still rfl (X_overlaps (params := [90, 90]) (res := [4]) (l := vc) (l' := cs ++ sp) (T := 83) (T' := 83) Try.func85 ov85a ov85b ov85c ov85d rfl Try.underlying90 tx83 rfl rfl (by simp) (by simp) (Ne.symm hne) (by omega) (by rw [List.length_append]; omega))) ?_
        rintro _ hh67 _ ⟨rfl, rfl, rfl⟩
        refine VL_still rfl rfl rfl (S_not rfl) ?_
        refine VL_nil ?_
        refine VQ_then ?_
        refine V_cond rfl (fun hc68 => ?_) (fun hc68 => ?_)
        · skip
          refine V_seq ?_
          refine V_drawL _ [] 256 Try.mixed (by kernel_rfl) (by kernel_rfl) (Sub.refl _) SubB.nil ?_
          refine VD_still rfl rfl rfl rfl (S_move rfl) ?_
          refine VD_still rfl rfl rfl rfl (S_move rfl) ?_
          refine VD_still rfl rfl rfl rfl (S_move rfl) ?_
          first | refine VD_still rfl rfl rfl rfl (S_addi rfl rfl (by omega) (by omega)) ?_ | refine VD_still rfl rfl rfl rfl (S_add rfl rfl) ?_
          refine VD_still rfl rfl rfl rfl (X_piece (i + 1) (n + 1) Try.underlying90 tx83 rfl rfl rfl (by omega) (by omega) (by omega)) ?_
          refine VD_still rfl rfl rfl rfl (S_move rfl) ?_
          refine VD_still rfl rfl rfl rfl (S_move rfl) ?_
          refine VD_still rfl rfl rfl rfl (X_piece i (n + 1) Try.underlying90 tx83 rfl rfl rfl (by omega) (by omega) (by omega)) ?_
          have eD : List.take (min (n + 1 - i) (n + 1 - (i + 1)) * 1) (((cs ++ sp).drop (0 + i * 1)).take ((n + 1 - i) * 1)) = cs.drop (i * 1) := by
            rw [show min (n + 1 - i) (n + 1 - (i + 1)) = n - i by omega, Nat.zero_add, List.take_take, Nat.min_eq_left (Nat.mul_le_mul_right _ (by omega)), List.drop_append_of_le_length (by omega), List.take_append_of_le_length (by rw [List.length_drop]; omega), List.take_of_length_le (by rw [List.length_drop]; omega)]
          refine VD_last rfl rfl (X_copy (b := b) (off := 0 + (i + 1) * 1) (l := cs ++ sp) rfl Try.underlying90 tx83 rfl rfl (SlR.blk (b := b) (off := 0 + i * 1) (l := cs ++ sp) (T := 83) (fz := (0, 0)) (by simp) (by rw [List.length_append]; omega) (by omega) (by omega)) Pick.here (fun _ => rfl) (fun _ => by rw [List.length_append]; omega) (by rw [eD]; exact ones_drop ho)) ?_
          rintro _ _ _ ⟨rfl, rfl, rfl⟩
          rw [eD]
          refine VQ_then ?_
          refine V_seq ?_
          refine V_region ?_
          refine VL_still rfl rfl rfl (S_move rfl) ?_
          refine VL_still rfl rfl rfl (S_move rfl) ?_
          refine VL_still rfl rfl rfl (X_piece i (n + 1) Try.underlying90 tx83 rfl rfl rfl (by omega) (by omega) (by omega)) ?_
          refine VL_still rfl rfl rfl (S_move rfl) ?_
          refine VL_eff rfl (X_copy (b := b) (off := 0 + i * 1) (l := putAt (cs ++ sp) (0 + (i + 1) * 1) (cs.drop (i * 1))) rfl Try.underlying90 tx83 rfl rfl (SlR.blk (b := b2) (off := 0) (l := vc) (T := 83) (fz := (0, 0)) (by simp) (by omega) (by omega) (by omega)) Pick.here (fun _ => rfl) (fun _ => by rw [putAt_length (by rw [List.length_append, List.length_drop]; omega), List.length_append]; omega) (by rw [hvt]; exact ones_take ho')) ?_
          rintro _ _ _ ⟨rfl, rfl, rfl⟩
          have eV : List.take (min 1 (n + 1 - i) * 1) ((vc.drop 0).take (1 * 1)) = vc := by
            rw [show min 1 (n + 1 - i) = 1 by omega, List.drop_zero, List.take_take]
            exact List.take_of_length_le (by omega)
          rw [eV]
          refine VL_nil ?_
          refine VQ_then ?_
          refine V_seq ?_
          refine V_region ?_
          refine VL_still rfl rfl rfl (S_move rfl) ?_
          refine VL_still rfl rfl rfl (S_assign rfl) ?_
          refine VL_nil ?_
          refine VQ_then ?_
          refine V_ret ?_
          refine VQ_then_ret ?_
          refine VQ_fin1 (nb := [[(b, .cells (List.toArray (putAt (putAt (cs ++ sp) (0 + (i + 1) * 1) (cs.drop (i * 1))) (0 + i * 1) vc)) 83 (0, 0))]]) (by first | exact .inl rfl | exact .inr rfl) rfl (RV_tmp rfl) ?sb ?po
          case po =>
            refine ⟨rfl, _, ?_, rfl⟩
            have hg := ins_place (cs := cs) (vc := vc) (sp := sp) (a := i * 1) (by omega) (by omega)
            rw [Nat.zero_add, Nat.zero_add, show (i + 1) * 1 = i * 1 + vc.length by omega, hg]
            refine .inr ⟨b, cap, sp.drop vc.length, rfl, rfl, by omega, by omega, ?_, ?_⟩
            · simp; omega
            · simp; omega
          case sb => exact (by repeat (first | exact SubB.nil | exact Pick.here | apply Pick.there | apply SubB.emp | apply SubB.cons))
        · skip
          simp at hc68

set_option maxRecDepth 100000 in
theorem n_delete (v : Value) (n i j : Nat) (cs : List Value) (h : Hp) (G : Gr) (hB : Buf 83 1 v n cs G) (ho : ones cs = true) (hij : i < j) (hj : j ≤ n) (hn : n ≤ 1000000) : Con Try.prog 89 [v, .int .i64 (i : Nat), .int .i64 (j : Nat)] h [G] (fun r h' nb => h = h' ∧ ∃ G', Buf 83 1 r (i + (n - j)) (cs.take (i * 1) ++ cs.drop (j * 1)) G' ∧ nb = [G']) := by
  have hrd := hB.reads (h := h) (bl := [G]) (fun q hq => by simpa using hq)
  obtain ⟨A, cap, rfl, hle, hmx⟩ := hrd.form
  rcases hB with ⟨e1, rfl, _⟩ | ⟨b, cap', sp, e1, rfl, l1, l2, hl, hl'⟩
  · omega
  cases e1
  have hl2 : cs.length + sp.length = cap * 1 := by rw [← hl', List.length_append]
  refine Con_of Try.func89 rfl Try.ntmps89 (Nat.le_of_ble_eq_true rfl) (fun w0 => ?_)
  refine V_seq ?_
  refine V_region ?_
  refine VL_still rfl rfl rfl (S_assign rfl) ?_
  refine VL_nil ?_
  refine VQ_then ?_
  refine V_seq ?_
  refine V_region ?_
  refine VL_still rfl rfl rfl (S_move rfl) ?_
  refine VL_still rfl rfl rfl (S_move rfl) ?_
  refine VL_still rfl rfl rfl (S_move rfl) ?_
  refine VL_still rfl rfl rfl (S_move rfl) ?_
  refine VL_still rfl rfl rfl (S_len Try.underlying90 rfl) ?_
  refine VL_still rfl rfl rfl (X_slice3 i j n Try.underlying90 tx83 rfl rfl rfl rfl (by omega) (by omega) (by omega)) ?_
  refine VL_nil ?_
  refine VQ_then ?_
  refine V_seq ?_
  refine V_seq ?_
  refine V_region ?_
  refine VL_still rfl rfl rfl (S_move rfl) ?_
  refine VL_still rfl rfl rfl (S_move rfl) ?_
  refine VL_still rfl rfl rfl (S_eql rfl rfl) ?_
  refine VL_nil ?_
  refine VQ_then ?_
  refine V_cond rfl (fun hc16 => ?_) (fun hc16 => ?_)
  · skip
    have := of_decide_eq_true hc16
    omega
  · skip
    refine V_skip ?_
    refine VQ_then ?_
    refine V_seq ?_
    refine V_region ?_
    refine VL_still rfl rfl rfl (S_move rfl) ?_
    refine VL_still rfl rfl rfl (S_len Try.underlying90 rfl) ?_
    refine VL_still rfl rfl rfl (S_assign rfl) ?_
    refine VL_nil ?_
    refine VQ_then ?_
    refine V_seq ?_
    refine V_draw _ [] 64 Try.mixed (by kernel_rfl) (Sub.refl _) SubB.nil ?_
    refine VD_still rfl rfl rfl rfl (S_move rfl) ?_
    refine VD_still rfl rfl rfl rfl (S_move rfl) ?_
    refine VD_still rfl rfl rfl rfl (X_to i (by simp) Try.underlying90 tx83 rfl rfl (by omega)) ?_
    refine VD_still rfl rfl rfl rfl (S_move rfl) ?_
    refine VD_still rfl rfl rfl rfl (S_move rfl) ?_
    refine VD_still rfl rfl rfl rfl (X_cut j n Try.underlying90 tx83 rfl rfl rfl (by omega) (by omega)) ?_
    have eD : List.take ((n - j) * 1) (cs.drop (j * 1)) = cs.drop (j * 1) := List.take_of_length_le (by rw [List.length_drop]; omega)
    refine VD_eff rfl rfl (X_append_in (b := b) (off := 0) (l := cs ++ sp) rfl Try.underlying90 Try.underlying90 rfl tx83 rfl rfl (hrd.cut (by omega) (by omega)) (by omega) Pick.here (by rw [List.length_append]; omega) (by rw [eD]; exact ones_drop ho)) ?_
    rintro _ _ _ ⟨rfl, rfl, rfl⟩
    rw [eD]
    refine ⟨⟨(by first | exact Sub.refl _ | assumption | exact Sub.trans (by assumption) (by assumption)), (by repeat (first | exact SubB.nil | exact Pick.here | apply Pick.there | apply SubB.emp | apply SubB.cons))⟩, ?_⟩
    refine VD_still rfl rfl rfl rfl (S_assign rfl) ?_
    refine VD_nil ?_
    refine VQ_then ?_
    refine V_seq ?_
    refine V_region ?_
    refine VL_still rfl rfl rfl (S_move rfl) ?_
    refine VL_still rfl rfl rfl (S_move rfl) ?_
    refine VL_still rfl rfl rfl (S_len Try.underlying90 rfl) ?_
    refine VL_still rfl rfl rfl (S_move rfl) ?_
    refine VL_still rfl rfl rfl (X_piece (i + (n - j)) n Try.underlying90 tx83 rfl rfl rfl (by omega) (by omega) (by omega)) ?_
    refine VL_eff rfl (X_clear (b := b) (off := 0 + (i + (n - j)) * 1) (l := putAt (cs ++ sp) (0 + i * 1) (cs.drop (j * 1))) Try.underlying90 tx83 rfl rfl rfl Pick.here (fun _ => rfl) (fun _ => by rw [putAt_length (by rw [List.length_append, List.length_drop]; omega), List.length_append]; omega)) ?_
    rintro _ _ _ ⟨rfl, rfl, rfl⟩
    refine VL_nil ?_
    refine VQ_then ?_
    refine V_seq ?_
    refine V_region ?_
    refine VL_still rfl rfl rfl (S_move rfl) ?_
    refine VL_still rfl rfl rfl (S_assign rfl) ?_
    refine VL_nil ?_
    refine VQ_then ?_
    refine V_ret ?_
    refine VQ_fin1 (nb := [[(b, .cells (List.toArray (putAt (putAt (cs ++ sp) (0 + i * 1) (cs.drop (j * 1))) (0 + (i + (n - j)) * 1) (fillC (.pointer none) (n - (i + (n - j)))))) 83 (0, 0))]]) (by first | exact .inl rfl | exact .inr rfl) rfl (RV_tmp rfl) ?sb ?po
    case po =>
      refine ⟨rfl, _, ?_, rfl⟩
      have hZ : (fillC (.pointer none) (n - (i + (n - j)))).length = j * 1 - i * 1 := by rw [fillC_length (sz := 1) rfl]; omega
      have hg := del_place (cs := cs) (sp := sp) (Z := fillC (.pointer none) (n - (i + (n - j)))) (a := i * 1) (b := j * 1) (by omega) (by omega) hZ
      rw [Nat.zero_add, Nat.zero_add, show (i + (n - j)) * 1 = i * 1 + (cs.length - j * 1) by omega, hg]
      refine .inr ⟨b, cap, fillC (.pointer none) (n - (i + (n - j))) ++ sp, rfl, rfl, by omega, by omega, ?_, ?_⟩
      · simp; omega
      · simp only [List.length_append, List.length_take, List.length_drop, hZ]; omega
    case sb => exact (by repeat (first | exact SubB.nil | exact Pick.here | apply Pick.there | apply SubB.emp | apply SubB.cons))

end Go.Proofs.Ytdglignjoojimaa
