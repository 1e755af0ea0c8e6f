/- Contracts of the functions of package extent, part 1. No conditions. -/
import Derived.Test.YtgnjocnbohbfaaaRTy
namespace Go.Proofs.YtgnjocnbohbfaaaR

abbrev xt (s n : Int) : Value := .agg #[.int .i64 s, .int .i64 n]

set_option maxRecDepth 100000 in
theorem end_con (s n : Int) (h : Hp) : Con Try.prog 22 [xt s n] h [] (fun v h' nb => v = .int .i64 (IntKind.i64.wrap (s + n)) ∧ h = h' ∧ nb = []) := by
  refine Con_of Try.func22 rfl Try.ntmps22 (Nat.le_of_ble_eq_true rfl) (fun w0 => ?_)
  refine V_seq ?_
  refine V_region ?_
  refine VL_eff rfl (E_box rfl rfl rfl) ?_
  rintro _ _ _ ⟨b1, hb1, rfl, rfl, rfl⟩
  refine VL_still rfl rfl rfl (S_assign rfl) ?_
  refine VL_nil ?_
  refine VQ_then ?_
  refine V_seq ?_
  refine V_region ?_
  refine VL_still rfl rfl rfl (S_field (k := 0) Try.underlying27 rfl rfl ti3 rfl rfl) ?_
  refine VL_still rfl rfl rfl (S_load Try.underlying3 rfl rfl (Cell.trk (by repeat (first | exact Has.here | apply Has.there)) rfl)) ?_
  refine VL_still rfl rfl rfl (S_field (k := 1) Try.underlying27 rfl rfl ti3 rfl rfl) ?_
  refine VL_still rfl rfl rfl (S_load Try.underlying3 rfl rfl (Cell.trk (by repeat (first | exact Has.here | apply Has.there)) rfl)) ?_
  first | refine VL_still rfl rfl rfl (S_addi rfl rfl (by omega) (by omega)) ?_ | refine VL_still rfl rfl rfl (S_add rfl rfl) ?_
  refine VL_still rfl rfl rfl (S_assign rfl) ?_
  refine VL_nil ?_
  refine VQ_then ?_
  refine V_ret ?_
  refine VQ_fin1 (nb := []) (by first | exact .inl rfl | exact .inr rfl) rfl (RV_tmp rfl) ?sb ?po
  case po =>
    exact ⟨rfl, rfl, rfl⟩
  case sb => exact (by repeat (first | exact SubB.nil | exact Pick.here | apply Pick.there | apply SubB.emp | apply SubB.cons))

set_option maxRecDepth 100000 in
theorem there_con (t s n : Int) (f l : Value) (g : Nat) (h : Hp) : Con Try.prog 19 [.pointer (some ⟨g, 0, none⟩), xt s n] h [[(g, .cells (List.toArray [.int .i64 t, f, l]) 43 (0, 0))]] (fun v h' nb => v = .bool (decide (1 ≤ n) && decide (n ≤ t) && decide (0 ≤ s) && decide (s ≤ IntKind.i64.wrap (t - n))) ∧ h = h' ∧ nb = [[(g, .cells (List.toArray [.int .i64 t, f, l]) 43 (0, 0))]]) := by
  refine Con_of Try.func19 rfl Try.ntmps19 (Nat.le_of_ble_eq_true rfl) (fun w0 => ?_)
  refine V_seq ?_
  refine V_region ?_
  refine VL_eff rfl (E_box rfl rfl rfl) ?_
  rintro _ _ _ ⟨b3, hb3, rfl, rfl, rfl⟩
  refine VL_still rfl rfl rfl (S_assign rfl) ?_
  refine VL_nil ?_
  refine VQ_then ?_
  refine V_seq ?_
  refine V_draw _ _ 0 Try.mixed (by kernel_rfl) (Sub.refl _) (SubB.refl _) ?_
  refine VD_still rfl rfl rfl rfl (S_field (k := 1) Try.underlying27 rfl rfl ti3 rfl rfl) ?_
  refine VD_still rfl rfl rfl rfl (S_load Try.underlying3 rfl rfl (Cell.trk (by repeat (first | exact Has.here | apply Has.there)) rfl)) ?_
  refine VD_still rfl rfl rfl rfl (S_geq rfl rfl) ?_
  refine VD_still rfl rfl rfl rfl (S_move rfl) ?_
  refine VD_bool 8 rfl (fun hc8 => ?_) (fun hc8 => ?_)
  · skip
    refine VD_still rfl rfl rfl rfl (S_field (k := 1) Try.underlying27 rfl rfl ti3 rfl rfl) ?_
    refine VD_still rfl rfl rfl rfl (S_load Try.underlying3 rfl rfl (Cell.trk (by repeat (first | exact Has.here | apply Has.there)) rfl)) ?_
    refine VD_still rfl rfl rfl rfl (S_move rfl) ?_
    refine VD_still rfl rfl rfl rfl (S_nil rfl) ?_
    refine VD_still rfl rfl rfl rfl (S_field (k := 0) Try.underlying43 rfl rfl ti3 rfl rfl) ?_
    refine VD_still rfl rfl rfl rfl (S_load Try.underlying3 rfl rfl (Cell.trk (by repeat (first | exact Has.here | apply Has.there)) rfl)) ?_
    refine VD_still rfl rfl rfl rfl (S_leq rfl rfl) ?_
    first | refine VD_still rfl rfl rfl rfl (S_pick_t rfl rfl) ?_ | refine VD_still rfl rfl rfl rfl (S_pick_f rfl rfl) ?_
    refine VD_still rfl rfl rfl rfl (S_move rfl) ?_
    refine VD_bool 17 rfl (fun hc17 => ?_) (fun hc17 => ?_)
    · skip
      refine VD_still rfl rfl rfl rfl (S_field (k := 0) Try.underlying27 rfl rfl ti3 rfl rfl) ?_
      refine VD_still rfl rfl rfl rfl (S_load Try.underlying3 rfl rfl (Cell.trk (by repeat (first | exact Has.here | apply Has.there)) rfl)) ?_
      refine VD_still rfl rfl rfl rfl (S_geq rfl rfl) ?_
      first | refine VD_still rfl rfl rfl rfl (S_pick_t rfl rfl) ?_ | refine VD_still rfl rfl rfl rfl (S_pick_f rfl rfl) ?_
      refine VD_still rfl rfl rfl rfl (S_move rfl) ?_
      refine VD_bool 22 rfl (fun hc22 => ?_) (fun hc22 => ?_)
      · skip
        refine VD_still rfl rfl rfl rfl (S_field (k := 0) Try.underlying27 rfl rfl ti3 rfl rfl) ?_
        refine VD_still rfl rfl rfl rfl (S_load Try.underlying3 rfl rfl (Cell.trk (by repeat (first | exact Has.here | apply Has.there)) rfl)) ?_
        refine VD_still rfl rfl rfl rfl (S_move rfl) ?_
        refine VD_still rfl rfl rfl rfl (S_nil rfl) ?_
        refine VD_still rfl rfl rfl rfl (S_field (k := 0) Try.underlying43 rfl rfl ti3 rfl rfl) ?_
        refine VD_still rfl rfl rfl rfl (S_load Try.underlying3 rfl rfl (Cell.trk (by repeat (first | exact Has.here | apply Has.there)) rfl)) ?_
        refine VD_still rfl rfl rfl rfl (S_field (k := 1) Try.underlying27 rfl rfl ti3 rfl rfl) ?_
        refine VD_still rfl rfl rfl rfl (S_load Try.underlying3 rfl rfl (Cell.trk (by repeat (first | exact Has.here | apply Has.there)) rfl)) ?_
        first | refine VD_still rfl rfl rfl rfl (S_subi rfl rfl (by omega) (by omega)) ?_ | refine VD_still rfl rfl rfl rfl (S_sub rfl rfl) ?_
        refine VD_still rfl rfl rfl rfl (S_leq rfl rfl) ?_
        first | refine VD_still rfl rfl rfl rfl (S_pick_t rfl rfl) ?_ | refine VD_still rfl rfl rfl rfl (S_pick_f rfl rfl) ?_
        refine VD_still rfl rfl rfl rfl (S_assign rfl) ?_
        refine VD_nil ?_
        refine VQ_then ?_
        refine V_ret ?_
        refine VQ_fin1 (nb := [[(g, .cells (List.toArray [.int .i64 t, f, l]) 43 (0, 0))]]) (by first | exact .inl rfl | exact .inr rfl) rfl (RV_tmp rfl) ?sb ?po
        case po =>
          exact ⟨by simp_all <;> omega, rfl, rfl⟩
        case sb => exact (by repeat (first | exact SubB.nil | exact Pick.here | apply Pick.there | apply SubB.emp | apply SubB.cons))
      · skip
        refine VD_skip rfl rfl rfl ?_
        refine VD_skip rfl rfl rfl ?_
        refine VD_skip rfl rfl rfl ?_
        refine VD_skip rfl rfl rfl ?_
        refine VD_skip rfl rfl rfl ?_
        refine VD_skip rfl rfl rfl ?_
        refine VD_skip rfl rfl rfl ?_
        refine VD_skip rfl rfl rfl ?_
        refine VD_skip rfl rfl rfl ?_
        refine VD_skip rfl rfl rfl ?_
        first | refine VD_still rfl rfl rfl rfl (S_pick_t rfl rfl) ?_ | refine VD_still rfl rfl rfl rfl (S_pick_f rfl rfl) ?_
        refine VD_still rfl rfl rfl rfl (S_assign rfl) ?_
        refine VD_nil ?_
        refine VQ_then ?_
        refine V_ret ?_
        refine VQ_fin1 (nb := [[(g, .cells (List.toArray [.int .i64 t, f, l]) 43 (0, 0))]]) (by first | exact .inl rfl | exact .inr rfl) rfl (RV_tmp rfl) ?sb ?po
        case po =>
          exact ⟨by simp_all <;> omega, rfl, rfl⟩
        case sb => exact (by repeat (first | exact SubB.nil | exact Pick.here | apply Pick.there | apply SubB.emp | apply SubB.cons))
    · skip
      refine VD_skip rfl rfl rfl ?_
      refine VD_skip rfl rfl rfl ?_
      refine VD_skip rfl rfl rfl ?_
      first | refine VD_still rfl rfl rfl rfl (S_pick_t rfl rfl) ?_ | refine VD_still rfl rfl rfl rfl (S_pick_f rfl rfl) ?_
      refine VD_still rfl rfl rfl rfl (S_move rfl) ?_
      refine VD_skip rfl rfl rfl ?_
      refine VD_skip rfl rfl rfl ?_
      refine VD_skip rfl rfl rfl ?_
      refine VD_skip rfl rfl rfl ?_
      refine VD_skip rfl rfl rfl ?_
      refine VD_skip rfl rfl rfl ?_
      refine VD_skip rfl rfl rfl ?_
      refine VD_skip rfl rfl rfl ?_
      refine VD_skip rfl rfl rfl ?_
      refine VD_skip rfl rfl rfl ?_
      first | refine VD_still rfl rfl rfl rfl (S_pick_t rfl rfl) ?_ | refine VD_still rfl rfl rfl rfl (S_pick_f rfl rfl) ?_
      refine VD_still rfl rfl rfl rfl (S_assign rfl) ?_
      refine VD_nil ?_
      refine VQ_then ?_
      refine V_ret ?_
      refine VQ_fin1 (nb := [[(g, .cells (List.toArray [.int .i64 t, f, l]) 43 (0, 0))]]) (by first | exact .inl rfl | exact .inr rfl) rfl (RV_tmp rfl) ?sb ?po
      case po =>
        exact ⟨by simp_all <;> omega, rfl, rfl⟩
      case sb => exact (by repeat (first | exact SubB.nil | exact Pick.here | apply Pick.there | apply SubB.emp | apply SubB.cons))
  · skip
    refine VD_skip rfl rfl rfl ?_
    refine VD_skip rfl rfl rfl ?_
    refine VD_skip rfl rfl rfl ?_
    refine VD_skip rfl rfl rfl ?_
    refine VD_skip rfl rfl rfl ?_
    refine VD_skip rfl rfl rfl ?_
    refine VD_skip rfl rfl rfl ?_
    first | refine VD_still rfl rfl rfl rfl (S_pick_t rfl rfl) ?_ | refine VD_still rfl rfl rfl rfl (S_pick_f rfl rfl) ?_
    refine VD_still rfl rfl rfl rfl (S_move rfl) ?_
    refine VD_skip rfl rfl rfl ?_
    refine VD_skip rfl rfl rfl ?_
    refine VD_skip rfl rfl rfl ?_
    first | refine VD_still rfl rfl rfl rfl (S_pick_t rfl rfl) ?_ | refine VD_still rfl rfl rfl rfl (S_pick_f rfl rfl) ?_
    refine VD_still rfl rfl rfl rfl (S_move rfl) ?_
    refine VD_skip rfl rfl rfl ?_
    refine VD_skip rfl rfl rfl ?_
    refine VD_skip rfl rfl rfl ?_
    refine VD_skip rfl rfl rfl ?_
    refine VD_skip rfl rfl rfl ?_
    refine VD_skip rfl rfl rfl ?_
    refine VD_skip rfl rfl rfl ?_
    refine VD_skip rfl rfl rfl ?_
    refine VD_skip rfl rfl rfl ?_
    refine VD_skip rfl rfl rfl ?_
    first | refine VD_still rfl rfl rfl rfl (S_pick_t rfl rfl) ?_ | refine VD_still rfl rfl rfl rfl (S_pick_f rfl rfl) ?_
    refine VD_still rfl rfl rfl rfl (S_assign rfl) ?_
    refine VD_nil ?_
    refine VQ_then ?_
    refine V_ret ?_
    refine VQ_fin1 (nb := [[(g, .cells (List.toArray [.int .i64 t, f, l]) 43 (0, 0))]]) (by first | exact .inl rfl | exact .inr rfl) rfl (RV_tmp rfl) ?sb ?po
    case po =>
      exact ⟨by simp_all <;> omega, rfl, rfl⟩
    case sb => exact (by repeat (first | exact SubB.nil | exact Pick.here | apply Pick.there | apply SubB.emp | apply SubB.cons))

set_option maxRecDepth 100000 in
theorem within1 (xs xn s n : Int) (be : Nat) (h : Hp) : Con Try.prog 27 [xt xs xn, .pointer (some ⟨be, 0, none⟩)] h [[(be, .cells (List.toArray [.int .i64 s, .int .i64 n]) 27 (0, 0))]] (fun v h' nb => v = .bool (decide (xs ≤ s) && decide (IntKind.i64.wrap (s + n) ≤ IntKind.i64.wrap (xs + xn))) ∧ h = h' ∧ nb = [[(be, .cells (List.toArray [.int .i64 s, .int .i64 n]) 27 (0, 0))]]) := by
  refine Con_of Try.func27 rfl Try.ntmps27 (Nat.le_of_ble_eq_true rfl) (fun w0 => ?_)
  refine V_seq ?_
  refine V_region ?_
  refine VL_eff rfl (E_box rfl rfl rfl) ?_
  rintro _ _ _ ⟨b2, hb2, rfl, rfl, rfl⟩
  refine VL_still rfl rfl rfl (S_assign rfl) ?_
  refine VL_nil ?_
  refine VQ_then ?_
  refine V_seq ?_
  refine V_draw _ _ 640 Try.mixed (by kernel_rfl) (Sub.refl _) (SubB.refl _) ?_
  refine VD_still rfl rfl rfl rfl (S_field (k := 0) Try.underlying27 rfl rfl ti3 rfl rfl) ?_
  refine VD_still rfl rfl rfl rfl (S_load Try.underlying3 rfl rfl (Cell.trk (by repeat (first | exact Has.here | apply Has.there)) rfl)) ?_
  refine VD_still rfl rfl rfl rfl (S_field (k := 0) Try.underlying27 rfl rfl ti3 rfl rfl) ?_
  refine VD_still rfl rfl rfl rfl (S_load Try.underlying3 rfl rfl (Cell.trk (by repeat (first | exact Has.here | apply Has.there)) rfl)) ?_
  refine VD_still rfl rfl rfl rfl (S_leq rfl rfl) ?_
  refine VD_still rfl rfl rfl rfl (S_move rfl) ?_
  refine VD_bool 9 rfl (fun hc9 => ?_) (fun hc9 => ?_)
  · skip
    first | refine VD_still rfl rfl rfl rfl (S_loads Try.underlying27 rfl ti27 rfl rfl (Cells.all (by repeat (first | exact Has.here | apply Has.there)))) ?_ | refine VD_still rfl rfl rfl rfl (S_loads Try.underlying27 rfl ti27 rfl rfl (Cells.trk (by repeat (first | exact Has.here | apply Has.there)) (by repeat (first | exact TakeR.here (by repeat (first | exact HeadR.nil | apply HeadR.cons)) | apply TakeR.there)))) ?_
    refine VD_eff rfl rfl (E_call rfl rfl rfl Try.call22 (end_con s n h) (by repeat (first | exact Split.nil | exact Pick.here | apply Pick.there | apply Split.cons))) ?_
    rintro _ _ _ ⟨v11, nb11, ⟨rfl, rfl, rfl⟩, hs11, rfl, rfl⟩
    refine ⟨⟨(by first | exact Sub.refl _ | assumption | exact Sub.trans (by assumption) (by assumption)), (by repeat (first | exact SubB.nil | exact Pick.here | apply Pick.there | apply SubB.emp | apply SubB.cons))⟩, ?_⟩
    first | refine VD_still rfl rfl rfl rfl (S_loads Try.underlying27 rfl ti27 rfl rfl (Cells.all (by repeat (first | exact Has.here | apply Has.there)))) ?_ | refine VD_still rfl rfl rfl rfl (S_loads Try.underlying27 rfl ti27 rfl rfl (Cells.trk (by repeat (first | exact Has.here | apply Has.there)) (by repeat (first | exact TakeR.here (by repeat (first | exact HeadR.nil | apply HeadR.cons)) | apply TakeR.there)))) ?_
    refine VD_eff rfl rfl (E_call rfl rfl rfl Try.call22 (end_con xs xn h) (by repeat (first | exact Split.nil | exact Pick.here | apply Pick.there | apply Split.cons))) ?_
    rintro _ _ _ ⟨v13, nb13, ⟨rfl, rfl, rfl⟩, hs13, rfl, rfl⟩
    refine ⟨⟨(by first | exact Sub.refl _ | assumption | exact Sub.trans (by assumption) (by assumption)), (by repeat (first | exact SubB.nil | exact Pick.here | apply Pick.there | apply SubB.emp | apply SubB.cons))⟩, ?_⟩
    refine VD_still rfl rfl rfl rfl (S_leq rfl rfl) ?_
    first | refine VD_still rfl rfl rfl rfl (S_pick_t rfl rfl) ?_ | refine VD_still rfl rfl rfl rfl (S_pick_f rfl rfl) ?_
    refine VD_still rfl rfl rfl rfl (S_assign rfl) ?_
    refine VD_nil ?_
    refine VQ_then ?_
    refine V_ret ?_
    refine VQ_fin1 (nb := [[(be, .cells (List.toArray [.int .i64 s, .int .i64 n]) 27 (0, 0))]]) (by first | exact .inl rfl | exact .inr rfl) rfl (RV_tmp rfl) ?sb ?po
    case po =>
      exact ⟨by simp_all <;> omega, rfl, rfl⟩
    case sb => exact (by repeat (first | exact SubB.nil | exact Pick.here | apply Pick.there | apply SubB.emp | apply SubB.cons))
  · skip
    refine VD_skip rfl rfl rfl ?_
    refine VD_skip rfl rfl rfl ?_
    refine VD_skip rfl rfl rfl ?_
    refine VD_skip rfl rfl rfl ?_
    refine VD_skip rfl rfl rfl ?_
    first | refine VD_still rfl rfl rfl rfl (S_pick_t rfl rfl) ?_ | refine VD_still rfl rfl rfl rfl (S_pick_f rfl rfl) ?_
    refine VD_still rfl rfl rfl rfl (S_assign rfl) ?_
    refine VD_nil ?_
    refine VQ_then ?_
    refine V_ret ?_
    refine VQ_fin1 (nb := [[(be, .cells (List.toArray [.int .i64 s, .int .i64 n]) 27 (0, 0))]]) (by first | exact .inl rfl | exact .inr rfl) rfl (RV_tmp rfl) ?sb ?po
    case po =>
      exact ⟨by simp_all <;> omega, rfl, rfl⟩
    case sb => exact (by repeat (first | exact SubB.nil | exact Pick.here | apply Pick.there | apply SubB.emp | apply SubB.cons))

set_option maxRecDepth 100000 in
theorem meets1 (xs xn s n : Int) (be : Nat) (h : Hp) : Con Try.prog 28 [xt xs xn, .pointer (some ⟨be, 0, none⟩)] h [[(be, .cells (List.toArray [.int .i64 s, .int .i64 n]) 27 (0, 0))]] (fun v h' nb => v = .bool (decide (xs < IntKind.i64.wrap (s + n)) && decide (s < IntKind.i64.wrap (xs + xn))) ∧ h = h' ∧ nb = [[(be, .cells (List.toArray [.int .i64 s, .int .i64 n]) 27 (0, 0))]]) := by
  refine Con_of Try.func28 rfl Try.ntmps28 (Nat.le_of_ble_eq_true rfl) (fun w0 => ?_)
  refine V_seq ?_
  refine V_region ?_
  refine VL_eff rfl (E_box rfl rfl rfl) ?_
  rintro _ _ _ ⟨b2, hb2, rfl, rfl, rfl⟩
  refine VL_still rfl rfl rfl (S_assign rfl) ?_
  refine VL_nil ?_
  refine VQ_then ?_
  refine V_seq ?_
  refine V_draw _ _ 520 Try.mixed (by kernel_rfl) (Sub.refl _) (SubB.refl _) ?_
  refine VD_still rfl rfl rfl rfl (S_field (k := 0) Try.underlying27 rfl rfl ti3 rfl rfl) ?_
  refine VD_still rfl rfl rfl rfl (S_load Try.underlying3 rfl rfl (Cell.trk (by repeat (first | exact Has.here | apply Has.there)) rfl)) ?_
  first | refine VD_still rfl rfl rfl rfl (S_loads Try.underlying27 rfl ti27 rfl rfl (Cells.all (by repeat (first | exact Has.here | apply Has.there)))) ?_ | refine VD_still rfl rfl rfl rfl (S_loads Try.underlying27 rfl ti27 rfl rfl (Cells.trk (by repeat (first | exact Has.here | apply Has.there)) (by repeat (first | exact TakeR.here (by repeat (first | exact HeadR.nil | apply HeadR.cons)) | apply TakeR.there)))) ?_
  refine VD_eff rfl rfl (E_call rfl rfl rfl Try.call22 (end_con s n h) (by repeat (first | exact Split.nil | exact Pick.here | apply Pick.there | apply Split.cons))) ?_
  rintro _ _ _ ⟨v7, nb7, ⟨rfl, rfl, rfl⟩, hs7, rfl, rfl⟩
  refine ⟨⟨(by first | exact Sub.refl _ | assumption | exact Sub.trans (by assumption) (by assumption)), (by repeat (first | exact SubB.nil | exact Pick.here | apply Pick.there | apply SubB.emp | apply SubB.cons))⟩, ?_⟩
  refine VD_still rfl rfl rfl rfl (S_lss rfl rfl) ?_
  refine VD_still rfl rfl rfl rfl (S_move rfl) ?_
  refine VD_bool 9 rfl (fun hc9 => ?_) (fun hc9 => ?_)
  · skip
    refine VD_still rfl rfl rfl rfl (S_field (k := 0) Try.underlying27 rfl rfl ti3 rfl rfl) ?_
    refine VD_still rfl rfl rfl rfl (S_load Try.underlying3 rfl rfl (Cell.trk (by repeat (first | exact Has.here | apply Has.there)) rfl)) ?_
    first | refine VD_still rfl rfl rfl rfl (S_loads Try.underlying27 rfl ti27 rfl rfl (Cells.all (by repeat (first | exact Has.here | apply Has.there)))) ?_ | refine VD_still rfl rfl rfl rfl (S_loads Try.underlying27 rfl ti27 rfl rfl (Cells.trk (by repeat (first | exact Has.here | apply Has.there)) (by repeat (first | exact TakeR.here (by repeat (first | exact HeadR.nil | apply HeadR.cons)) | apply TakeR.there)))) ?_
    refine VD_eff rfl rfl (E_call rfl rfl rfl Try.call22 (end_con xs xn h) (by repeat (first | exact Split.nil | exact Pick.here | apply Pick.there | apply Split.cons))) ?_
    rintro _ _ _ ⟨v13, nb13, ⟨rfl, rfl, rfl⟩, hs13, rfl, rfl⟩
    refine ⟨⟨(by first | exact Sub.refl _ | assumption | exact Sub.trans (by assumption) (by assumption)), (by repeat (first | exact SubB.nil | exact Pick.here | apply Pick.there | apply SubB.emp | apply SubB.cons))⟩, ?_⟩
    refine VD_still rfl rfl rfl rfl (S_lss rfl rfl) ?_
    first | refine VD_still rfl rfl rfl rfl (S_pick_t rfl rfl) ?_ | refine VD_still rfl rfl rfl rfl (S_pick_f rfl rfl) ?_
    refine VD_still rfl rfl rfl rfl (S_assign rfl) ?_
    refine VD_nil ?_
    refine VQ_then ?_
    refine V_ret ?_
    refine VQ_fin1 (nb := [[(be, .cells (List.toArray [.int .i64 s, .int .i64 n]) 27 (0, 0))]]) (by first | exact .inl rfl | exact .inr rfl) rfl (RV_tmp rfl) ?sb ?po
    case po =>
      exact ⟨by simp_all <;> omega, rfl, rfl⟩
    case sb => exact (by repeat (first | exact SubB.nil | exact Pick.here | apply Pick.there | apply SubB.emp | apply SubB.cons))
  · skip
    refine VD_skip rfl rfl rfl ?_
    refine VD_skip rfl rfl rfl ?_
    refine VD_skip rfl rfl rfl ?_
    refine VD_skip rfl rfl rfl ?_
    refine VD_skip rfl rfl rfl ?_
    first | refine VD_still rfl rfl rfl rfl (S_pick_t rfl rfl) ?_ | refine VD_still rfl rfl rfl rfl (S_pick_f rfl rfl) ?_
    refine VD_still rfl rfl rfl rfl (S_assign rfl) ?_
    refine VD_nil ?_
    refine VQ_then ?_
    refine V_ret ?_
    refine VQ_fin1 (nb := [[(be, .cells (List.toArray [.int .i64 s, .int .i64 n]) 27 (0, 0))]]) (by first | exact .inl rfl | exact .inr rfl) rfl (RV_tmp rfl) ?sb ?po
    case po =>
      exact ⟨by simp_all <;> omega, rfl, rfl⟩
    case sb => exact (by repeat (first | exact SubB.nil | exact Pick.here | apply Pick.there | apply SubB.emp | apply SubB.cons))

end Go.Proofs.YtgnjocnbohbfaaaR
