/- Contracts of the laws of extents, part 1: the map's little life. No conditions. -/
import Derived.Test.YtgnjocnbohbfaaaRA8
set_option linter.unusedVariables false
set_option linter.unusedSimpArgs false
namespace Go.Proofs.YtgnjocnbohbfaaaR

theorem eqE (a b c d : Int) (w : World) : (Op.equal 27 (xt a b) (xt c d)).run Try.prog w = .ok (decide (a = c) && decide (b = d)) w := by
  have hi : ∀ (n : Nat) (x y : Int), (Op.equalIn (n + 1) 3 (.int .i64 x) (.int .i64 y)).run Try.prog w = .ok (x == y) w := fun n x y => by
    simp only [Op.equalIn, Sem.run_bind, run_under w Try.underlying3, Result.andThen_ok, if_true]; rfl
  have : ∀ n, (Op.equalIn (n + 2) 27 (xt a b) (xt c d)).run Try.prog w = .ok (decide (a = c) && decide (b = d)) w := fun n => by
    rw [Op.equalIn]
    simp only [Sem.run_bind, run_under w Try.underlying27, Result.andThen_ok]
    have hp : (program).run Try.prog w = .ok Try.prog w := rfl
    have p1 : ∀ x y : Int, (part 3 #[Value.int .i64 x, Value.int .i64 y] 0).run Try.prog w = .ok (.int .i64 x) w := fun _ _ => rfl
    have p2 : ∀ x y : Int, (part 3 #[Value.int .i64 x, Value.int .i64 y] 1).run Try.prog w = .ok (.int .i64 y) w := fun _ _ => rfl
    simp only [hp, Result.andThen_ok, show Try.prog.stoodInHeld 27 = false by kernel_rfl, Bool.false_eq_true, if_false, List.forIn_toArray, List.forIn_cons, List.forIn_nil, Sem.run_bind, show ("Start" ≠ "_") = True by simp, show ("Len" ≠ "_") = True by simp, if_true, p1, p2, hi]
    by_cases h1 : a = c <;> by_cases h2 : b = d <;> simp [h1, h2, Sem.run_bind, p1, p2, hi]
  exact this 9998
instance (x : Ex) : Decidable (OkE x) := by unfold OkE; infer_instance
theorem alive1 {e : Ex} {er : Int} {f : List Ex} (h : AllocP 4 [(0, 10)] e er f) : er = 0 ∧ e = (0, 4) ∧ f = [(4, 6)] := by
  rcases h with ⟨h, _⟩ | ⟨_, h, _⟩ | ⟨_, h1, x, hx, _, rfl, rfl⟩
  · omega
  · simp at h
  · obtain rfl : x = (0, 10) := by simpa using hx
    exact ⟨h1, by decide, by decide⟩
theorem alive2 {e : Ex} {er : Int} {f : List Ex} (h : AllocP 4 [(4, 6)] e er f) : er = 0 ∧ e = (4, 4) ∧ f = [(8, 2)] := by
  rcases h with ⟨h, _⟩ | ⟨_, h, _⟩ | ⟨_, h1, x, hx, _, rfl, rfl⟩
  · omega
  · simp at h
  · obtain rfl : x = (4, 6) := by simpa using hx
    exact ⟨h1, by decide, by decide⟩
theorem alive3 {e : Ex} {er : Int} {f : List Ex} (h : AllocP 5 [(0, 4), (8, 2)] e er f) : er = 0 ∧ e = (0, 4) ∧ f = [(8, 2)] := by
  rcases h with ⟨h, _⟩ | ⟨_, h, _⟩ | ⟨_, h1, x, hx, hm, rfl, rfl⟩
  · omega
  · simp at h
  · have hx' : x = (0, 4) ∨ x = (8, 2) := by simpa using hx
    rcases hx' with rfl | rfl
    · exact ⟨h1, by decide, by decide⟩
    · rcases hm with hm | hm
      · have := hm (0, 4) (by simp)
        simp at this
      · simp at hm
theorem good10 : Good [(0, 10)] := ⟨by decide, by decide⟩

set_option maxRecDepth 100000 in
theorem alive_con (h : Hp) : Con Try.prog 5 [] h [] (fun r h' nb => h = h' ∧ r = .bool true ∧ nb = []) := by
  refine Con_of Try.func5 rfl Try.ntmps5 (Nat.le_of_ble_eq_true rfl) (fun w0 => ?_)
  refine V_seq ?_
  refine V_region ?_
  refine VL_still rfl rfl rfl (S_assign rfl) ?_
  refine VL_nil ?_
  refine VQ_then ?_
  refine V_seq ?_
  refine V_region ?_
  refine VL_eff rfl (E_call rfl rfl rfl Try.call6 (new_con 10 h) (by repeat (first | exact Split.nil | exact Pick.here | apply Pick.there | apply Split.cons))) ?_
  rintro _ _ _ ⟨v6, nb6, ⟨rfl, g, vf, Gf, rfl, hB, rfl⟩, hs6, rfl, rfl⟩
  rw [show newL 10 = [(0, 10)] by decide] at hB
  rw [show clampT 10 = 10 by decide]
  refine VL_still rfl rfl rfl (S_assign rfl) ?_
  refine VL_nil ?_
  refine VQ_then ?_
  refine V_seq ?_
  refine V_seq ?_
  refine V_region ?_
  refine VL_still rfl rfl rfl (S_move rfl) ?_
  refine VL_still rfl rfl rfl (S_peqnil Try.underlying24 rfl rfl) ?_
  refine VL_nil ?_
  refine VQ_then ?_
  refine V_cond rfl (fun hc8 => ?_) (fun hc8 => ?_)
  · skip
    simp at hc8
  · skip
    refine V_skip ?_
    refine VQ_then ?_
    refine V_seq ?_
    refine V_region ?_
    refine VL_still rfl rfl rfl (S_move rfl) ?_
    refine VL_eff rfl (E_call rfl rfl rfl Try.call7 (alloc_con g 10 vf (.slice none 0 0) [(0, 10)] [] Gf [] h hB (by simp) 4 (by decide)) (by repeat (first | exact Split.nil | exact Pick.here | apply Pick.there | apply Split.cons))) ?_
    rintro _ _ _ ⟨v11, nb11, ⟨rfl, e1, er1, f1, v1, G1, rfl, hP1, hB1, rfl⟩, hs11, rfl, rfl⟩
    obtain ⟨rfl, rfl, rfl⟩ := alive1 hP1
    refine VL_still rfl rfl rfl (S_move rfl) ?_
    refine VL_still rfl rfl rfl (S_extract rfl rfl) ?_
    refine VL_still rfl rfl rfl (S_extract rfl rfl) ?_
    refine VL_eff rfl (E_alloc rfl tz27) ?_
    rintro _ _ _ ⟨b2, hb2, rfl, rfl, rfl⟩
    refine VL_eff rfl (E_store ti27 rfl rfl rfl rfl rfl (by repeat (first | exact Has.here | apply Has.there)) (by repeat (first | exact PutR.nil | exact SetL.here | apply SetL.there | apply PutR.cons)) (by repeat (first | exact UpdG.here | apply UpdG.there))) ?_
    rintro _ _ _ ⟨rfl, rfl, rfl⟩
    refine VL_still rfl rfl rfl (S_assign rfl) ?_
    refine VL_nil ?_
    refine VQ_then ?_
    refine V_seq ?_
    refine V_region ?_
    refine VL_still rfl rfl rfl (S_move rfl) ?_
    refine VL_eff rfl (E_call rfl rfl rfl Try.call7 (alloc_con g 10 v1 (.slice none 0 0) [(4, 6)] [] G1 [] h hB1 (by simp) 4 (by decide)) (by repeat (first | exact Split.nil | exact Pick.here | apply Pick.there | apply Split.cons))) ?_
    rintro _ _ _ ⟨v15, nb15, ⟨rfl, e2, er2, f2, v2, G2, rfl, hP2, hB2, rfl⟩, hs15, rfl, rfl⟩
    obtain ⟨rfl, rfl, rfl⟩ := alive2 hP2
    refine VL_nil ?_
    refine VQ_then ?_
    refine V_seq ?_
    refine V_region ?_
    refine VL_still rfl rfl rfl (S_move rfl) ?_
    first | refine VL_still rfl rfl rfl (S_loads Try.underlying27 rfl ti27 rfl rfl (Cells.all (by repeat (first | exact Has.here | apply Has.there)))) ?_ | refine VL_still rfl rfl rfl (S_loads Try.underlying27 rfl ti27 rfl rfl (Cells.trk (by repeat (first | exact Has.here | apply Has.there)) (by repeat (first | exact TakeR.here (by repeat (first | exact HeadR.nil | apply HeadR.cons)) | apply TakeR.there)))) ?_
    refine VL_eff rfl (E_call rfl rfl rfl Try.call8 (free_con g 10 v2 (.slice none 0 0) [(8, 2)] [] G2 [] h hB2 (Buf.nil _ _) (by simp) (by simp) 0 4 (by omega) (by decide)) (by repeat (first | exact Split.nil | exact Pick.here | apply Pick.there | apply Split.cons))) ?_
    rintro _ _ _ ⟨v18, nb18, ⟨rfl, rfl, v3, G3, hB3, rfl⟩, hs18, rfl, rfl⟩
    rw [show (if takenB 10 0 4 [(8, 2)] [] then putL (0, 4) [(8, 2)] else [(8, 2)]) = [(0, 4), (8, 2)] by decide] at hB3
    refine VL_nil ?_
    refine VQ_then ?_
    refine V_seq ?_
    refine V_region ?_
    refine VL_still rfl rfl rfl (S_move rfl) ?_
    refine VL_eff rfl (E_call rfl rfl rfl Try.call7 (alloc_con g 10 v3 (.slice none 0 0) [(0, 4), (8, 2)] [] G3 [] h hB3 (by simp) 5 (by decide)) (by repeat (first | exact Split.nil | exact Pick.here | apply Pick.there | apply Split.cons))) ?_
    rintro _ _ _ ⟨v21, nb21, ⟨rfl, e4, er4, f4, v4, G4, rfl, hP4, hB4, rfl⟩, hs21, rfl, rfl⟩
    obtain ⟨rfl, rfl, rfl⟩ := alive3 hP4
    refine VL_still rfl rfl rfl (S_move rfl) ?_
    refine VL_still rfl rfl rfl (S_extract rfl rfl) ?_
    refine VL_still rfl rfl rfl (S_extract rfl rfl) ?_
    refine VL_eff rfl (E_alloc rfl tz27) ?_
    rintro _ _ _ ⟨b4, hb4, rfl, rfl, rfl⟩
    refine VL_eff rfl (E_store ti27 rfl rfl rfl rfl rfl (by repeat (first | exact Has.here | apply Has.there)) (by repeat (first | exact PutR.nil | exact SetL.here | apply SetL.there | apply PutR.cons)) (by repeat (first | exact UpdG.here | apply UpdG.there))) ?_
    rintro _ _ _ ⟨rfl, rfl, rfl⟩
    refine VL_still rfl rfl rfl (S_assign rfl) ?_
    refine VL_nil ?_
    refine VQ_then ?_
    refine V_seq ?_
    refine V_region ?_
    first | refine VL_still rfl rfl rfl (S_loads Try.underlying27 rfl ti27 rfl rfl (Cells.all (by repeat (first | exact Has.here | apply Has.there)))) ?_ | refine VL_still rfl rfl rfl (S_loads Try.underlying27 rfl ti27 rfl rfl (Cells.trk (by repeat (first | exact Has.here | apply Has.there)) (by repeat (first | exact TakeR.here (by repeat (first | exact HeadR.nil | apply HeadR.cons)) | apply TakeR.there)))) ?_
    refine VL_still rfl rfl rfl (S_struct Try.underlying27 to27 tz27 rfl (by repeat (first | exact BuildR.nil | exact PutR.nil | exact SetL.here | apply SetL.there | apply PutR.cons | apply BuildR.cons rfl (by first | exact ti3) rfl rfl rfl))) ?_
    refine VL_still rfl rfl rfl (S_eqa (by kernel_rfl) (eqE 0 4 0 4) rfl rfl) ?_
    refine VL_still rfl rfl rfl (S_move rfl) ?_
    refine VL_bool 27 rfl (fun hc27 => ?_) (fun hc27 => ?_)
    · skip
      refine VL_still rfl rfl rfl (S_move rfl) ?_
      refine VL_still rfl rfl rfl (S_eql rfl rfl) ?_
      first | refine VL_still rfl rfl rfl (S_pick_t rfl rfl) ?_ | refine VL_still rfl rfl rfl (S_pick_f rfl rfl) ?_
      refine VL_still rfl rfl rfl (S_move rfl) ?_
      refine VL_bool 31 rfl (fun hc31 => ?_) (fun hc31 => ?_)
      · skip
        first | refine VL_still rfl rfl rfl (S_loads Try.underlying27 rfl ti27 rfl rfl (Cells.all (by repeat (first | exact Has.here | apply Has.there)))) ?_ | refine VL_still rfl rfl rfl (S_loads Try.underlying27 rfl ti27 rfl rfl (Cells.trk (by repeat (first | exact Has.here | apply Has.there)) (by repeat (first | exact TakeR.here (by repeat (first | exact HeadR.nil | apply HeadR.cons)) | apply TakeR.there)))) ?_
        first | refine VL_still rfl rfl rfl (S_loads Try.underlying27 rfl ti27 rfl rfl (Cells.all (by repeat (first | exact Has.here | apply Has.there)))) ?_ | refine VL_still rfl rfl rfl (S_loads Try.underlying27 rfl ti27 rfl rfl (Cells.trk (by repeat (first | exact Has.here | apply Has.there)) (by repeat (first | exact TakeR.here (by repeat (first | exact HeadR.nil | apply HeadR.cons)) | apply TakeR.there)))) ?_
        refine VL_still rfl rfl rfl (S_eqa (by kernel_rfl) (eqE 0 4 0 4) rfl rfl) ?_
        first | refine VL_still rfl rfl rfl (S_pick_t rfl rfl) ?_ | refine VL_still rfl rfl rfl (S_pick_f rfl rfl) ?_
        refine VL_still rfl rfl rfl (S_move rfl) ?_
        refine VL_bool 36 rfl (fun hc36 => ?_) (fun hc36 => ?_)
        · skip
          refine VL_still rfl rfl rfl (S_move rfl) ?_
          refine VL_eff rfl (E_call rfl rfl rfl Try.call10 (count_con g 10 v4 (.slice none 0 0) [(8, 2)] [] G4 [] h hB4 (by simp) (by decide)) (by repeat (first | exact Split.nil | exact Pick.here | apply Pick.there | apply Split.cons))) ?_
          rintro _ _ _ ⟨v38, nb38, ⟨rfl, rfl, rfl⟩, hs38, rfl, rfl⟩
          refine VL_still rfl rfl rfl (S_eql rfl rfl) ?_
          first | refine VL_still rfl rfl rfl (S_pick_t rfl rfl) ?_ | refine VL_still rfl rfl rfl (S_pick_f rfl rfl) ?_
          refine VL_still rfl rfl rfl (S_assign rfl) ?_
          refine VL_nil ?_
          refine VQ_then ?_
          refine V_ret ?_
          refine VQ_fin1 (nb := []) (by first | exact .inl rfl | exact .inr rfl) rfl (RV_tmp rfl) ?sb ?po
          case po =>
            exact ⟨rfl, rfl, rfl⟩
          case sb => exact (by repeat (first | exact SubB.nil | exact Pick.here | apply Pick.there | apply SubB.emp | apply SubB.cons))
        · skip
          simp at hc36
      · skip
        simp at hc31
    · skip
      simp at hc27

end Go.Proofs.YtgnjocnbohbfaaaR
