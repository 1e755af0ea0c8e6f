/- The reference of trees. No conditions. -/
import Derived.Test.YtdglignjoojimaaB11
import Derived.Test.YtdglignjoojimaaT6
set_option linter.unusedVariables false
set_option linter.unusedSimpArgs false
namespace Go.Proofs.Ytdglignjoojimaa

/-- Pairs in a slice that is known for good. -/
abbrev PL (h : Hp) (v : Value) (l : List Pr) : Prop := SlR h [] v l.length (prs l) 3
theorem BP.kn {h : Hp} {v : Value} {l : List Pr} {G : Gr} (B : BP v l G) (k : KnowG h G) : PL h v l := B.known k
set_option maxRecDepth 100000 in
theorem eqX (a b c d : Int) (w : World) : (Op.equal 34 (.agg #[.int .i64 a, .int .i64 b]) (.agg #[.int .i64 c, .int .i64 d])).run Try.prog w = .ok (decide (a = c) && decide (b = d)) w ∧
    ∀ n, (Op.equalIn (n + 2) 34 (.agg #[.int .i64 a, .int .i64 b]) (.agg #[.int .i64 c, .int .i64 d])).run Try.prog w = .ok (decide (a = c) && decide (b = d)) w := by
  have hi : ∀ (n : Nat) (x y : Int), (Op.equalIn (n + 1) 3 (.int .i64 x) (.int .i64 y)).run Try.prog w = .ok (x == y) w := fun n x y => by
    simp only [Op.equalIn, Sem.run_bind, run_under w Try.underlying3, Result.andThen_ok, if_true]; rfl
  have this : ∀ n, (Op.equalIn (n + 2) 34 (.agg #[.int .i64 a, .int .i64 b]) (.agg #[.int .i64 c, .int .i64 d])).run Try.prog w = .ok (decide (a = c) && decide (b = d)) w := fun n => by
    rw [Op.equalIn]
    simp only [Sem.run_bind, run_under w Try.underlying34, Result.andThen_ok]
    have hp : (program).run Try.prog w = .ok Try.prog w := rfl
    have p1 : ∀ x y : Int, (part 3 #[Value.int .i64 x, Value.int .i64 y] 0).run Try.prog w = .ok (.int .i64 x) w := fun _ _ => rfl
    have p2 : ∀ x y : Int, (part 3 #[Value.int .i64 x, Value.int .i64 y] 1).run Try.prog w = .ok (.int .i64 y) w := fun _ _ => rfl
    simp only [hp, Result.andThen_ok, show Try.prog.stoodInHeld 34 = false by kernel_rfl, Bool.false_eq_true, if_false, List.forIn_toArray, List.forIn_cons, List.forIn_nil, Sem.run_bind, show ("Start" ≠ "_") = True by simp, show ("Len" ≠ "_") = True by simp, if_true, p1, p2, hi]
    by_cases h1 : a = c <;> by_cases h2 : b = d <;> simp [h1, h2, Sem.run_bind, p1, p2, hi]
  exact ⟨this 9998, this⟩
set_option maxRecDepth 100000 in
theorem eqP (p q : Pr) (w : World) : (Op.equal 47 (.agg #[.int .u64 p.1, .int .i64 p.2.1, .int .i64 p.2.2]) (.agg #[.int .u64 q.1, .int .i64 q.2.1, .int .i64 q.2.2])).run Try.prog w = .ok (decide (p = q)) w := by
  obtain ⟨a, b, c⟩ := p
  obtain ⟨x, y, z⟩ := q
  have hi : ∀ (n : Nat) (x y : Int), (Op.equalIn (n + 1) 23 (.int .u64 x) (.int .u64 y)).run Try.prog w = .ok (x == y) w := fun n x y => by
    simp only [Op.equalIn, Sem.run_bind, run_under w Try.underlying23, Result.andThen_ok, if_true]; rfl
  have he := fun b c y z => (eqX b c y z w).2
  have this : ∀ n, (Op.equalIn (n + 3) 47 (.agg #[.int .u64 a, .int .i64 b, .int .i64 c]) (.agg #[.int .u64 x, .int .i64 y, .int .i64 z])).run Try.prog w = .ok (decide (a = x) && (decide (b = y) && decide (c = z))) w := fun n => by
    rw [Op.equalIn]
    simp only [Sem.run_bind, run_under w Try.underlying47, Result.andThen_ok]
    have hp : (program).run Try.prog w = .ok Try.prog w := rfl
    have p1 : ∀ x y z : Int, (part 23 #[Value.int .u64 x, Value.int .i64 y, Value.int .i64 z] 0).run Try.prog w = .ok (.int .u64 x) w := fun _ _ _ => rfl
    have p2 : ∀ x y z : Int, (part 34 #[Value.int .u64 x, Value.int .i64 y, Value.int .i64 z] 1).run Try.prog w = .ok (.agg #[.int .i64 y, .int .i64 z]) w := fun _ _ _ => rfl
    simp only [hp, Result.andThen_ok, show Try.prog.stoodInHeld 47 = false by kernel_rfl, Bool.false_eq_true, if_false, List.forIn_toArray, List.forIn_cons, List.forIn_nil, Sem.run_bind, show ("Key" ≠ "_") = True by simp, show ("At" ≠ "_") = True by simp, if_true, p1, p2, hi, he]
    by_cases h1 : a = x <;> by_cases h2 : b = y <;> by_cases h3 : c = z <;> simp [h1, h2, h3, Sem.run_bind, p1, p2, hi, he]
  have e := this 9997
  have e2 : decide ((a, b, c) = (x, y, z)) = (decide (a = x) && (decide (b = y) && decide (c = z))) := by
    rw [Bool.eq_iff_iff]; simp
  rw [e2]; exact e

set_option maxRecDepth 100000 in
theorem same_con (v u : Value) (l m : List Pr) (h : Hp) (hs : PL h v l) (hm : PL h u m) (hn : l.length ≤ 100000) (hn2 : m.length ≤ 100000) : Con Try.prog 14 [v, u] h [] (fun r h' nb => r = .bool (decide (l = m)) ∧ h = h' ∧ nb = []) := by
  obtain ⟨A, cap, rfl, hle, hmx⟩ := hs.form
  obtain ⟨A2, cap2, rfl, hle2, hmx2⟩ := hm.form
  refine Con_of Try.func14 rfl Try.ntmps14 (Nat.le_of_ble_eq_true rfl) (fun w0 => ?_)
  refine V_seq ?_
  refine V_region ?_
  refine VL_still rfl rfl rfl (S_assign rfl) ?_
  refine VL_nil ?_
  refine VQ_then ?_
  refine V_seq ?_
  refine V_seq ?_
  refine V_region ?_
  refine VL_still rfl rfl rfl (S_move rfl) ?_
  refine VL_still rfl rfl rfl (S_len Try.underlying26 rfl) ?_
  refine VL_still rfl rfl rfl (S_move rfl) ?_
  refine VL_still rfl rfl rfl (S_len Try.underlying26 rfl) ?_
  refine VL_still rfl rfl rfl (S_neq rfl rfl) ?_
  refine VL_nil ?_
  refine VQ_then ?_
  refine V_cond rfl (fun hc10 => ?_) (fun hc10 => ?_)
  · skip
    have hne : l.length ≠ m.length := by
      simp only [Bool.not_eq_true', decide_eq_false_iff_not] at hc10
      omega
    refine V_seq ?_
    refine V_region ?_
    refine VL_still rfl rfl rfl (S_assign rfl) ?_
    refine VL_nil ?_
    refine VQ_then ?_
    refine V_ret ?_
    refine VQ_then_ret ?_
    refine VQ_fin1 (nb := []) (by first | exact .inl rfl | exact .inr rfl) rfl (RV_tmp rfl) ?sb ?po
    case po =>
      refine ⟨?_, rfl, rfl⟩
      rw [decide_eq_false (fun e => hne (by rw [e]))]
    case sb => exact (by repeat (first | exact SubB.nil | exact Pick.here | apply Pick.there | apply SubB.emp | apply SubB.cons))
  · skip
    have heq : l.length = m.length := by
      simp only [Bool.not_eq_false', decide_eq_true_eq] at hc10
      omega
    refine V_skip ?_
    refine VQ_then ?_
    refine V_seq ?_
    refine V_seq ?_
    refine V_region ?_
    refine VL_still rfl rfl rfl (S_move rfl) ?_
    refine VL_still rfl rfl rfl (S_len Try.underlying26 rfl) ?_
    refine VL_still rfl rfl rfl (S_move rfl) ?_
    refine VL_nil ?_
    refine VQ_then ?_
    refine V_block ?_
    refine V_loop (ι := Nat) (fun i => l.length - i) (fun i => i ≤ l.length ∧ l.take i = m.take i) (fun i => [(0, (.slice A l.length cap)), (1, .slice A2 m.length cap2), (12, .int .i64 l.length), (13, .int .i64 i)]) (fun _ => h) (fun _ => []) 0 ⟨Nat.zero_le _, by simp⟩ (by repeat (first | exact trivial | refine ⟨rfl, ?_⟩)) rfl (by repeat (first | exact SubB.nil | exact Pick.here | apply Pick.there | apply SubB.emp | apply SubB.cons)) (fun i hi => ?_)
    obtain ⟨hi1, hi2⟩ := hi
    refine V_seq ?_
    refine V_region ?_
    refine VL_still rfl rfl rfl (S_lss rfl rfl) ?_
    refine VL_nil ?_
    refine VQ_then ?_
    refine V_seq ?_
    refine V_cond rfl (fun hc14 => ?_) (fun hc14 => ?_)
    · skip
      have hlt : i < l.length := by
        have := of_decide_eq_true hc14
        omega
      obtain ⟨bb, off, cap', e1, hcc⟩ := hs.at_ prE rfl hlt
      simp only [Value.slice.injEq] at e1
      obtain ⟨rfl, _, rfl⟩ := e1
      have hlt2 : i < m.length := by omega
      obtain ⟨bb2, off2, cap2', e1, hcc2⟩ := hm.at_ prE rfl hlt2
      simp only [Value.slice.injEq] at e1
      obtain ⟨rfl, _, rfl⟩ := e1
      refine V_skip ?_
      refine VQ_then ?_
      refine V_seq ?_
      refine V_block ?_
      refine V_seq ?_
      refine V_region ?_
      refine VL_still rfl rfl rfl (S_move rfl) ?_
      refine VL_still rfl rfl rfl (S_assign rfl) ?_
      refine VL_nil ?_
      refine VQ_then ?_
      refine V_seq ?_
      refine V_draw _ [] 0 Try.mixed (by kernel_rfl) (Sub.refl _) SubB.nil ?_
      refine VD_still rfl rfl rfl rfl (S_move rfl) ?_
      refine VD_still rfl rfl rfl rfl (S_move rfl) ?_
      refine VD_still rfl rfl rfl rfl (X_at i Try.underlying26 tx47 rfl rfl hlt) ?_
      refine VD_still rfl rfl rfl rfl (S_loads (vs := pr l[i]) Try.underlying47 rfl ti47 rfl rfl (hcc.mono (Sub.refl _) (fun q hq => by simp at hq))) ?_
      refine VD_still rfl rfl rfl rfl (S_move rfl) ?_
      refine VD_still rfl rfl rfl rfl (S_move rfl) ?_
      refine VD_still rfl rfl rfl rfl (X_at i Try.underlying26 tx47 rfl rfl hlt2) ?_
      refine VD_still rfl rfl rfl rfl (S_loads (vs := pr m[i]) Try.underlying47 rfl ti47 rfl rfl (hcc2.mono (Sub.refl _) (fun q hq => by simp at hq))) ?_
      refine VD_still rfl rfl rfl rfl (S_nea (by kernel_rfl) (eqP l[i] m[i]) rfl rfl) ?_
      refine VD_nil ?_
      refine VQ_then ?_
      refine V_cond rfl (fun hc24 => ?_) (fun hc24 => ?_)
      · skip
        have hne : l[i] ≠ m[i] := by simpa using hc24
        refine V_seq ?_
        refine V_region ?_
        refine VL_still rfl rfl rfl (S_assign rfl) ?_
        refine VL_nil ?_
        refine VQ_then ?_
        refine V_ret ?_
        refine VQ_block_ret ?_
        refine VQ_then_ret ?_
        refine VQ_then_ret ?_
        refine VQ_block_ret ?_
        refine VQ_then_ret ?_
        refine VQ_fin1 (nb := []) (by first | exact .inl rfl | exact .inr rfl) rfl (RV_tmp rfl) ?sb ?po
        case po =>
          refine ⟨?_, rfl, rfl⟩
          rw [decide_eq_false (fun e => hne (by subst e; rfl))]
        case sb => exact (by repeat (first | exact SubB.nil | exact Pick.here | apply Pick.there | apply SubB.emp | apply SubB.cons))
      · skip
        have he : l[i] = m[i] := by simpa using hc24
        refine V_skip ?_
        refine VQ_block_normal ?_
        refine VQ_then ?_
        refine V_region ?_
        first | refine VL_still rfl rfl rfl (S_addi rfl rfl (by omega) (by omega)) ?_ | refine VL_still rfl rfl rfl (S_add rfl rfl) ?_
        refine VL_still rfl rfl rfl (S_move rfl) ?_
        refine VL_nil ?_
        refine VQ_mid (i + 1) ⟨⟨by omega, ?_⟩, by omega⟩ (by repeat (first | exact trivial | refine ⟨rfl, ?_⟩)) rfl SubB.nil
        rw [take_snoc l i hlt, take_snoc m i hlt2, hi2, he]
    · skip
      refine V_exit ?_
      refine VQ_then_exit ?_
      refine VQ_then_exit ?_
      refine VQ_block_exit ?_
      refine VQ_then ?_
      refine V_seq ?_
      refine V_region ?_
      refine VL_still rfl rfl rfl (S_assign rfl) ?_
      refine VL_nil ?_
      refine VQ_then ?_
      refine V_ret ?_
      refine VQ_fin1 (nb := []) (by first | exact .inl rfl | exact .inr rfl) rfl (RV_tmp rfl) ?sb ?po
      case po =>
        have hge : i = l.length := by
          have := of_decide_eq_false hc14
          omega
        subst hge
        rw [List.take_length, heq, List.take_length] at hi2
        exact ⟨by rw [decide_eq_true hi2], rfl, rfl⟩
      case sb => exact (by repeat (first | exact SubB.nil | exact Pick.here | apply Pick.there | apply SubB.emp | apply SubB.cons))

set_option maxRecDepth 100000 in
theorem rrange_con (v : Value) (l : List Pr) (h : Hp) (hs : PL h v l) (hn : l.length ≤ 100000) (k to : Int) : Con Try.prog 16 [v, .int .u64 k, .int .u64 to] h [] (fun r h' nb => h = h' ∧ ∃ G', BP r (rangeP k to l) G' ∧ nb = [G']) := by
  obtain ⟨A, cap, rfl, hle, hmx⟩ := hs.form
  refine Con_of Try.func16 rfl Try.ntmps16 (Nat.le_of_ble_eq_true rfl) (fun w0 => ?_)
  refine V_seq ?_
  refine V_region ?_
  refine VL_still rfl rfl rfl (S_assign rfl) ?_
  refine VL_nil ?_
  refine VQ_then ?_
  refine V_seq ?_
  refine V_region ?_
  refine VL_eff rfl (E_bs0 rfl Try.underlying26 ti47) ?_
  rintro _ _ _ ⟨b10, hb10, rfl, rfl, rfl⟩
  refine VL_still rfl rfl rfl (S_assign rfl) ?_
  refine VL_nil ?_
  refine VQ_then ?_
  refine V_seq ?_
  refine V_seq ?_
  refine V_region ?_
  refine VL_still rfl rfl rfl (S_move rfl) ?_
  refine VL_still rfl rfl rfl (S_len Try.underlying26 rfl) ?_
  refine VL_still rfl rfl rfl (S_move rfl) ?_
  refine VL_nil ?_
  refine VQ_then ?_
  refine V_block ?_
  refine V_loop (ι := Nat × Value × Gr) (fun x => l.length - x.1) (fun (i, v, G) => i ≤ l.length ∧ BP v (rangeP k to (l.take i)) G) (fun (i, v, G) => [(0, (.slice A l.length cap)), (1, .int .u64 k), (2, .int .u64 to), (7, v), (11, (.slice A l.length cap)), (12, .int .i64 l.length), (13, .int .i64 i)]) (fun _ => h) (fun (i, v, G) => [G]) (0, .slice (some ⟨b10, 0, none⟩) 0 0, _) ⟨Nat.zero_le _, Buf.lit (n := 0) (cs := []) rfl (by omega)⟩ (by repeat (first | exact trivial | refine ⟨rfl, ?_⟩)) rfl (by repeat (first | exact SubB.nil | exact Pick.here | apply Pick.there | apply SubB.emp | apply SubB.cons)) (fun ⟨i, v, G⟩ hi => ?_)
  obtain ⟨hi1, hB⟩ := hi
  simp only at hi1 hB ⊢
  have hrl := rangeP_le (l.take i) k to
  have htl : (l.take i).length ≤ l.length := by rw [List.length_take]; omega
  refine V_seq ?_
  refine V_region ?_
  refine VL_still rfl rfl rfl (S_lss rfl rfl) ?_
  refine VL_nil ?_
  refine VQ_then ?_
  refine V_seq ?_
  refine V_cond rfl (fun hc14 => ?_) (fun hc14 => ?_)
  · skip
    have hlt : i < l.length := by
      have := of_decide_eq_true hc14
      omega
    obtain ⟨bb, off, cap', e1, hcc⟩ := hs.at_ prE rfl hlt
    simp only [Value.slice.injEq] at e1
    obtain ⟨rfl, _, rfl⟩ := e1
    have hsn := rangeP_snoc l k to i hlt
    refine V_skip ?_
    refine VQ_then ?_
    refine V_seq ?_
    refine V_block ?_
    refine V_seq ?_
    refine V_region ?_
    refine VL_still rfl rfl rfl (X_at i Try.underlying26 tx47 rfl rfl hlt) ?_
    refine VL_still rfl rfl rfl (S_loads (vs := pr l[i]) Try.underlying47 rfl ti47 rfl rfl (hcc.mono (Sub.refl _) (fun q hq => by simp at hq))) ?_
    refine VL_eff rfl (E_alloc rfl tz47) ?_
    rintro _ _ _ ⟨b9, hb9, rfl, rfl, rfl⟩
    refine VL_eff rfl (E_store ti47 rfl rfl rfl rfl rfl (by repeat (first | exact Has.here | apply Has.there)) (by repeat (first | exact PutR.nil | exact SetL.here | apply SetL.there | apply PutR.cons)) (by repeat (first | exact UpdG.here | apply UpdG.there))) ?_
    rintro _ _ _ ⟨rfl, rfl, rfl⟩
    refine VL_nil ?_
    refine VQ_then ?_
    refine V_seq ?_
    refine V_region ?_
    refine VL_still rfl rfl rfl (S_field (k := 0) Try.underlying47 rfl rfl ti23 rfl rfl) ?_
    first | refine VL_still rfl rfl rfl (S_load Try.underlying23 rfl rfl (Cell.trk (by repeat (first | exact Has.here | apply Has.there)) rfl)) ?_ | refine VL_still rfl rfl rfl (S_load Try.underlying23 rfl rfl (Cell.known (by first | assumption | exact (by assumption : Sub _ _) _ _ (by assumption) | exact (Sub.trans (by assumption) (by assumption)) _ _ (by assumption)) rfl)) ?_
    refine VL_still rfl rfl rfl (S_move rfl) ?_
    refine VL_still rfl rfl rfl (S_geq rfl rfl) ?_
    refine VL_still rfl rfl rfl (S_move rfl) ?_
    refine VL_bool 21 rfl (fun hc21 => ?_) (fun hc21 => ?_)
    · skip
      have h1 : k ≤ l[i].1 := of_decide_eq_true hc21
      refine VL_still rfl rfl rfl (S_field (k := 0) Try.underlying47 rfl rfl ti23 rfl rfl) ?_
      first | refine VL_still rfl rfl rfl (S_load Try.underlying23 rfl rfl (Cell.trk (by repeat (first | exact Has.here | apply Has.there)) rfl)) ?_ | refine VL_still rfl rfl rfl (S_load Try.underlying23 rfl rfl (Cell.known (by first | assumption | exact (by assumption : Sub _ _) _ _ (by assumption) | exact (Sub.trans (by assumption) (by assumption)) _ _ (by assumption)) rfl)) ?_
      refine VL_still rfl rfl rfl (S_move rfl) ?_
      refine VL_still rfl rfl rfl (S_leq rfl rfl) ?_
      first | refine VL_still rfl rfl rfl (S_pick_t rfl rfl) ?_ | refine VL_still rfl rfl rfl (S_pick_f rfl rfl) ?_
      refine VL_nil ?_
      refine VQ_then ?_
      refine V_cond rfl (fun hc26 => ?_) (fun hc26 => ?_)
      · skip
        have h2 : l[i].1 ≤ to := of_decide_eq_true hc26
        rw [if_pos ⟨h1, h2⟩] at hsn
        refine V_region ?_
        refine VL_still rfl rfl rfl (S_move rfl) ?_
        first | refine VL_still rfl rfl rfl (S_loads Try.underlying47 rfl ti47 rfl rfl (Cells.known (by first | assumption | exact (by assumption : Sub _ _) _ _ (by assumption) | exact (Sub.trans (by assumption) (by assumption)) _ _ (by assumption)))) ?_ | refine VL_still rfl rfl rfl (S_loads Try.underlying47 rfl ti47 rfl rfl (Cells.all (by repeat (first | exact Has.here | apply Has.there)))) ?_ | refine VL_still rfl rfl rfl (S_loads Try.underlying47 rfl ti47 rfl rfl (Cells.trk (by repeat (first | exact Has.here | apply Has.there)) (by repeat (first | exact TakeR.here (by repeat (first | exact HeadR.nil | apply HeadR.cons)) | apply TakeR.there)))) ?_
        refine VL_eff rfl (E_bs1 rfl Try.underlying26 ti47 rfl rfl rfl rfl rfl rfl) ?_
        rintro _ _ _ ⟨b29, hb29, rfl, rfl, rfl⟩
        refine VL_eff rfl (X_append rfl Try.underlying26 Try.underlying26 rfl tx47 rfl rfl rfl rfl hB (by repeat (first | exact Pick.here | apply Pick.there)) (Buf.reads (G := [(b29, .cells (List.toArray [.int .u64 l[i].1, .int .i64 l[i].2.1, .int .i64 l[i].2.2]) 47 (0, 0))]) (Buf.lit (n := 1) (by rfl) (by omega)) (fun q hq => by simp at hq ⊢; try simp [hq])) rfl (by omega)) ?_
        rintro _ _ _ ⟨v30, G30, hB30, rfl, rfl, rfl⟩
        replace hB30 := Buf.snoc (enc := pr) (a := l[i]) hB30
        refine VL_still rfl rfl rfl (S_assign rfl) ?_
        refine VL_nil ?_
        refine VQ_block_normal ?_
        refine VQ_then ?_
        refine V_region ?_
        first | refine VL_still rfl rfl rfl (S_addi rfl rfl (by omega) (by omega)) ?_ | refine VL_still rfl rfl rfl (S_add rfl rfl) ?_
        refine VL_still rfl rfl rfl (S_move rfl) ?_
        refine VL_nil ?_
        refine VQ_mid (i + 1, v30, G30) ⟨⟨by omega, by rw [hsn]; exact hB30⟩, by simp only; omega⟩ (by repeat (first | exact trivial | refine ⟨rfl, ?_⟩)) rfl (by repeat (first | exact SubB.nil | exact Pick.here | apply Pick.there | apply SubB.emp | apply SubB.cons))
      · skip
        have h2 : ¬ l[i].1 ≤ to := of_decide_eq_false hc26
        rw [if_neg (fun h => h2 h.2), List.append_nil] at hsn
        refine V_skip ?_
        refine VQ_block_normal ?_
        refine VQ_then ?_
        refine V_region ?_
        first | refine VL_still rfl rfl rfl (S_addi rfl rfl (by omega) (by omega)) ?_ | refine VL_still rfl rfl rfl (S_add rfl rfl) ?_
        refine VL_still rfl rfl rfl (S_move rfl) ?_
        refine VL_nil ?_
        refine VQ_mid (i + 1, v, G) ⟨⟨by omega, by rw [hsn]; exact hB⟩, by simp only; omega⟩ (by repeat (first | exact trivial | refine ⟨rfl, ?_⟩)) rfl (by repeat (first | exact SubB.nil | exact Pick.here | apply Pick.there | apply SubB.emp | apply SubB.cons))
    · skip
      have h1 : ¬ k ≤ l[i].1 := of_decide_eq_false hc21
      rw [if_neg (fun h => h1 h.1), List.append_nil] at hsn
      refine VL_skip rfl rfl rfl ?_
      refine VL_skip rfl rfl rfl ?_
      refine VL_skip rfl rfl rfl ?_
      refine VL_skip rfl rfl rfl ?_
      first | refine VL_still rfl rfl rfl (S_pick_t rfl rfl) ?_ | refine VL_still rfl rfl rfl (S_pick_f rfl rfl) ?_
      refine VL_nil ?_
      refine VQ_then ?_
      refine V_cond_false rfl ?_
      refine V_skip ?_
      refine VQ_block_normal ?_
      refine VQ_then ?_
      refine V_region ?_
      first | refine VL_still rfl rfl rfl (S_addi rfl rfl (by omega) (by omega)) ?_ | refine VL_still rfl rfl rfl (S_add rfl rfl) ?_
      refine VL_still rfl rfl rfl (S_move rfl) ?_
      refine VL_nil ?_
      refine VQ_mid (i + 1, v, G) ⟨⟨by omega, by rw [hsn]; exact hB⟩, by simp only; omega⟩ (by repeat (first | exact trivial | refine ⟨rfl, ?_⟩)) rfl (by repeat (first | exact SubB.nil | exact Pick.here | apply Pick.there | apply SubB.emp | apply SubB.cons))
  · skip
    have hge : i = l.length := by
      have := of_decide_eq_false hc14
      omega
    subst hge
    rw [List.take_length] at hB
    refine V_exit ?_
    refine VQ_then_exit ?_
    refine VQ_then_exit ?_
    refine VQ_block_exit ?_
    refine VQ_then ?_
    refine V_seq ?_
    refine V_region ?_
    refine VL_still rfl rfl rfl (S_move rfl) ?_
    refine VL_still rfl rfl rfl (S_assign rfl) ?_
    refine VL_nil ?_
    refine VQ_then ?_
    refine V_ret ?_
    refine VQ_fin1 (nb := [G]) (by first | exact .inl rfl | exact .inr rfl) rfl (RV_tmp rfl) ?sb ?po
    case po =>
      exact ⟨rfl, G, hB, rfl⟩
    case sb => exact (by repeat (first | exact SubB.nil | exact Pick.here | apply Pick.there | apply SubB.emp | apply SubB.cons))

set_option maxRecDepth 100000 in
theorem rdel_con (v : Value) (l : List Pr) (h : Hp) (hs : PL h v l) (hn : l.length ≤ 100000) (k : Int) : Con Try.prog 26 [v, .int .u64 k] h [] (fun r h' nb => h = h' ∧ ∃ G', BP r (delP l k) G' ∧ nb = [G']) := by
  obtain ⟨A, cap, rfl, hle, hmx⟩ := hs.form
  refine Con_of Try.func26 rfl Try.ntmps26 (Nat.le_of_ble_eq_true rfl) (fun w0 => ?_)
  refine V_seq ?_
  refine V_region ?_
  refine VL_still rfl rfl rfl (S_assign rfl) ?_
  refine VL_nil ?_
  refine VQ_then ?_
  refine V_seq ?_
  refine V_region ?_
  refine VL_eff rfl (E_bs0 rfl Try.underlying26 ti47) ?_
  rintro _ _ _ ⟨b8, hb8, rfl, rfl, rfl⟩
  refine VL_still rfl rfl rfl (S_assign rfl) ?_
  refine VL_nil ?_
  refine VQ_then ?_
  refine V_seq ?_
  refine V_seq ?_
  refine V_region ?_
  refine VL_still rfl rfl rfl (S_move rfl) ?_
  refine VL_still rfl rfl rfl (S_len Try.underlying26 rfl) ?_
  refine VL_still rfl rfl rfl (S_move rfl) ?_
  refine VL_nil ?_
  refine VQ_then ?_
  refine V_block ?_
  refine V_loop (ι := Nat × Value × Gr) (fun x => l.length - x.1) (fun (i, v, G) => i ≤ l.length ∧ BP v (delP (l.take i) k) G) (fun (i, v, G) => [(0, (.slice A l.length cap)), (1, .int .u64 k), (5, v), (9, (.slice A l.length cap)), (10, .int .i64 l.length), (11, .int .i64 i)]) (fun _ => h) (fun (i, v, G) => [G]) (0, .slice (some ⟨b8, 0, none⟩) 0 0, _) ⟨Nat.zero_le _, Buf.lit (n := 0) (cs := []) rfl (by omega)⟩ (by repeat (first | exact trivial | refine ⟨rfl, ?_⟩)) rfl (by repeat (first | exact SubB.nil | exact Pick.here | apply Pick.there | apply SubB.emp | apply SubB.cons)) (fun ⟨i, v, G⟩ hi => ?_)
  obtain ⟨hi1, hB⟩ := hi
  simp only at hi1 hB ⊢
  have hrl := delP_le (l.take i) k
  have htl : (l.take i).length ≤ l.length := by rw [List.length_take]; omega
  refine V_seq ?_
  refine V_region ?_
  refine VL_still rfl rfl rfl (S_lss rfl rfl) ?_
  refine VL_nil ?_
  refine VQ_then ?_
  refine V_seq ?_
  refine V_cond rfl (fun hc12 => ?_) (fun hc12 => ?_)
  · skip
    have hlt : i < l.length := by
      have := of_decide_eq_true hc12
      omega
    obtain ⟨bb, off, cap', e1, hcc⟩ := hs.at_ prE rfl hlt
    simp only [Value.slice.injEq] at e1
    obtain ⟨rfl, _, rfl⟩ := e1
    have hsn := delP_snoc l k i hlt
    refine V_skip ?_
    refine VQ_then ?_
    refine V_seq ?_
    refine V_block ?_
    refine V_seq ?_
    refine V_region ?_
    refine VL_still rfl rfl rfl (X_at i Try.underlying26 tx47 rfl rfl hlt) ?_
    refine VL_still rfl rfl rfl (S_loads (vs := pr l[i]) Try.underlying47 rfl ti47 rfl rfl (hcc.mono (Sub.refl _) (fun q hq => by simp at hq))) ?_
    refine VL_eff rfl (E_alloc rfl tz47) ?_
    rintro _ _ _ ⟨b7, hb7, rfl, rfl, rfl⟩
    refine VL_eff rfl (E_store ti47 rfl rfl rfl rfl rfl (by repeat (first | exact Has.here | apply Has.there)) (by repeat (first | exact PutR.nil | exact SetL.here | apply SetL.there | apply PutR.cons)) (by repeat (first | exact UpdG.here | apply UpdG.there))) ?_
    rintro _ _ _ ⟨rfl, rfl, rfl⟩
    refine VL_nil ?_
    refine VQ_then ?_
    refine V_seq ?_
    refine V_region ?_
    refine VL_still rfl rfl rfl (S_field (k := 0) Try.underlying47 rfl rfl ti23 rfl rfl) ?_
    first | refine VL_still rfl rfl rfl (S_load Try.underlying23 rfl rfl (Cell.trk (by repeat (first | exact Has.here | apply Has.there)) rfl)) ?_ | refine VL_still rfl rfl rfl (S_load Try.underlying23 rfl rfl (Cell.known (by first | assumption | exact (by assumption : Sub _ _) _ _ (by assumption) | exact (Sub.trans (by assumption) (by assumption)) _ _ (by assumption)) rfl)) ?_
    refine VL_still rfl rfl rfl (S_move rfl) ?_
    refine VL_still rfl rfl rfl (S_neq rfl rfl) ?_
    refine VL_nil ?_
    refine VQ_then ?_
    refine V_cond rfl (fun hc18 => ?_) (fun hc18 => ?_)
    · skip
      have h1 : ¬ l[i].1 = k := by simpa using hc18
      rw [if_neg h1] at hsn
      refine V_region ?_
      refine VL_still rfl rfl rfl (S_move rfl) ?_
      first | refine VL_still rfl rfl rfl (S_loads Try.underlying47 rfl ti47 rfl rfl (Cells.known (by first | assumption | exact (by assumption : Sub _ _) _ _ (by assumption) | exact (Sub.trans (by assumption) (by assumption)) _ _ (by assumption)))) ?_ | refine VL_still rfl rfl rfl (S_loads Try.underlying47 rfl ti47 rfl rfl (Cells.all (by repeat (first | exact Has.here | apply Has.there)))) ?_ | refine VL_still rfl rfl rfl (S_loads Try.underlying47 rfl ti47 rfl rfl (Cells.trk (by repeat (first | exact Has.here | apply Has.there)) (by repeat (first | exact TakeR.here (by repeat (first | exact HeadR.nil | apply HeadR.cons)) | apply TakeR.there)))) ?_
      refine VL_eff rfl (E_bs1 rfl Try.underlying26 ti47 rfl rfl rfl rfl rfl rfl) ?_
      rintro _ _ _ ⟨b21, hb21, rfl, rfl, rfl⟩
      refine VL_eff rfl (X_append rfl Try.underlying26 Try.underlying26 rfl tx47 rfl rfl rfl rfl hB (by repeat (first | exact Pick.here | apply Pick.there)) (Buf.reads (G := [(b21, .cells (List.toArray [.int .u64 l[i].1, .int .i64 l[i].2.1, .int .i64 l[i].2.2]) 47 (0, 0))]) (Buf.lit (n := 1) (by rfl) (by omega)) (fun q hq => by simp at hq ⊢; try simp [hq])) rfl (by omega)) ?_
      rintro _ _ _ ⟨v22, G22, hB22, rfl, rfl, rfl⟩
      replace hB22 := Buf.snoc (enc := pr) (a := l[i]) hB22
      refine VL_still rfl rfl rfl (S_assign rfl) ?_
      refine VL_nil ?_
      refine VQ_block_normal ?_
      refine VQ_then ?_
      refine V_region ?_
      first | refine VL_still rfl rfl rfl (S_addi rfl rfl (by omega) (by omega)) ?_ | refine VL_still rfl rfl rfl (S_add rfl rfl) ?_
      refine VL_still rfl rfl rfl (S_move rfl) ?_
      refine VL_nil ?_
      refine VQ_mid (i + 1, v22, G22) ⟨⟨by omega, by rw [hsn]; exact hB22⟩, by simp only; omega⟩ (by repeat (first | exact trivial | refine ⟨rfl, ?_⟩)) rfl (by repeat (first | exact SubB.nil | exact Pick.here | apply Pick.there | apply SubB.emp | apply SubB.cons))
    · skip
      have h1 : l[i].1 = k := by simpa using hc18
      rw [if_pos h1, List.append_nil] at hsn
      refine V_skip ?_
      refine VQ_block_normal ?_
      refine VQ_then ?_
      refine V_region ?_
      first | refine VL_still rfl rfl rfl (S_addi rfl rfl (by omega) (by omega)) ?_ | refine VL_still rfl rfl rfl (S_add rfl rfl) ?_
      refine VL_still rfl rfl rfl (S_move rfl) ?_
      refine VL_nil ?_
      refine VQ_mid (i + 1, v, G) ⟨⟨by omega, by rw [hsn]; exact hB⟩, by simp only; omega⟩ (by repeat (first | exact trivial | refine ⟨rfl, ?_⟩)) rfl (by repeat (first | exact SubB.nil | exact Pick.here | apply Pick.there | apply SubB.emp | apply SubB.cons))
  · skip
    have hge : i = l.length := by
      have := of_decide_eq_false hc12
      omega
    subst hge
    rw [List.take_length] at hB
    refine V_exit ?_
    refine VQ_then_exit ?_
    refine VQ_then_exit ?_
    refine VQ_block_exit ?_
    refine VQ_then ?_
    refine V_seq ?_
    refine V_region ?_
    refine VL_still rfl rfl rfl (S_move rfl) ?_
    refine VL_still rfl rfl rfl (S_assign rfl) ?_
    refine VL_nil ?_
    refine VQ_then ?_
    refine V_ret ?_
    refine VQ_fin1 (nb := [G]) (by first | exact .inl rfl | exact .inr rfl) rfl (RV_tmp rfl) ?sb ?po
    case po =>
      exact ⟨rfl, G, hB, rfl⟩
    case sb => exact (by repeat (first | exact SubB.nil | exact Pick.here | apply Pick.there | apply SubB.emp | apply SubB.cons))

theorem lookP_at {l : List Pr} {k : Int} {i : Nat} (hi : i < l.length) (h : ∀ p ∈ l.take i, p.1 ≠ k) (hp : l[i].1 = k) : lookP l k = some l[i].2 := by
  have e : l = l.take i ++ (l[i] :: l.drop (i + 1)) := by rw [← List.drop_eq_getElem_cons hi, List.take_append_drop]
  unfold lookP
  conv => lhs; rw [e]
  rw [find_none_left h, List.find?_cons_of_pos (by simpa using hp)]; rfl
theorem lookP_none {l : List Pr} {k : Int} (h : ∀ p ∈ l, p.1 ≠ k) : lookP l k = none := by
  unfold lookP
  rw [List.find?_eq_none.2 (fun x hx => by simpa using h x hx)]; rfl

set_option maxRecDepth 100000 in
theorem rget_con (v : Value) (l : List Pr) (h : Hp) (hs : PL h v l) (hn : l.length ≤ 100000) (k : Int) : Con Try.prog 18 [v, .int .u64 k] h [] (fun r h' nb => r = .tuple #[xv ((lookP l k).getD (0, 0)), .bool (lookP l k).isSome] ∧ h = h' ∧ nb = []) := by
  obtain ⟨A, cap, rfl, hle, hmx⟩ := hs.form
  refine Con_of Try.func18 rfl Try.ntmps18 (Nat.le_of_ble_eq_true rfl) (fun w0 => ?_)
  refine V_seq ?_
  refine V_region ?_
  refine VL_eff rfl (E_alloc rfl tz34) ?_
  rintro _ _ _ ⟨b4, hb4, rfl, rfl, rfl⟩
  refine VL_still rfl rfl rfl (S_assign rfl) ?_
  refine VL_nil ?_
  refine VQ_then ?_
  refine V_seq ?_
  refine V_seq ?_
  refine V_region ?_
  refine VL_still rfl rfl rfl (S_move rfl) ?_
  refine VL_still rfl rfl rfl (S_len Try.underlying26 rfl) ?_
  refine VL_still rfl rfl rfl (S_move rfl) ?_
  refine VL_nil ?_
  refine VQ_then ?_
  refine V_block ?_
  refine V_loop (ι := Nat) (fun i => l.length - i) (fun i => i ≤ l.length ∧ ∀ p ∈ l.take i, p.1 ≠ k) (fun i => [(0, (.slice A l.length cap)), (1, .int .u64 k), (4, ptr b4), (8, (.slice A l.length cap)), (9, .int .i64 l.length), (10, .int .i64 i)]) (fun _ => h) (fun _ => [[(b4, .cells (List.toArray [.int .i64 0, .int .i64 0]) 34 (0, 0))]]) 0 ⟨Nat.zero_le _, by simp⟩ (by repeat (first | exact trivial | refine ⟨rfl, ?_⟩)) rfl (by repeat (first | exact SubB.nil | exact Pick.here | apply Pick.there | apply SubB.emp | apply SubB.cons)) (fun i hi => ?_)
  obtain ⟨hi1, hi2⟩ := hi
  refine V_seq ?_
  refine V_region ?_
  refine VL_still rfl rfl rfl (S_lss rfl rfl) ?_
  refine VL_nil ?_
  refine VQ_then ?_
  refine V_seq ?_
  refine V_cond rfl (fun hc11 => ?_) (fun hc11 => ?_)
  · skip
    have hlt : i < l.length := by
      have := of_decide_eq_true hc11
      omega
    obtain ⟨bb, off, cap', e1, hcc⟩ := hs.at_ prE rfl hlt
    simp only [Value.slice.injEq] at e1
    obtain ⟨rfl, _, rfl⟩ := e1
    refine V_skip ?_
    refine VQ_then ?_
    refine V_seq ?_
    refine V_block ?_
    refine V_seq ?_
    refine V_region ?_
    refine VL_still rfl rfl rfl (X_at i Try.underlying26 tx47 rfl rfl hlt) ?_
    refine VL_still rfl rfl rfl (S_loads (vs := pr l[i]) Try.underlying47 rfl ti47 rfl rfl (hcc.mono (Sub.refl _) (fun q hq => by simp at hq))) ?_
    refine VL_eff rfl (E_alloc rfl tz47) ?_
    rintro _ _ _ ⟨b7, hb7, rfl, rfl, rfl⟩
    refine VL_eff rfl (E_store ti47 rfl rfl rfl rfl rfl (by repeat (first | exact Has.here | apply Has.there)) (by repeat (first | exact PutR.nil | exact SetL.here | apply SetL.there | apply PutR.cons)) (by repeat (first | exact UpdG.here | apply UpdG.there))) ?_
    rintro _ _ _ ⟨rfl, rfl, rfl⟩
    refine VL_nil ?_
    refine VQ_then ?_
    refine V_seq ?_
    refine V_region ?_
    refine VL_still rfl rfl rfl (S_field (k := 0) Try.underlying47 rfl rfl ti23 rfl rfl) ?_
    first | refine VL_still rfl rfl rfl (S_load Try.underlying23 rfl rfl (Cell.trk (by repeat (first | exact Has.here | apply Has.there)) rfl)) ?_ | refine VL_still rfl rfl rfl (S_load Try.underlying23 rfl rfl (Cell.known (by first | assumption | exact (by assumption : Sub _ _) _ _ (by assumption) | exact (Sub.trans (by assumption) (by assumption)) _ _ (by assumption)) rfl)) ?_
    refine VL_still rfl rfl rfl (S_move rfl) ?_
    refine VL_still rfl rfl rfl (S_eql rfl rfl) ?_
    refine VL_nil ?_
    refine VQ_then ?_
    refine V_cond rfl (fun hc17 => ?_) (fun hc17 => ?_)
    · skip
      have he : l[i].1 = k := of_decide_eq_true hc17
      refine V_seq ?_
      refine V_region ?_
      refine VL_still rfl rfl rfl (S_field (k := 1) Try.underlying47 rfl rfl ti34 rfl rfl) ?_
      refine VL_still rfl rfl rfl (S_loads (vs := [.int .i64 l[i].2.1, .int .i64 l[i].2.2]) Try.underlying34 rfl ti34 rfl rfl (Cells.trk (by repeat (first | exact Has.here | apply Has.there)) (by repeat (first | exact TakeR.here (by repeat (first | exact HeadR.nil | apply HeadR.cons)) | apply TakeR.there)))) ?_
      refine VL_eff rfl (E_store ti34 rfl rfl rfl rfl rfl (by repeat (first | exact Has.here | apply Has.there)) (by repeat (first | exact PutR.nil | exact SetL.here | apply SetL.there | apply PutR.cons)) (by repeat (first | exact UpdG.here | apply UpdG.there))) ?_
      rintro _ _ _ ⟨rfl, rfl, rfl⟩
      refine VL_still rfl rfl rfl (S_assign rfl) ?_
      refine VL_nil ?_
      refine VQ_then ?_
      refine V_ret ?_
      refine VQ_block_ret ?_
      refine VQ_then_ret ?_
      refine VQ_then_ret ?_
      refine VQ_block_ret ?_
      refine VQ_then_ret ?_
      refine VQ_fin2 (nb := []) (by first | exact .inl rfl | exact .inr rfl) rfl (RV_cells Try.underlying34 rfl ti34 rfl rfl (Cells.all (by repeat (first | exact Has.here | apply Has.there)))) (RV_tmp rfl) ?sb ?po
      case po =>
        rw [lookP_at hlt hi2 he]
        exact ⟨rfl, rfl, rfl⟩
      case sb => exact (by repeat (first | exact SubB.nil | exact Pick.here | apply Pick.there | apply SubB.emp | apply SubB.cons))
    · skip
      have he : ¬ l[i].1 = k := of_decide_eq_false hc17
      refine V_skip ?_
      refine VQ_block_normal ?_
      refine VQ_then ?_
      refine V_region ?_
      first | refine VL_still rfl rfl rfl (S_addi rfl rfl (by omega) (by omega)) ?_ | refine VL_still rfl rfl rfl (S_add rfl rfl) ?_
      refine VL_still rfl rfl rfl (S_move rfl) ?_
      refine VL_nil ?_
      refine VQ_mid (i + 1) ⟨⟨by omega, fun q hq => ?_⟩, by omega⟩ (by repeat (first | exact trivial | refine ⟨rfl, ?_⟩)) rfl (by repeat (first | exact SubB.nil | exact Pick.here | apply Pick.there | apply SubB.emp | apply SubB.cons))
      rw [take_snoc l i hlt] at hq
      rcases List.mem_append.1 hq with hq | hq
      · exact hi2 q hq
      · obtain rfl := List.mem_singleton.1 hq; exact he
  · skip
    have hge : i = l.length := by
      have := of_decide_eq_false hc11
      omega
    subst hge
    rw [List.take_length] at hi2
    refine V_exit ?_
    refine VQ_then_exit ?_
    refine VQ_then_exit ?_
    refine VQ_block_exit ?_
    refine VQ_then ?_
    refine V_seq ?_
    refine V_region ?_
    refine VL_still rfl rfl rfl (S_struct Try.underlying34 to34 tz34 rfl (by repeat (first | exact BuildR.nil | exact PutR.nil | exact SetL.here | apply SetL.there | apply PutR.cons | apply BuildR.cons rfl (by first | exact ti3) rfl rfl rfl))) ?_
    refine VL_eff rfl (E_store ti34 rfl rfl rfl rfl rfl (by repeat (first | exact Has.here | apply Has.there)) (by repeat (first | exact PutR.nil | exact SetL.here | apply SetL.there | apply PutR.cons)) (by repeat (first | exact UpdG.here | apply UpdG.there))) ?_
    rintro _ _ _ ⟨rfl, rfl, rfl⟩
    refine VL_still rfl rfl rfl (S_assign rfl) ?_
    refine VL_nil ?_
    refine VQ_then ?_
    refine V_ret ?_
    refine VQ_fin2 (nb := []) (by first | exact .inl rfl | exact .inr rfl) rfl (RV_cells Try.underlying34 rfl ti34 rfl rfl (Cells.all (by repeat (first | exact Has.here | apply Has.there)))) (RV_tmp rfl) ?sb ?po
    case po =>
      rw [lookP_none hi2]
      exact ⟨rfl, rfl, rfl⟩
    case sb => exact (by repeat (first | exact SubB.nil | exact Pick.here | apply Pick.there | apply SubB.emp | apply SubB.cons))

set_option maxRecDepth 100000 in
theorem rput_con (v : Value) (l : List Pr) (h : Hp) (hs : PL h v l) (hn : l.length ≤ 100000) (k s n lo hi : Int) (hu : Up lo hi (keysP l)) : Con Try.prog 25 [v, .int .u64 k, .agg #[.int .i64 s, .int .i64 n]] h [] (fun r h' nb => h = h' ∧ ∃ G', BP r (insP l k (s, n)) G' ∧ nb = [G']) := by
  obtain ⟨A, cap, rfl, hle, hmx⟩ := hs.form
  refine Con_of Try.func25 rfl Try.ntmps25 (Nat.le_of_ble_eq_true rfl) (fun w0 => ?_)
  refine V_seq ?_
  refine V_region ?_
  refine VL_eff rfl (E_box rfl rfl rfl) ?_
  rintro _ _ _ ⟨b5, hb5, rfl, rfl, rfl⟩
  refine VL_still rfl rfl rfl (S_assign rfl) ?_
  refine VL_nil ?_
  refine VQ_then ?_
  refine V_seq ?_
  refine V_region ?_
  refine VL_eff rfl (E_bs0 rfl Try.underlying26 ti47) ?_
  rintro _ _ _ ⟨b11, hb11, rfl, rfl, rfl⟩
  refine VL_still rfl rfl rfl (S_assign rfl) ?_
  refine VL_nil ?_
  refine VQ_then ?_
  refine V_seq ?_
  refine V_region ?_
  refine VL_still rfl rfl rfl (S_assign rfl) ?_
  refine VL_nil ?_
  refine VQ_then ?_
  refine V_seq ?_
  refine V_seq ?_
  refine V_region ?_
  refine VL_still rfl rfl rfl (S_move rfl) ?_
  refine VL_still rfl rfl rfl (S_len Try.underlying26 rfl) ?_
  refine VL_still rfl rfl rfl (S_move rfl) ?_
  refine VL_nil ?_
  refine VQ_then ?_
  refine V_block ?_
  refine V_loop (ι := Nat × Value × Gr × Bool × List Pr) (fun x => l.length - x.1) (fun (i, v, G, b, out) => i ≤ l.length ∧ BP v out G ∧ PutSt l k (s, n) i b out) (fun (i, v, G, b, out) => [(0, (.slice A l.length cap)), (1, .int .u64 k), (5, ptr b5), (7, v), (8, .bool b), (12, (.slice A l.length cap)), (13, .int .i64 l.length), (14, .int .i64 i)]) (fun _ => h) (fun (i, v, G, b, out) => [G, [(b5, .cells (List.toArray [.int .i64 s, .int .i64 n]) 34 (0, 0))]]) (0, .slice (some ⟨b11, 0, none⟩) 0 0, _, false, []) ⟨Nat.zero_le _, Buf.lit (n := 0) (cs := []) rfl (by omega), PutSt.zero _ _ _⟩ (by repeat (first | exact trivial | refine ⟨rfl, ?_⟩)) rfl (by repeat (first | exact SubB.nil | exact Pick.here | apply Pick.there | apply SubB.emp | apply SubB.cons)) (fun ⟨i, v, G, b, out⟩ hi => ?_)
  obtain ⟨hi1, hB, hP⟩ := hi
  simp only at hi1 hB hP ⊢
  have hol := hP.len hu
  refine V_seq ?_
  refine V_region ?_
  refine VL_still rfl rfl rfl (S_lss rfl rfl) ?_
  refine VL_nil ?_
  refine VQ_then ?_
  refine V_seq ?_
  refine V_cond rfl (fun hc15 => ?_) (fun hc15 => ?_)
  · skip
    have hlt : i < l.length := by
      have := of_decide_eq_true hc15
      omega
    obtain ⟨bb, off, cap', e1, hcc⟩ := hs.at_ prE rfl hlt
    simp only [Value.slice.injEq] at e1
    obtain ⟨rfl, _, rfl⟩ := e1
    refine V_skip ?_
    refine VQ_then ?_
    refine V_seq ?_
    refine V_block ?_
    refine V_seq ?_
    refine V_region ?_
    refine VL_still rfl rfl rfl (X_at i Try.underlying26 tx47 rfl rfl hlt) ?_
    refine VL_still rfl rfl rfl (S_loads (vs := pr l[i]) Try.underlying47 rfl ti47 rfl rfl (hcc.mono (Sub.refl _) (fun q hq => by simp at hq))) ?_
    refine VL_eff rfl (E_alloc rfl tz47) ?_
    rintro _ _ _ ⟨b10, hb10, rfl, rfl, rfl⟩
    refine VL_eff rfl (E_store ti47 rfl rfl rfl rfl rfl (by repeat (first | exact Has.here | apply Has.there)) (by repeat (first | exact PutR.nil | exact SetL.here | apply SetL.there | apply PutR.cons)) (by repeat (first | exact UpdG.here | apply UpdG.there))) ?_
    rintro _ _ _ ⟨rfl, rfl, rfl⟩
    refine VL_nil ?_
    refine VQ_then ?_
    refine V_seq ?_
    refine V_seq ?_
    refine V_region ?_
    refine VL_still rfl rfl rfl (S_move rfl) ?_
    refine VL_still rfl rfl rfl (S_not rfl) ?_
    refine VL_still rfl rfl rfl (S_move rfl) ?_
    refine VL_bool 20 rfl (fun hc20 => ?_) (fun hc20 => ?_)
    · skip
      obtain rfl : b = false := by simpa using hc20
      refine VL_still rfl rfl rfl (S_field (k := 0) Try.underlying47 rfl rfl ti23 rfl rfl) ?_
      first | refine VL_still rfl rfl rfl (S_load Try.underlying23 rfl rfl (Cell.trk (by repeat (first | exact Has.here | apply Has.there)) rfl)) ?_ | refine VL_still rfl rfl rfl (S_load Try.underlying23 rfl rfl (Cell.known (by first | assumption | exact (by assumption : Sub _ _) _ _ (by assumption) | exact (Sub.trans (by assumption) (by assumption)) _ _ (by assumption)) rfl)) ?_
      refine VL_still rfl rfl rfl (S_move rfl) ?_
      refine VL_still rfl rfl rfl (S_geq rfl rfl) ?_
      first | refine VL_still rfl rfl rfl (S_pick_t rfl rfl) ?_ | refine VL_still rfl rfl rfl (S_pick_f rfl rfl) ?_
      refine VL_nil ?_
      refine VQ_then ?_
      refine V_cond rfl (fun hc25 => ?_) (fun hc25 => ?_)
      · skip
        have hge : k ≤ l[i].1 := of_decide_eq_true hc25
        have hP2 := hP.new hu hlt hge
        refine V_seq ?_
        refine V_region ?_
        refine VL_still rfl rfl rfl (S_move rfl) ?_
        refine VL_still rfl rfl rfl (S_move rfl) ?_
        first | refine VL_still rfl rfl rfl (S_loads Try.underlying34 rfl ti34 rfl rfl (Cells.known (by first | assumption | exact (by assumption : Sub _ _) _ _ (by assumption) | exact (Sub.trans (by assumption) (by assumption)) _ _ (by assumption)))) ?_ | refine VL_still rfl rfl rfl (S_loads Try.underlying34 rfl ti34 rfl rfl (Cells.all (by repeat (first | exact Has.here | apply Has.there)))) ?_ | refine VL_still rfl rfl rfl (S_loads Try.underlying34 rfl ti34 rfl rfl (Cells.trk (by repeat (first | exact Has.here | apply Has.there)) (by repeat (first | exact TakeR.here (by repeat (first | exact HeadR.nil | apply HeadR.cons)) | apply TakeR.there)))) ?_
        refine VL_still rfl rfl rfl (S_struct Try.underlying47 to47 tz47 rfl (by repeat (first | exact BuildR.nil | exact PutR.nil | exact SetL.here | apply SetL.there | apply PutR.cons | apply BuildR.cons rfl (by first | exact ti23 | exact ti34) rfl rfl rfl))) ?_
        refine VL_eff rfl (E_bs1 rfl Try.underlying26 ti47 rfl rfl rfl rfl rfl rfl) ?_
        rintro _ _ _ ⟨b30, hb30, rfl, rfl, rfl⟩
        refine VL_eff rfl (X_append rfl Try.underlying26 Try.underlying26 rfl tx47 rfl rfl rfl rfl hB (by repeat (first | exact Pick.here | apply Pick.there)) (Buf.reads (G := [(b30, .cells (List.toArray [.int .u64 k, .int .i64 s, .int .i64 n]) 47 (0, 0))]) (Buf.lit (n := 1) (by rfl) (by omega)) (fun q hq => by simp at hq ⊢; try simp [hq])) rfl (by omega)) ?_
        rintro _ _ _ ⟨v31, G31, hB31, rfl, rfl, rfl⟩
        replace hB31 := Buf.snoc (enc := pr) (a := (k, s, n)) hB31
        have hol1 : (out ++ [(k, s, n)]).length ≤ l.length + 2 := by rw [List.length_append]; simp; omega
        refine VL_still rfl rfl rfl (S_assign rfl) ?_
        refine VL_nil ?_
        refine VQ_then ?_
        refine V_region ?_
        refine VL_still rfl rfl rfl (S_assign rfl) ?_
        refine VL_nil ?_
        refine VQ_then ?_
        refine V_seq ?_
        refine V_region ?_
        refine VL_still rfl rfl rfl (S_field (k := 0) Try.underlying47 rfl rfl ti23 rfl rfl) ?_
        first | refine VL_still rfl rfl rfl (S_load Try.underlying23 rfl rfl (Cell.trk (by repeat (first | exact Has.here | apply Has.there)) rfl)) ?_ | refine VL_still rfl rfl rfl (S_load Try.underlying23 rfl rfl (Cell.known (by first | assumption | exact (by assumption : Sub _ _) _ _ (by assumption) | exact (Sub.trans (by assumption) (by assumption)) _ _ (by assumption)) rfl)) ?_
        refine VL_still rfl rfl rfl (S_move rfl) ?_
        refine VL_still rfl rfl rfl (S_neq rfl rfl) ?_
        refine VL_nil ?_
        refine VQ_then ?_
        refine V_cond rfl (fun hc35 => ?_) (fun hc35 => ?_)
        · skip
          have hne : ¬ l[i].1 = k := by simpa using hc35
          refine V_region ?_
          refine VL_still rfl rfl rfl (S_move rfl) ?_
          first | refine VL_still rfl rfl rfl (S_loads Try.underlying47 rfl ti47 rfl rfl (Cells.known (by first | assumption | exact (by assumption : Sub _ _) _ _ (by assumption) | exact (Sub.trans (by assumption) (by assumption)) _ _ (by assumption)))) ?_ | refine VL_still rfl rfl rfl (S_loads Try.underlying47 rfl ti47 rfl rfl (Cells.all (by repeat (first | exact Has.here | apply Has.there)))) ?_ | refine VL_still rfl rfl rfl (S_loads Try.underlying47 rfl ti47 rfl rfl (Cells.trk (by repeat (first | exact Has.here | apply Has.there)) (by repeat (first | exact TakeR.here (by repeat (first | exact HeadR.nil | apply HeadR.cons)) | apply TakeR.there)))) ?_
          refine VL_eff rfl (E_bs1 rfl Try.underlying26 ti47 rfl rfl rfl rfl rfl rfl) ?_
          rintro _ _ _ ⟨b38, hb38, rfl, rfl, rfl⟩
          refine VL_eff rfl (X_append rfl Try.underlying26 Try.underlying26 rfl tx47 rfl rfl rfl rfl hB31 (by repeat (first | exact Pick.here | apply Pick.there)) (Buf.reads (G := [(b38, .cells (List.toArray [.int .u64 l[i].1, .int .i64 l[i].2.1, .int .i64 l[i].2.2]) 47 (0, 0))]) (Buf.lit (n := 1) (by rfl) (by omega)) (fun q hq => by simp at hq ⊢; try simp [hq])) rfl (by omega)) ?_
          rintro _ _ _ ⟨v39, G39, hB39, rfl, rfl, rfl⟩
          replace hB39 := Buf.snoc (enc := pr) (a := l[i]) hB39
          refine VL_still rfl rfl rfl (S_assign rfl) ?_
          refine VL_nil ?_
          refine VQ_block_normal ?_
          refine VQ_then ?_
          refine V_region ?_
          first | refine VL_still rfl rfl rfl (S_addi rfl rfl (by omega) (by omega)) ?_ | refine VL_still rfl rfl rfl (S_add rfl rfl) ?_
          refine VL_still rfl rfl rfl (S_move rfl) ?_
          refine VL_nil ?_
          rw [if_neg hne] at hP2
          refine VQ_mid (i + 1, v39, G39, true, _) ⟨⟨by omega, hB39, hP2⟩, by simp only; omega⟩ (by repeat (first | exact trivial | refine ⟨rfl, ?_⟩)) rfl (by repeat (first | exact SubB.nil | exact Pick.here | apply Pick.there | apply SubB.emp | apply SubB.cons))
        · skip
          have hne : l[i].1 = k := by simpa using hc35
          refine V_skip ?_
          refine VQ_block_normal ?_
          refine VQ_then ?_
          refine V_region ?_
          first | refine VL_still rfl rfl rfl (S_addi rfl rfl (by omega) (by omega)) ?_ | refine VL_still rfl rfl rfl (S_add rfl rfl) ?_
          refine VL_still rfl rfl rfl (S_move rfl) ?_
          refine VL_nil ?_
          rw [if_pos hne, List.append_nil] at hP2
          refine VQ_mid (i + 1, v31, G31, true, _) ⟨⟨by omega, hB31, hP2⟩, by simp only; omega⟩ (by repeat (first | exact trivial | refine ⟨rfl, ?_⟩)) rfl (by repeat (first | exact SubB.nil | exact Pick.here | apply Pick.there | apply SubB.emp | apply SubB.cons))
      · skip
        have hge : ¬ k ≤ l[i].1 := of_decide_eq_false hc25
        have hP2 := hP.less hlt (by omega)
        refine V_skip ?_
        refine VQ_then ?_
        refine V_seq ?_
        refine V_region ?_
        refine VL_still rfl rfl rfl (S_field (k := 0) Try.underlying47 rfl rfl ti23 rfl rfl) ?_
        first | refine VL_still rfl rfl rfl (S_load Try.underlying23 rfl rfl (Cell.trk (by repeat (first | exact Has.here | apply Has.there)) rfl)) ?_ | refine VL_still rfl rfl rfl (S_load Try.underlying23 rfl rfl (Cell.known (by first | assumption | exact (by assumption : Sub _ _) _ _ (by assumption) | exact (Sub.trans (by assumption) (by assumption)) _ _ (by assumption)) rfl)) ?_
        refine VL_still rfl rfl rfl (S_move rfl) ?_
        refine VL_still rfl rfl rfl (S_neq rfl rfl) ?_
        refine VL_nil ?_
        refine VQ_then ?_
        refine V_cond rfl (fun hc35 => ?_) (fun hc35 => ?_)
        · skip
          have hne : ¬ l[i].1 = k := by simpa using hc35
          refine V_region ?_
          refine VL_still rfl rfl rfl (S_move rfl) ?_
          first | refine VL_still rfl rfl rfl (S_loads Try.underlying47 rfl ti47 rfl rfl (Cells.known (by first | assumption | exact (by assumption : Sub _ _) _ _ (by assumption) | exact (Sub.trans (by assumption) (by assumption)) _ _ (by assumption)))) ?_ | refine VL_still rfl rfl rfl (S_loads Try.underlying47 rfl ti47 rfl rfl (Cells.all (by repeat (first | exact Has.here | apply Has.there)))) ?_ | refine VL_still rfl rfl rfl (S_loads Try.underlying47 rfl ti47 rfl rfl (Cells.trk (by repeat (first | exact Has.here | apply Has.there)) (by repeat (first | exact TakeR.here (by repeat (first | exact HeadR.nil | apply HeadR.cons)) | apply TakeR.there)))) ?_
          refine VL_eff rfl (E_bs1 rfl Try.underlying26 ti47 rfl rfl rfl rfl rfl rfl) ?_
          rintro _ _ _ ⟨b38, hb38, rfl, rfl, rfl⟩
          refine VL_eff rfl (X_append rfl Try.underlying26 Try.underlying26 rfl tx47 rfl rfl rfl rfl hB (by repeat (first | exact Pick.here | apply Pick.there)) (Buf.reads (G := [(b38, .cells (List.toArray [.int .u64 l[i].1, .int .i64 l[i].2.1, .int .i64 l[i].2.2]) 47 (0, 0))]) (Buf.lit (n := 1) (by rfl) (by omega)) (fun q hq => by simp at hq ⊢; try simp [hq])) rfl (by omega)) ?_
          rintro _ _ _ ⟨v39, G39, hB39, rfl, rfl, rfl⟩
          replace hB39 := Buf.snoc (enc := pr) (a := l[i]) hB39
          refine VL_still rfl rfl rfl (S_assign rfl) ?_
          refine VL_nil ?_
          refine VQ_block_normal ?_
          refine VQ_then ?_
          refine V_region ?_
          first | refine VL_still rfl rfl rfl (S_addi rfl rfl (by omega) (by omega)) ?_ | refine VL_still rfl rfl rfl (S_add rfl rfl) ?_
          refine VL_still rfl rfl rfl (S_move rfl) ?_
          refine VL_nil ?_
          refine VQ_mid (i + 1, v39, G39, false, _) ⟨⟨by omega, hB39, hP2⟩, by simp only; omega⟩ (by repeat (first | exact trivial | refine ⟨rfl, ?_⟩)) rfl (by repeat (first | exact SubB.nil | exact Pick.here | apply Pick.there | apply SubB.emp | apply SubB.cons))
        · skip
          have hne : l[i].1 = k := by simpa using hc35
          refine V_skip ?_
          refine VQ_block_normal ?_
          refine VQ_then ?_
          refine V_region ?_
          first | refine VL_still rfl rfl rfl (S_addi rfl rfl (by omega) (by omega)) ?_ | refine VL_still rfl rfl rfl (S_add rfl rfl) ?_
          refine VL_still rfl rfl rfl (S_move rfl) ?_
          refine VL_nil ?_
          exact absurd hne (by omega)
    · skip
      obtain rfl : b = true := by simpa using hc20
      obtain ⟨hgt, hP2⟩ := hP.more hlt
      refine VL_skip rfl rfl rfl ?_
      refine VL_skip rfl rfl rfl ?_
      refine VL_skip rfl rfl rfl ?_
      refine VL_skip rfl rfl rfl ?_
      first | refine VL_still rfl rfl rfl (S_pick_t rfl rfl) ?_ | refine VL_still rfl rfl rfl (S_pick_f rfl rfl) ?_
      refine VL_nil ?_
      refine VQ_then ?_
      refine V_cond_false rfl ?_
      refine V_skip ?_
      refine VQ_then ?_
      refine V_seq ?_
      refine V_region ?_
      refine VL_still rfl rfl rfl (S_field (k := 0) Try.underlying47 rfl rfl ti23 rfl rfl) ?_
      first | refine VL_still rfl rfl rfl (S_load Try.underlying23 rfl rfl (Cell.trk (by repeat (first | exact Has.here | apply Has.there)) rfl)) ?_ | refine VL_still rfl rfl rfl (S_load Try.underlying23 rfl rfl (Cell.known (by first | assumption | exact (by assumption : Sub _ _) _ _ (by assumption) | exact (Sub.trans (by assumption) (by assumption)) _ _ (by assumption)) rfl)) ?_
      refine VL_still rfl rfl rfl (S_move rfl) ?_
      refine VL_still rfl rfl rfl (S_neq rfl rfl) ?_
      refine VL_nil ?_
      refine VQ_then ?_
      refine V_cond rfl (fun hc35 => ?_) (fun hc35 => ?_)
      · skip
        have hne : ¬ l[i].1 = k := by simpa using hc35
        refine V_region ?_
        refine VL_still rfl rfl rfl (S_move rfl) ?_
        first | refine VL_still rfl rfl rfl (S_loads Try.underlying47 rfl ti47 rfl rfl (Cells.known (by first | assumption | exact (by assumption : Sub _ _) _ _ (by assumption) | exact (Sub.trans (by assumption) (by assumption)) _ _ (by assumption)))) ?_ | refine VL_still rfl rfl rfl (S_loads Try.underlying47 rfl ti47 rfl rfl (Cells.all (by repeat (first | exact Has.here | apply Has.there)))) ?_ | refine VL_still rfl rfl rfl (S_loads Try.underlying47 rfl ti47 rfl rfl (Cells.trk (by repeat (first | exact Has.here | apply Has.there)) (by repeat (first | exact TakeR.here (by repeat (first | exact HeadR.nil | apply HeadR.cons)) | apply TakeR.there)))) ?_
        refine VL_eff rfl (E_bs1 rfl Try.underlying26 ti47 rfl rfl rfl rfl rfl rfl) ?_
        rintro _ _ _ ⟨b38, hb38, rfl, rfl, rfl⟩
        refine VL_eff rfl (X_append rfl Try.underlying26 Try.underlying26 rfl tx47 rfl rfl rfl rfl hB (by repeat (first | exact Pick.here | apply Pick.there)) (Buf.reads (G := [(b38, .cells (List.toArray [.int .u64 l[i].1, .int .i64 l[i].2.1, .int .i64 l[i].2.2]) 47 (0, 0))]) (Buf.lit (n := 1) (by rfl) (by omega)) (fun q hq => by simp at hq ⊢; try simp [hq])) rfl (by omega)) ?_
        rintro _ _ _ ⟨v39, G39, hB39, rfl, rfl, rfl⟩
        replace hB39 := Buf.snoc (enc := pr) (a := l[i]) hB39
        refine VL_still rfl rfl rfl (S_assign rfl) ?_
        refine VL_nil ?_
        refine VQ_block_normal ?_
        refine VQ_then ?_
        refine V_region ?_
        first | refine VL_still rfl rfl rfl (S_addi rfl rfl (by omega) (by omega)) ?_ | refine VL_still rfl rfl rfl (S_add rfl rfl) ?_
        refine VL_still rfl rfl rfl (S_move rfl) ?_
        refine VL_nil ?_
        refine VQ_mid (i + 1, v39, G39, true, _) ⟨⟨by omega, hB39, hP2⟩, by simp only; omega⟩ (by repeat (first | exact trivial | refine ⟨rfl, ?_⟩)) rfl (by repeat (first | exact SubB.nil | exact Pick.here | apply Pick.there | apply SubB.emp | apply SubB.cons))
      · skip
        have hne : l[i].1 = k := by simpa using hc35
        refine V_skip ?_
        refine VQ_block_normal ?_
        refine VQ_then ?_
        refine V_region ?_
        first | refine VL_still rfl rfl rfl (S_addi rfl rfl (by omega) (by omega)) ?_ | refine VL_still rfl rfl rfl (S_add rfl rfl) ?_
        refine VL_still rfl rfl rfl (S_move rfl) ?_
        refine VL_nil ?_
        exact absurd hne (by omega)
  · skip
    have hge : i = l.length := by
      have := of_decide_eq_false hc15
      omega
    subst hge
    refine V_exit ?_
    refine VQ_then_exit ?_
    refine VQ_then_exit ?_
    refine VQ_block_exit ?_
    refine VQ_then ?_
    refine V_seq ?_
    refine V_seq ?_
    refine V_region ?_
    refine VL_still rfl rfl rfl (S_move rfl) ?_
    refine VL_still rfl rfl rfl (S_not rfl) ?_
    refine VL_nil ?_
    refine VQ_then ?_
    refine V_cond rfl (fun hc42 => ?_) (fun hc42 => ?_)
    · skip
      obtain rfl : b = false := by simpa using hc42
      refine V_region ?_
      refine VL_still rfl rfl rfl (S_move rfl) ?_
      refine VL_still rfl rfl rfl (S_move rfl) ?_
      first | refine VL_still rfl rfl rfl (S_loads Try.underlying34 rfl ti34 rfl rfl (Cells.known (by first | assumption | exact (by assumption : Sub _ _) _ _ (by assumption) | exact (Sub.trans (by assumption) (by assumption)) _ _ (by assumption)))) ?_ | refine VL_still rfl rfl rfl (S_loads Try.underlying34 rfl ti34 rfl rfl (Cells.all (by repeat (first | exact Has.here | apply Has.there)))) ?_ | refine VL_still rfl rfl rfl (S_loads Try.underlying34 rfl ti34 rfl rfl (Cells.trk (by repeat (first | exact Has.here | apply Has.there)) (by repeat (first | exact TakeR.here (by repeat (first | exact HeadR.nil | apply HeadR.cons)) | apply TakeR.there)))) ?_
      refine VL_still rfl rfl rfl (S_struct Try.underlying47 to47 tz47 rfl (by repeat (first | exact BuildR.nil | exact PutR.nil | exact SetL.here | apply SetL.there | apply PutR.cons | apply BuildR.cons rfl (by first | exact ti23 | exact ti34) rfl rfl rfl))) ?_
      refine VL_eff rfl (E_bs1 rfl Try.underlying26 ti47 rfl rfl rfl rfl rfl rfl) ?_
      rintro _ _ _ ⟨b47, hb47, rfl, rfl, rfl⟩
      refine VL_eff rfl (X_append rfl Try.underlying26 Try.underlying26 rfl tx47 rfl rfl rfl rfl hB (by repeat (first | exact Pick.here | apply Pick.there)) (Buf.reads (G := [(b47, .cells (List.toArray [.int .u64 k, .int .i64 s, .int .i64 n]) 47 (0, 0))]) (Buf.lit (n := 1) (by rfl) (by omega)) (fun q hq => by simp at hq ⊢; try simp [hq])) rfl (by omega)) ?_
      rintro _ _ _ ⟨v48, G48, hB48, rfl, rfl, rfl⟩
      replace hB48 := Buf.snoc (enc := pr) (a := (k, s, n)) hB48
      refine VL_still rfl rfl rfl (S_assign rfl) ?_
      refine VL_nil ?_
      refine VQ_then ?_
      refine V_seq ?_
      refine V_region ?_
      refine VL_still rfl rfl rfl (S_move rfl) ?_
      refine VL_still rfl rfl rfl (S_assign rfl) ?_
      refine VL_nil ?_
      refine VQ_then ?_
      refine V_ret ?_
      refine VQ_fin1 (nb := [G48]) (by first | exact .inl rfl | exact .inr rfl) rfl (RV_tmp rfl) ?sb ?po
      case po =>
        refine ⟨rfl, G48, ?_, rfl⟩
        rw [← hP.end_]; exact hB48
      case sb => exact (by repeat (first | exact SubB.nil | exact Pick.here | apply Pick.there | apply SubB.emp | apply SubB.cons))
    · skip
      obtain rfl : b = true := by simpa using hc42
      refine V_skip ?_
      refine VQ_then ?_
      refine V_seq ?_
      refine V_region ?_
      refine VL_still rfl rfl rfl (S_move rfl) ?_
      refine VL_still rfl rfl rfl (S_assign rfl) ?_
      refine VL_nil ?_
      refine VQ_then ?_
      refine V_ret ?_
      refine VQ_fin1 (nb := [G]) (by first | exact .inl rfl | exact .inr rfl) rfl (RV_tmp rfl) ?sb ?po
      case po =>
        refine ⟨rfl, G, ?_, rfl⟩
        rw [← hP.done]; exact hB
      case sb => exact (by repeat (first | exact SubB.nil | exact Pick.here | apply Pick.there | apply SubB.emp | apply SubB.cons))

end Go.Proofs.Ytdglignjoojimaa
