/- Texts of one proof, one behind the other: B19, T13, B20, B21, T14, B22, B23, B24, B25, Sx24. No conditions. -/
import Derived.Test.YtdglignjoojimaaRd4
/- Which nodes are right: what lies inside. No conditions. -/
set_option linter.unusedVariables false
set_option linter.unusedSimpArgs false
namespace Go.Proofs.Ytdglignjoojimaa

/-- What the reference's reading hands back. -/
def RdP (h : Hp) (r : Value) : Option (Nat × Nat × Tr) → Prop
  | none => r = .tuple #[.int .i64 0, .int .i64 0, .slice none 0 0, .bool false]
  | some (m, d, t) => ∃ vl, r = .tuple #[.int .i64 (m : Nat), .int .i64 (d : Nat), vl, .bool true] ∧ PL h vl (flat d t)
theorem RdP.form {h : Hp} {r : Value} {o : Option (Nat × Nat × Tr)} (p : RdP h r o) : ∃ (m d : Nat) (A : Option Addr) (n c : Nat) (ok : Bool), r = .tuple #[.int .i64 (m : Nat), .int .i64 (d : Nat), .slice A n c, .bool ok] ∧
    ((ok = false ∧ o = none) ∨ ∃ t, ok = true ∧ o = some (m, d, t) ∧ n = (flat d t).length ∧ PL h (.slice A n c) (flat d t)) := by
  cases o with
  | none => exact ⟨0, 0, none, 0, 0, false, p, .inl ⟨rfl, rfl⟩⟩
  | some x =>
    obtain ⟨m, d, t⟩ := x
    obtain ⟨vl, e, hp⟩ := p
    obtain ⟨A, c, rfl, _, _⟩ := SlR.form hp
    exact ⟨m, d, A, _, c, true, e, .inr ⟨t, rfl, rfl, rfl, hp⟩⟩
def dv : Option Nat → Int
  | none => -1
  | some d => d
theorem zip_snoc {α β : Type} : ∀ {l : List α} {m : List β} {i : Nat} (h1 : i < l.length) (h2 : i < m.length), (l.zip m).take (i + 1) = (l.zip m).take i ++ [(l[i], m[i])]
  | l, m, i, h1, h2 => by
    have h : i < (l.zip m).length := by rw [List.length_zip]; omega
    rw [List.take_succ_eq_append_getElem h, List.getElem_zip]
theorem segIn_all {L : List Nd} {keys : List Int} {i a m : Nat} (h : ∀ (j : Nat) (hj : a + j < L.length), j < m → (L[a + j].keys.all (inB keys i)) = true) : segIn L keys i a m = true := by
  unfold segIn
  rw [List.all_eq_true]
  intro x hx
  obtain ⟨j, hj, rfl⟩ := List.getElem_of_mem hx
  simp only [List.length_take, List.length_drop] at hj
  rw [List.getElem_take, List.getElem_drop]
  exact h j (by omega) (by omega)
theorem segIn_no {L : List Nd} {keys : List Int} {i a m j : Nat} (hj : a + j < L.length) (hm : j < m) (h : (L[a + j].keys.all (inB keys i)) = false) : segIn L keys i a m = false := by
  cases hs : segIn L keys i a m with
  | false => rfl
  | true =>
    unfold segIn at hs
    rw [List.all_eq_true] at hs
    have := hs L[a + j] (by
      refine List.mem_of_getElem? (i := j) ?_
      rw [List.getElem?_take_of_lt hm, List.getElem?_drop, List.getElem?_eq_getElem hj])
    rw [h] at this; cases this
theorem rdK_drop {f : Nat → Option (Nat × Nat × Tr)} {L : List Nd} {keys kids : List Int} {a i size : Nat} {deep : Option Nat} {ts : List Tr} (hi : i < kids.length) : rdK f L keys a (kids.drop i) i size deep ts =
    if kids[i] = ((a + size : Nat) : Int) then
      match f (a + size) with
      | none => none
      | some (m, d, t) => if deep = none ∨ deep = some d then (if segIn L keys i (a + size) m then rdK f L keys a (kids.drop (i + 1)) (i + 1) (size + m) (some d) (ts ++ [t]) else none) else none
    else none := by
  rw [List.drop_eq_getElem_cons hi]; rfl

set_option maxRecDepth 100000 in
theorem inside_con (v u : Value) (L : List Nd) (a i : Nat) (keys : List Int) (h : Hp) (hL : NL h v L) (ha : a < L.length) (hK : SlR h [] u keys.length (kcs keys) 1) (hik : i ≤ keys.length) (n1 : keys.length ≤ 1000000) (n2 : L[a].keys.length ≤ 1000000) : Con Try.prog 69 [v, .int .i64 (a : Nat), .int .i64 (i : Nat), u] h [] (fun r h' nb => r = .bool (L[a].keys.all (inB keys i)) ∧ h = h' ∧ nb = []) := by
  obtain ⟨bN, offN, capN, c, rfl, hcN, hNd⟩ := hL.at_ ha
  obtain ⟨A1, c1, A3, c3, A4, c4, rfl, lk, lv, lc, mk, mv, mc⟩ := NdR.form hNd
  obtain ⟨hk, hv, hc⟩ := hNd
  obtain ⟨A2, cap2, rfl, hle2, hmx2⟩ := SlR.form hK
  refine Con_of Try.func69 rfl Try.ntmps69 (Nat.le_of_ble_eq_true rfl) (fun w0 => ?_)
  refine V_seq ?_
  refine V_region ?_
  refine VL_still rfl rfl rfl (S_assign rfl) ?_
  refine VL_nil ?_
  refine VQ_then ?_
  refine V_seq ?_
  refine V_seq ?_
  refine V_region ?_
  refine VL_still rfl rfl rfl (S_move rfl) ?_
  refine VL_still rfl rfl rfl (S_move rfl) ?_
  refine VL_still rfl rfl rfl (X_at a Try.underlying41 tx108 rfl rfl ha) ?_
  refine VL_still rfl rfl rfl (S_field (k := 0) Try.underlying108 rfl rfl ti88 rfl rfl) ?_
  refine VL_still rfl rfl rfl (S_load Try.underlying88 rfl rfl hcN.1.mem) ?_
  refine VL_still rfl rfl rfl (S_len Try.underlying88 rfl) ?_
  refine VL_still rfl rfl rfl (S_move rfl) ?_
  refine VL_nil ?_
  refine VQ_then ?_
  refine V_block ?_
  refine V_loop (ι := Nat) (fun j => L[a].keys.length - j) (fun j => j ≤ L[a].keys.length ∧ ∀ (q : Nat) (hq : q < L[a].keys.length), q < j → inB keys i L[a].keys[q] = true) (fun j => [(2, .int .i64 (i : Nat)), (3, .slice A2 keys.length cap2), (15, .slice A1 L[a].keys.length c1), (16, .int .i64 L[a].keys.length), (17, .int .i64 j)]) (fun _ => h) (fun _ => []) 0 ⟨Nat.zero_le _, fun q hq h => absurd h (by omega)⟩ (by repeat (first | exact trivial | refine ⟨rfl, ?_⟩)) rfl SubB.any (fun j hj => ?_)
  obtain ⟨hj1, hj2⟩ := hj
  refine V_seq ?_
  refine V_region ?_
  refine VL_still rfl rfl rfl (S_lss rfl rfl) ?_
  refine VL_nil ?_
  refine VQ_then ?_
  refine V_seq ?_
  refine V_cond rfl (fun hc18 => ?_) (fun hc18 => ?_)
  · skip
    have hlt : j < L[a].keys.length := by
      have := of_decide_eq_true hc18
      omega
    obtain ⟨bb, off, cap', e1, hcc⟩ := SlR.at_ kcE hk rfl hlt
    simp only [sv, Value.slice.injEq] at e1
    obtain ⟨rfl, _, rfl⟩ := e1
    refine V_skip ?_
    refine VQ_then ?_
    refine V_seq ?_
    refine V_block ?_
    refine V_seq ?_
    refine V_region ?_
    refine VL_still rfl rfl rfl (X_at j Try.underlying88 tx23 rfl rfl hlt) ?_
    refine VL_still rfl rfl rfl (S_load Try.underlying23 rfl rfl hcc.1.mem) ?_
    refine VL_still rfl rfl rfl (S_assign rfl) ?_
    refine VL_nil ?_
    refine VQ_then ?_
    refine V_seq ?_
    refine V_region ?_
    refine VL_still rfl rfl rfl (S_move rfl) ?_
    refine VL_still rfl rfl rfl (S_gtr rfl rfl) ?_
    refine VL_still rfl rfl rfl (S_move rfl) ?_
    refine VL_bool 23 rfl (fun hc23 => ?_) (fun hc23 => ?_)
    · skip
      have hi0 : 0 < i := by
        have := of_decide_eq_true hc23
        omega
      have hlt2 : i - 1 < keys.length := by omega
      have hgd : keys.getD (i - 1) 0 = keys[i - 1] := getD_at hlt2
      obtain ⟨bb2, off2, cap2', e1, hcc2⟩ := SlR.at_ kcE hK rfl hlt2
      simp only [sv, Value.slice.injEq] at e1
      obtain ⟨rfl, _, rfl⟩ := e1
      refine VL_still rfl rfl rfl (S_move rfl) ?_
      refine VL_still rfl rfl rfl (S_move rfl) ?_
      refine VL_still rfl rfl rfl (S_move rfl) ?_
      refine VL_still rfl rfl rfl (S_subn i 1 rfl rfl (by omega) (by omega)) ?_
      refine VL_still rfl rfl rfl (X_at (i - 1) Try.underlying88 tx23 rfl rfl hlt2) ?_
      refine VL_still rfl rfl rfl (S_load Try.underlying23 rfl rfl hcc2.1.mem) ?_
      refine VL_still rfl rfl rfl (S_lss rfl rfl) ?_
      first | refine VL_still rfl rfl rfl (S_pick_t rfl rfl) ?_ | refine VL_still rfl rfl rfl (S_pick_f rfl rfl) ?_
      refine VL_still rfl rfl rfl (S_move rfl) ?_
      refine VL_bool 32 rfl (fun hc32 => ?_) (fun hc32 => ?_)
      · skip
        have hlow : L[a].keys[j] < keys[i - 1] := of_decide_eq_true hc32
        refine VL_skip rfl rfl rfl ?_
        refine VL_skip rfl rfl rfl ?_
        refine VL_skip rfl rfl rfl ?_
        refine VL_skip rfl rfl rfl ?_
        refine VL_skip rfl rfl rfl ?_
        refine VL_skip rfl rfl rfl ?_
        refine VL_skip rfl rfl rfl ?_
        refine VL_skip rfl rfl rfl ?_
        refine VL_skip rfl rfl rfl ?_
        refine VL_skip rfl rfl rfl ?_
        refine VL_skip rfl rfl rfl ?_
        refine VL_skip rfl rfl rfl ?_
        first | refine VL_still rfl rfl rfl (S_pick_t rfl rfl) ?_ | refine VL_still rfl rfl rfl (S_pick_f rfl rfl) ?_
        refine VL_nil ?_
        refine VQ_then ?_
        refine V_cond_true rfl ?_
        refine V_seq ?_
        refine V_region ?_
        refine VL_still rfl rfl rfl (S_assign rfl) ?_
        refine VL_nil ?_
        refine VQ_then ?_
        refine V_ret ?_
        refine VQ_block_ret ?_
        refine VQ_then_ret ?_
        refine VQ_then_ret ?_
        refine VQ_block_ret ?_
        refine VQ_then_ret ?_
        refine VQ_fin1 (nb := []) (by first | exact .inl rfl | exact .inr rfl) rfl (RV_tmp rfl) ?sb ?po
        case po =>
          refine ⟨congrArg Value.bool ?_, rfl, rfl⟩
          symm
          rw [List.all_eq_false]
          have hno : inB keys i L[a].keys[j] = false := by
            unfold inB
            rw [hgd, decide_eq_false (by omega : ¬ i = 0), decide_eq_false (by omega : ¬ keys[i - 1] ≤ L[a].keys[j])]; rfl
          exact ⟨L[a].keys[j], List.getElem_mem hlt, by rw [hno]; simp⟩
        case sb => exact (by repeat (first | exact SubB.nil | exact Pick.here | apply Pick.there | apply SubB.emp | apply SubB.cons))
      · skip
        have hlow : ¬ L[a].keys[j] < keys[i - 1] := of_decide_eq_false hc32
        have hlo2 : keys[i - 1] ≤ L[a].keys[j] := by omega
        refine VL_still rfl rfl rfl (S_move rfl) ?_
        refine VL_still rfl rfl rfl (S_move rfl) ?_
        refine VL_still rfl rfl rfl (S_len Try.underlying88 rfl) ?_
        refine VL_still rfl rfl rfl (S_lss rfl rfl) ?_
        refine VL_still rfl rfl rfl (S_move rfl) ?_
        refine VL_bool 37 rfl (fun hc37 => ?_) (fun hc37 => ?_)
        · skip
          have hil : i < keys.length := by
            have := of_decide_eq_true hc37
            omega
          have hgd2 : keys.getD i 0 = keys[i] := getD_at hil
          obtain ⟨bb3, off3, cap3', e1, hcc3⟩ := SlR.at_ kcE hK rfl hil
          simp only [Value.slice.injEq, Option.some.injEq, Addr.mk.injEq, and_true] at e1
          obtain ⟨⟨rfl, rfl⟩, _, rfl⟩ := e1
          refine VL_still rfl rfl rfl (S_move rfl) ?_
          refine VL_still rfl rfl rfl (S_move rfl) ?_
          refine VL_still rfl rfl rfl (S_move rfl) ?_
          refine VL_still rfl rfl rfl (X_at i Try.underlying88 tx23 rfl rfl hil) ?_
          refine VL_still rfl rfl rfl (S_load Try.underlying23 rfl rfl hcc3.1.mem) ?_
          refine VL_still rfl rfl rfl (S_geq rfl rfl) ?_
          first | refine VL_still rfl rfl rfl (S_pick_t rfl rfl) ?_ | refine VL_still rfl rfl rfl (S_pick_f rfl rfl) ?_
          first | refine VL_still rfl rfl rfl (S_pick_t rfl rfl) ?_ | refine VL_still rfl rfl rfl (S_pick_f rfl rfl) ?_
          refine VL_nil ?_
          refine VQ_then ?_
          refine V_cond rfl (fun hc45 => ?_) (fun hc45 => ?_)
          · skip
            have hhigh : keys[i] ≤ L[a].keys[j] := of_decide_eq_true hc45
            refine V_seq ?_
            refine V_region ?_
            refine VL_still rfl rfl rfl (S_assign rfl) ?_
            refine VL_nil ?_
            refine VQ_then ?_
            refine V_ret ?_
            refine VQ_block_ret ?_
            refine VQ_then_ret ?_
            refine VQ_then_ret ?_
            refine VQ_block_ret ?_
            refine VQ_then_ret ?_
            refine VQ_fin1 (nb := []) (by first | exact .inl rfl | exact .inr rfl) rfl (RV_tmp rfl) ?sb ?po
            case po =>
              refine ⟨congrArg Value.bool ?_, rfl, rfl⟩
              symm
              rw [List.all_eq_false]
              have hno : inB keys i L[a].keys[j] = false := by
                unfold inB
                rw [hgd2, decide_eq_false (by omega : ¬ keys.length ≤ i), decide_eq_false (by omega : ¬ L[a].keys[j] < keys[i])]; exact Bool.and_false _
              exact ⟨L[a].keys[j], List.getElem_mem hlt, by rw [hno]; simp⟩
            case sb => exact (by repeat (first | exact SubB.nil | exact Pick.here | apply Pick.there | apply SubB.emp | apply SubB.cons))
          · skip
            have hhigh : ¬ keys[i] ≤ L[a].keys[j] := of_decide_eq_false hc45
            have hhi2 : L[a].keys[j] < keys[i] := by omega
            refine V_skip ?_
            refine VQ_block_normal ?_
            refine VQ_then ?_
            refine V_region ?_
            first | refine VL_still rfl rfl rfl (S_addi rfl rfl (by omega) (by omega)) ?_ | refine VL_still rfl rfl rfl (S_add rfl rfl) ?_
            refine VL_still rfl rfl rfl (S_move rfl) ?_
            refine VL_nil ?_
            have hin : inB keys i L[a].keys[j] = true := by
              unfold inB
              first
              | (rw [hgd, hgd2, decide_eq_true hlo2, decide_eq_true hhi2]; simp; done)
              | (rw [hgd, decide_eq_true hlo2, decide_eq_true (by omega : keys.length ≤ i)]; simp; done)
              | (rw [decide_eq_true hi0, hgd2, decide_eq_true hhi2]; simp; done)
              | (rw [decide_eq_true hi0, decide_eq_true (by omega : keys.length ≤ i)]; simp; done)
            refine VQ_mid (j + 1) ⟨⟨by omega, fun q hq hq' => ?_⟩, by omega⟩ (by repeat (first | exact trivial | refine ⟨rfl, ?_⟩)) rfl SubB.any
            rcases Nat.lt_or_ge q j with h1 | h1
            · exact hj2 q hq h1
            · obtain rfl : q = j := by omega
              exact hin
        · skip
          have hil : ¬ i < keys.length := by
            have := of_decide_eq_false hc37
            omega
          refine VL_skip rfl rfl rfl ?_
          refine VL_skip rfl rfl rfl ?_
          refine VL_skip rfl rfl rfl ?_
          refine VL_skip rfl rfl rfl ?_
          refine VL_skip rfl rfl rfl ?_
          refine VL_skip rfl rfl rfl ?_
          first | refine VL_still rfl rfl rfl (S_pick_t rfl rfl) ?_ | refine VL_still rfl rfl rfl (S_pick_f rfl rfl) ?_
          first | refine VL_still rfl rfl rfl (S_pick_t rfl rfl) ?_ | refine VL_still rfl rfl rfl (S_pick_f rfl rfl) ?_
          refine VL_nil ?_
          refine VQ_then ?_
          refine V_cond_false rfl ?_
          refine V_skip ?_
          refine VQ_block_normal ?_
          refine VQ_then ?_
          refine V_region ?_
          first | refine VL_still rfl rfl rfl (S_addi rfl rfl (by omega) (by omega)) ?_ | refine VL_still rfl rfl rfl (S_add rfl rfl) ?_
          refine VL_still rfl rfl rfl (S_move rfl) ?_
          refine VL_nil ?_
          have hin : inB keys i L[a].keys[j] = true := by
            unfold inB
            first
            | (rw [hgd, hgd2, decide_eq_true hlo2, decide_eq_true hhi2]; simp; done)
            | (rw [hgd, decide_eq_true hlo2, decide_eq_true (by omega : keys.length ≤ i)]; simp; done)
            | (rw [decide_eq_true hi0, hgd2, decide_eq_true hhi2]; simp; done)
            | (rw [decide_eq_true hi0, decide_eq_true (by omega : keys.length ≤ i)]; simp; done)
          refine VQ_mid (j + 1) ⟨⟨by omega, fun q hq hq' => ?_⟩, by omega⟩ (by repeat (first | exact trivial | refine ⟨rfl, ?_⟩)) rfl SubB.any
          rcases Nat.lt_or_ge q j with h1 | h1
          · exact hj2 q hq h1
          · obtain rfl : q = j := by omega
            exact hin
    · skip
      have hi0 : i = 0 := by
        have := of_decide_eq_false hc23
        omega
      refine VL_skip rfl rfl rfl ?_
      refine VL_skip rfl rfl rfl ?_
      refine VL_skip rfl rfl rfl ?_
      refine VL_skip rfl rfl rfl ?_
      refine VL_skip rfl rfl rfl ?_
      refine VL_skip rfl rfl rfl ?_
      refine VL_skip rfl rfl rfl ?_
      first | refine VL_still rfl rfl rfl (S_pick_t rfl rfl) ?_ | refine VL_still rfl rfl rfl (S_pick_f rfl rfl) ?_
      refine VL_still rfl rfl rfl (S_move rfl) ?_
      refine VL_still rfl rfl rfl (S_move rfl) ?_
      refine VL_still rfl rfl rfl (S_move rfl) ?_
      refine VL_still rfl rfl rfl (S_len Try.underlying88 rfl) ?_
      refine VL_still rfl rfl rfl (S_lss rfl rfl) ?_
      refine VL_still rfl rfl rfl (S_move rfl) ?_
      refine VL_bool 37 rfl (fun hc37 => ?_) (fun hc37 => ?_)
      · skip
        have hil : i < keys.length := by
          have := of_decide_eq_true hc37
          omega
        have hgd2 : keys.getD i 0 = keys[i] := getD_at hil
        obtain ⟨bb3, off3, cap3', e1, hcc3⟩ := SlR.at_ kcE hK rfl hil
        simp only [Value.slice.injEq] at e1
        obtain ⟨rfl, _, rfl⟩ := e1
        refine VL_still rfl rfl rfl (S_move rfl) ?_
        refine VL_still rfl rfl rfl (S_move rfl) ?_
        refine VL_still rfl rfl rfl (S_move rfl) ?_
        refine VL_still rfl rfl rfl (X_at i Try.underlying88 tx23 rfl rfl hil) ?_
        refine VL_still rfl rfl rfl (S_load Try.underlying23 rfl rfl hcc3.1.mem) ?_
        refine VL_still rfl rfl rfl (S_geq rfl rfl) ?_
        first | refine VL_still rfl rfl rfl (S_pick_t rfl rfl) ?_ | refine VL_still rfl rfl rfl (S_pick_f rfl rfl) ?_
        first | refine VL_still rfl rfl rfl (S_pick_t rfl rfl) ?_ | refine VL_still rfl rfl rfl (S_pick_f rfl rfl) ?_
        refine VL_nil ?_
        refine VQ_then ?_
        refine V_cond rfl (fun hc45 => ?_) (fun hc45 => ?_)
        · skip
          have hhigh : keys[i] ≤ L[a].keys[j] := of_decide_eq_true hc45
          refine V_seq ?_
          refine V_region ?_
          refine VL_still rfl rfl rfl (S_assign rfl) ?_
          refine VL_nil ?_
          refine VQ_then ?_
          refine V_ret ?_
          refine VQ_block_ret ?_
          refine VQ_then_ret ?_
          refine VQ_then_ret ?_
          refine VQ_block_ret ?_
          refine VQ_then_ret ?_
          refine VQ_fin1 (nb := []) (by first | exact .inl rfl | exact .inr rfl) rfl (RV_tmp rfl) ?sb ?po
          case po =>
            refine ⟨congrArg Value.bool ?_, rfl, rfl⟩
            symm
            rw [List.all_eq_false]
            have hno : inB keys i L[a].keys[j] = false := by
              unfold inB
              rw [hgd2, decide_eq_false (by omega : ¬ keys.length ≤ i), decide_eq_false (by omega : ¬ L[a].keys[j] < keys[i])]; exact Bool.and_false _
            exact ⟨L[a].keys[j], List.getElem_mem hlt, by rw [hno]; simp⟩
          case sb => exact (by repeat (first | exact SubB.nil | exact Pick.here | apply Pick.there | apply SubB.emp | apply SubB.cons))
        · skip
          have hhigh : ¬ keys[i] ≤ L[a].keys[j] := of_decide_eq_false hc45
          have hhi2 : L[a].keys[j] < keys[i] := by omega
          refine V_skip ?_
          refine VQ_block_normal ?_
          refine VQ_then ?_
          refine V_region ?_
          first | refine VL_still rfl rfl rfl (S_addi rfl rfl (by omega) (by omega)) ?_ | refine VL_still rfl rfl rfl (S_add rfl rfl) ?_
          refine VL_still rfl rfl rfl (S_move rfl) ?_
          refine VL_nil ?_
          have hin : inB keys i L[a].keys[j] = true := by
            unfold inB
            first
            | (rw [hgd, hgd2, decide_eq_true hlo2, decide_eq_true hhi2]; simp; done)
            | (rw [hgd, decide_eq_true hlo2, decide_eq_true (by omega : keys.length ≤ i)]; simp; done)
            | (rw [decide_eq_true hi0, hgd2, decide_eq_true hhi2]; simp; done)
            | (rw [decide_eq_true hi0, decide_eq_true (by omega : keys.length ≤ i)]; simp; done)
          refine VQ_mid (j + 1) ⟨⟨by omega, fun q hq hq' => ?_⟩, by omega⟩ (by repeat (first | exact trivial | refine ⟨rfl, ?_⟩)) rfl SubB.any
          rcases Nat.lt_or_ge q j with h1 | h1
          · exact hj2 q hq h1
          · obtain rfl : q = j := by omega
            exact hin
      · skip
        have hil : ¬ i < keys.length := by
          have := of_decide_eq_false hc37
          omega
        refine VL_skip rfl rfl rfl ?_
        refine VL_skip rfl rfl rfl ?_
        refine VL_skip rfl rfl rfl ?_
        refine VL_skip rfl rfl rfl ?_
        refine VL_skip rfl rfl rfl ?_
        refine VL_skip rfl rfl rfl ?_
        first | refine VL_still rfl rfl rfl (S_pick_t rfl rfl) ?_ | refine VL_still rfl rfl rfl (S_pick_f rfl rfl) ?_
        first | refine VL_still rfl rfl rfl (S_pick_t rfl rfl) ?_ | refine VL_still rfl rfl rfl (S_pick_f rfl rfl) ?_
        refine VL_nil ?_
        refine VQ_then ?_
        refine V_cond_false rfl ?_
        refine V_skip ?_
        refine VQ_block_normal ?_
        refine VQ_then ?_
        refine V_region ?_
        first | refine VL_still rfl rfl rfl (S_addi rfl rfl (by omega) (by omega)) ?_ | refine VL_still rfl rfl rfl (S_add rfl rfl) ?_
        refine VL_still rfl rfl rfl (S_move rfl) ?_
        refine VL_nil ?_
        have hin : inB keys i L[a].keys[j] = true := by
          unfold inB
          first
          | (rw [hgd, hgd2, decide_eq_true hlo2, decide_eq_true hhi2]; simp; done)
          | (rw [hgd, decide_eq_true hlo2, decide_eq_true (by omega : keys.length ≤ i)]; simp; done)
          | (rw [decide_eq_true hi0, hgd2, decide_eq_true hhi2]; simp; done)
          | (rw [decide_eq_true hi0, decide_eq_true (by omega : keys.length ≤ i)]; simp; done)
        refine VQ_mid (j + 1) ⟨⟨by omega, fun q hq hq' => ?_⟩, by omega⟩ (by repeat (first | exact trivial | refine ⟨rfl, ?_⟩)) rfl SubB.any
        rcases Nat.lt_or_ge q j with h1 | h1
        · exact hj2 q hq h1
        · obtain rfl : q = j := by omega
          exact hin
  · skip
    refine V_exit ?_
    refine VQ_then_exit ?_
    refine VQ_then_exit ?_
    refine VQ_block_exit ?_
    refine VQ_then ?_
    refine V_seq ?_
    refine V_region ?_
    refine VL_still rfl rfl rfl (S_assign rfl) ?_
    refine VL_nil ?_
    refine VQ_then ?_
    refine V_ret ?_
    refine VQ_fin1 (nb := []) (by first | exact .inl rfl | exact .inr rfl) rfl (RV_tmp rfl) ?sb ?po
    case po =>
      have hge : j = L[a].keys.length := by
        have := of_decide_eq_false hc18
        omega
      refine ⟨congrArg Value.bool ?_, rfl, rfl⟩
      symm
      rw [List.all_eq_true]
      intro k hk'
      obtain ⟨q, hq, rfl⟩ := List.getElem_of_mem hk'
      exact hj2 q hq (by omega)
    case sb => exact (by repeat (first | exact SubB.nil | exact Pick.here | apply Pick.there | apply SubB.emp | apply SubB.cons))

end Go.Proofs.Ytdglignjoojimaa

/- The plain law of trees, part 13: what is read is less deep than it has nodes. No program in sight. No conditions. -/
set_option linter.unusedVariables false
set_option linter.unusedSimpArgs false
namespace Go.Proofs.Ytdglignjoojimaa

theorem rd_deep : ∀ {n a m d : Nat} {L : List Nd} {t : Tr}, rdT n L a = some (m, d, t) → d < m
  | 0, a, m, d, L, t, h => by simp [rdT] at h
  | n + 1, a, m, d, L, t, h => by
    obtain ⟨x, hx, hf, hc⟩ := rdT_leaf h
    rcases hc with ⟨k0, rfl, rfl, rfl⟩ | ⟨d', ts, k0, rfl, rfl, hc⟩
    · omega
    · cases hk : x.kids with
      | nil => rw [hk] at k0; exact absurd rfl k0
      | cons kid r =>
        rw [hk] at hc
        cases hc with
        | cons h1 h2 h3 h4 =>
          have := rd_deep h2
          have hle := rdT_le h2
          have := (h4.le (fun b m d t h => rdT_le h) (by omega)).2
          omega
/-- The loop of the kids, where it is at its end. -/
theorem rdK_end {n : Nat} {L : List Nd} {x : Nd} {a : Nat} (hx : L[a]? = some x) (hf : formB x (decide (a = 0)) = true) (hk : ¬ x.kids.length = 0) : rdT (n + 1) L a = (match rdK (rdT n L) L x.keys a x.kids 0 1 none [] with
          | none => none
          | some (size, deep, ts) => some (size, deep.getD 0 + 1, .node x.keys ts)) := by
  rw [rdT_s, hx]
  simp only
  rw [if_pos hf, if_neg hk]
  cases rdK (rdT n L) L x.keys a x.kids 0 1 none [] <;> rfl
theorem rdK_deep {f : Nat → Option (Nat × Nat × Tr)} {L : List Nd} {keys : List Int} {a : Nat} {kids : List Int} {i size : Nat} {deep : Option Nat} {ts : List Tr} {size' : Nat} {deep' : Option Nat} {ts' : List Tr}
    (h : rdK f L keys a kids i size deep ts = some (size', deep', ts')) (hk : kids ≠ []) : ∃ d, deep' = some d := by
  obtain ⟨us, _, hc⟩ := rdK_spec h
  rcases hc with ⟨e, _⟩ | ⟨d, e, _⟩
  · exact absurd e hk
  · exact ⟨d, e⟩
end Go.Proofs.Ytdglignjoojimaa

/- The nodes as the reference reads them. No conditions. -/
set_option linter.unusedVariables false
set_option linter.unusedSimpArgs false
namespace Go.Proofs.Ytdglignjoojimaa

set_option maxRecDepth 100000 in
theorem read_step (n : Nat) (v : Value) (L : List Nd) (a : Nat) (h : Hp) (hL : NL h v L) (nL : L.length ≤ 10000) (na : a ≤ 20000) (nf : L.length ≤ n + 1 + a) (ih : ∀ (a : Nat) (h : Hp), NL h v L → a ≤ 20000 → L.length ≤ n + a → Con Try.prog 45 [v, .int .i64 (a : Nat)] h [] (fun r h' nb => nb = [] ∧ RdP h' r (rdT n L a))) : Con Try.prog 45 [v, .int .i64 (a : Nat)] h [] (fun r h' nb => nb = [] ∧ RdP h' r (rdT (n + 1) L a)) := by
  obtain ⟨A0, cap0, rfl, hle0, hmx0⟩ := hL.form
  refine Con_of Try.func45 rfl Try.ntmps45 (Nat.le_of_ble_eq_true rfl) (fun w0 => ?_)
  refine V_seq ?_
  refine V_region ?_
  refine VL_still rfl rfl rfl (S_assign rfl) ?_
  refine VL_still rfl rfl rfl (S_assign rfl) ?_
  refine VL_still rfl rfl rfl (S_assign rfl) ?_
  refine VL_still rfl rfl rfl (S_assign rfl) ?_
  refine VL_nil ?_
  refine VQ_then ?_
  refine V_seq ?_
  refine V_seq ?_
  refine V_region ?_
  refine VL_still rfl rfl rfl (S_move rfl) ?_
  refine VL_still rfl rfl rfl (S_move rfl) ?_
  refine VL_still rfl rfl rfl (S_len Try.underlying41 rfl) ?_
  refine VL_still rfl rfl rfl (S_geq rfl rfl) ?_
  refine VL_still rfl rfl rfl (S_move rfl) ?_
  refine VL_bool 24 rfl (fun hc24 => ?_) (fun hc24 => ?_)
  · skip
    have hge : L.length ≤ a := by
      have := of_decide_eq_true hc24
      omega
    refine VL_skip rfl rfl rfl ?_
    refine VL_skip rfl rfl rfl ?_
    refine VL_skip rfl rfl rfl ?_
    refine VL_skip rfl rfl rfl ?_
    refine VL_skip rfl rfl rfl ?_
    refine VL_skip rfl rfl rfl ?_
    refine VL_skip rfl rfl rfl ?_
    refine VL_skip rfl rfl rfl ?_
    first | refine VL_still rfl rfl rfl (S_pick_t rfl rfl) ?_ | refine VL_still rfl rfl rfl (S_pick_f rfl rfl) ?_
    refine VL_nil ?_
    refine VQ_then ?_
    refine V_cond_true rfl ?_
    refine V_seq ?_
    refine V_region ?_
    refine VL_still rfl rfl rfl (S_assign rfl) ?_
    refine VL_still rfl rfl rfl (S_assign rfl) ?_
    refine VL_still rfl rfl rfl (S_assign rfl) ?_
    refine VL_still rfl rfl rfl (S_assign rfl) ?_
    refine VL_nil ?_
    refine VQ_then ?_
    refine V_ret ?_
    refine VQ_then_ret ?_
    refine VQ_fin4 (nb := []) (by first | exact .inl rfl | exact .inr rfl) rfl (RV_tmp rfl) (RV_tmp rfl) (RV_tmp rfl) (RV_tmp rfl) ?sb ?po
    case po =>
      rw [rdT_none hge]
      exact ⟨rfl, rfl⟩
    case sb => exact (by repeat (first | exact SubB.nil | exact Pick.here | apply Pick.there | apply SubB.emp | apply SubB.cons))
  · skip
    have haL : a < L.length := by
      have := of_decide_eq_false hc24
      omega
    obtain ⟨bN, offN, capN, c, e1, hcN, hNd⟩ := hL.at_ haL
    simp only [Value.slice.injEq] at e1
    obtain ⟨rfl, _, rfl⟩ := e1
    have hx : L[a]? = some L[a] := List.getElem?_eq_getElem haL
    generalize hxe : L[a] = x at hNd hx
    obtain ⟨A1, c1, A2, c2, A3, c3, rfl, lk, lv, lc, mk, mv, mc⟩ := NdR.form hNd
    have hNd' := hNd
    obtain ⟨hk, hv, hc⟩ := hNd'
    have hroot : decide ((a : Int) = 0) = decide (a = 0) := by
      by_cases h0 : a = 0
      · subst h0; rfl
      · rw [decide_eq_false h0, decide_eq_false (by omega)]
    refine VL_still rfl rfl rfl (S_move rfl) ?_
    refine VL_still rfl rfl rfl (S_move rfl) ?_
    refine VL_still rfl rfl rfl (X_at a Try.underlying41 tx108 rfl rfl haL) ?_
    refine VL_still rfl rfl rfl (S_loads (vs := tri ((A1, x.keys.length, c1), (A2, x.vals.length, c2), (A3, x.kids.length, c3))) Try.underlying108 rfl ti108 rfl rfl (hcN.mono (Sub.refl _) (fun q hq => by simp at hq))) ?_
    refine VL_still rfl rfl rfl (S_move rfl) ?_
    refine VL_still rfl rfl rfl (S_eql rfl rfl) ?_
    refine VL_eff rfl (E_call rfl rfl rfl Try.call68 (form_con ((A1, x.keys.length, c1), (A2, x.vals.length, c2), (A3, x.kids.length, c3)) x (decide ((a : Int) = 0)) h hNd) (by repeat (first | exact Split.nil | exact Pick.here | apply Pick.there | apply Split.cons))) ?_
    rintro _ hh31 _ ⟨v31, nb31, ⟨rfl, rfl, rfl⟩, hs31, rfl, rfl⟩
    refine VL_still rfl rfl rfl (S_not rfl) ?_
    first | refine VL_still rfl rfl rfl (S_pick_t rfl rfl) ?_ | refine VL_still rfl rfl rfl (S_pick_f rfl rfl) ?_
    refine VL_nil ?_
    refine VQ_then ?_
    refine V_cond rfl (fun hc33 => ?_) (fun hc33 => ?_)
    · skip
      have hf : formB x (decide (a = 0)) = false := by
        rw [hroot] at hc33
        simpa using hc33
      refine V_seq ?_
      refine V_region ?_
      refine VL_still rfl rfl rfl (S_assign rfl) ?_
      refine VL_still rfl rfl rfl (S_assign rfl) ?_
      refine VL_still rfl rfl rfl (S_assign rfl) ?_
      refine VL_still rfl rfl rfl (S_assign rfl) ?_
      refine VL_nil ?_
      refine VQ_then ?_
      refine V_ret ?_
      refine VQ_then_ret ?_
      refine VQ_fin4 (nb := []) (by first | exact .inl rfl | exact .inr rfl) rfl (RV_tmp rfl) (RV_tmp rfl) (RV_tmp rfl) (RV_tmp rfl) ?sb ?po
      case po =>
        rw [rdT_bad haL (by rw [hxe]; exact hf)]
        exact ⟨rfl, rfl⟩
      case sb => exact (by repeat (first | exact SubB.nil | exact Pick.here | apply Pick.there | apply SubB.emp | apply SubB.cons))
    · skip
      have hf : formB x (decide (a = 0)) = true := by
        rw [hroot] at hc33
        simpa using hc33
      obtain ⟨f1, f2, f3, f4, f5⟩ := formB_spec hf
      refine V_skip ?_
      refine VQ_then ?_
      refine V_seq ?_
      refine V_region ?_
      refine VL_still rfl rfl rfl (S_move rfl) ?_
      refine VL_still rfl rfl rfl (S_move rfl) ?_
      refine VL_still rfl rfl rfl (X_at a Try.underlying41 tx108 rfl rfl haL) ?_
      refine VL_still rfl rfl rfl (S_loads (vs := tri ((A1, x.keys.length, c1), (A2, x.vals.length, c2), (A3, x.kids.length, c3))) Try.underlying108 rfl ti108 rfl rfl (hcN.mono (Sub.refl _) (fun q hq => by simp at hq))) ?_
      refine VL_eff rfl (E_alloc rfl tz108) ?_
      rintro _ _ _ ⟨b8, hb8, rfl, rfl, rfl⟩
      refine VL_eff rfl (E_store ti108 rfl rfl rfl rfl rfl (by repeat (first | exact Has.here | apply Has.there)) (by repeat (first | exact PutR.nil | exact SetL.here | apply SetL.there | apply PutR.cons)) (by repeat (first | exact UpdG.here | apply UpdG.there))) ?_
      rintro _ _ _ ⟨rfl, rfl, rfl⟩
      refine VL_nil ?_
      refine VQ_then ?_
      refine V_seq ?_
      refine V_region ?_
      refine VL_eff rfl (E_bs0 rfl Try.underlying26 ti47) ?_
      rintro _ _ _ ⟨b38, hb38, rfl, rfl, rfl⟩
      refine VL_still rfl rfl rfl (S_assign rfl) ?_
      refine VL_nil ?_
      refine VQ_then ?_
      refine V_seq ?_
      refine V_seq ?_
      refine V_region ?_
      refine VL_still rfl rfl rfl (S_field (k := 2) Try.underlying108 rfl rfl ti71 rfl rfl) ?_
      first | refine VL_still rfl rfl rfl (S_load Try.underlying71 rfl rfl (Cell.trk (by repeat (first | exact Has.here | apply Has.there)) rfl)) ?_ | refine VL_still rfl rfl rfl (S_load Try.underlying71 rfl rfl (Cell.known (by first | assumption | exact (by assumption : Sub _ _) _ _ (by assumption) | exact (Sub.trans (by assumption) (by assumption)) _ _ (by assumption)) rfl)) ?_
      refine VL_still rfl rfl rfl (S_len Try.underlying71 rfl) ?_
      refine VL_still rfl rfl rfl (S_eql rfl rfl) ?_
      refine VL_nil ?_
      refine VQ_then ?_
      refine V_cond rfl (fun hc42 => ?_) (fun hc42 => ?_)
      · skip
        have hk0 : x.kids.length = 0 := by
          have := of_decide_eq_true hc42
          dsimp only at this
          omega
        have hvl := f4 hk0
        refine V_seq ?_
        refine V_seq ?_
        refine V_region ?_
        refine VL_still rfl rfl rfl (S_field (k := 0) Try.underlying108 rfl rfl ti88 rfl rfl) ?_
        first | refine VL_still rfl rfl rfl (S_load Try.underlying88 rfl rfl (Cell.trk (by repeat (first | exact Has.here | apply Has.there)) rfl)) ?_ | refine VL_still rfl rfl rfl (S_load Try.underlying88 rfl rfl (Cell.known (by first | assumption | exact (by assumption : Sub _ _) _ _ (by assumption) | exact (Sub.trans (by assumption) (by assumption)) _ _ (by assumption)) rfl)) ?_
        refine VL_still rfl rfl rfl (S_len Try.underlying88 rfl) ?_
        refine VL_still rfl rfl rfl (S_move rfl) ?_
        refine VL_nil ?_
        refine VQ_then ?_
        refine V_block ?_
        refine V_loop (ι := Nat × Value × Gr) (fun x' => x.keys.length - x'.1) (fun (i, v, G) => i ≤ x.keys.length ∧ BP v ((x.keys.zip x.vals).take i) G) (fun (i, v, G) => [(8, ptr b8), (9, v), (45, .int .i64 x.keys.length), (46, .int .i64 i)]) (fun _ => h) (fun (i, v, G) => [G, [(b8, .cells (List.toArray [.slice A1 x.keys.length c1, .slice A2 x.vals.length c2, .slice A3 x.kids.length c3]) 108 (0, 0))]]) (0, .slice (some ⟨b38, 0, none⟩) 0 0, _) ⟨Nat.zero_le _, Buf.lit (n := 0) (cs := []) rfl (by omega)⟩ (by repeat (first | exact trivial | refine ⟨rfl, ?_⟩)) rfl (by repeat (first | exact SubB.nil | exact Pick.here | apply Pick.there | apply SubB.emp | apply SubB.cons)) (fun ⟨i, v, G⟩ hi => ?_)
        obtain ⟨hi1, hB⟩ := hi
        simp only at hi1 hB ⊢
        refine V_seq ?_
        refine V_region ?_
        refine VL_still rfl rfl rfl (S_lss rfl rfl) ?_
        refine VL_nil ?_
        refine VQ_then ?_
        refine V_seq ?_
        refine V_cond rfl (fun hc47 => ?_) (fun hc47 => ?_)
        · skip
          have hlt : i < x.keys.length := by
            have := of_decide_eq_true hc47
            omega
          have hltv : i < x.vals.length := by omega
          have hzl : ((x.keys.zip x.vals).take i).length ≤ 7 := by
            rw [List.length_take]; omega
          obtain ⟨bb, off, cap', e1, hcc⟩ := SlR.at_ kcE hk rfl hlt
          simp only [sv, Value.slice.injEq] at e1
          obtain ⟨rfl, _, rfl⟩ := e1
          obtain ⟨bb2, off2, cap2', e1, hcc2⟩ := SlR.at_ xcE hv rfl hltv
          simp only [sv, Value.slice.injEq] at e1
          obtain ⟨rfl, _, rfl⟩ := e1
          refine V_skip ?_
          refine VQ_then ?_
          refine V_seq ?_
          refine V_block ?_
          refine V_seq ?_
          refine V_region ?_
          refine VL_still rfl rfl rfl (S_move rfl) ?_
          refine VL_still rfl rfl rfl (S_assign rfl) ?_
          refine VL_nil ?_
          refine VQ_then ?_
          refine V_draw _ [[(b8, .cells (List.toArray [.slice (some ⟨bb, off, none⟩) x.keys.length c1, .slice (some ⟨bb2, off2, none⟩) x.vals.length c2, .slice A3 x.kids.length c3]) 108 (0, 0))]] 12288 Try.mixed (by kernel_rfl) (Sub.refl _) (by repeat (first | exact SubB.nil | exact Pick.here | apply Pick.there | apply SubB.emp | apply SubB.cons)) ?_
          refine VD_still rfl rfl rfl rfl (S_move rfl) ?_
          refine VD_still rfl rfl rfl rfl (S_field (k := 0) Try.underlying108 rfl rfl ti88 rfl rfl) ?_
          first | refine VD_still rfl rfl rfl rfl (S_load Try.underlying88 rfl rfl (Cell.trk (by repeat (first | exact Has.here | apply Has.there)) rfl)) ?_ | refine VD_still rfl rfl rfl rfl (S_load Try.underlying88 rfl rfl (Cell.known (by first | assumption | exact (by assumption : Sub _ _) _ _ (by assumption) | exact (Sub.trans (by assumption) (by assumption)) _ _ (by assumption)) rfl)) ?_
          refine VD_still rfl rfl rfl rfl (S_move rfl) ?_
          refine VD_still rfl rfl rfl rfl (X_at i Try.underlying88 tx23 rfl rfl hlt) ?_
          refine VD_still rfl rfl rfl rfl (S_load Try.underlying23 rfl rfl hcc.1.mem) ?_
          refine VD_still rfl rfl rfl rfl (S_field (k := 1) Try.underlying108 rfl rfl ti89 rfl rfl) ?_
          first | refine VD_still rfl rfl rfl rfl (S_load Try.underlying89 rfl rfl (Cell.trk (by repeat (first | exact Has.here | apply Has.there)) rfl)) ?_ | refine VD_still rfl rfl rfl rfl (S_load Try.underlying89 rfl rfl (Cell.known (by first | assumption | exact (by assumption : Sub _ _) _ _ (by assumption) | exact (Sub.trans (by assumption) (by assumption)) _ _ (by assumption)) rfl)) ?_
          refine VD_still rfl rfl rfl rfl (S_move rfl) ?_
          refine VD_still rfl rfl rfl rfl (X_at i Try.underlying89 tx34 rfl rfl hltv) ?_
          refine VD_still rfl rfl rfl rfl (S_loads (vs := xc x.vals[i]) Try.underlying34 rfl ti34 rfl rfl (hcc2.mono (Sub.refl _) (fun q hq => by simp at hq))) ?_
          refine VD_still rfl rfl rfl rfl (S_struct Try.underlying47 to47 tz47 rfl (by repeat (first | exact BuildR.nil | exact PutR.nil | exact SetL.here | apply SetL.there | apply PutR.cons | apply BuildR.cons rfl (by first | exact ti23 | exact ti34) rfl rfl rfl))) ?_
          refine VD_eff rfl rfl (E_bs1 rfl Try.underlying26 ti47 rfl rfl rfl rfl rfl rfl) ?_
          rintro _ _ _ ⟨b61, hb61, rfl, rfl, rfl⟩
          refine ⟨⟨(by first | exact Sub.refl _ | (first | assumption | (refine Sub.trans (by assumption) ?_; first | assumption | (refine Sub.trans (by assumption) ?_; first | assumption | (refine Sub.trans (by assumption) ?_; first | assumption | (refine Sub.trans (by assumption) ?_; first | assumption | (refine Sub.trans (by assumption) ?_; first | assumption | (refine Sub.trans (by assumption) ?_; first | assumption)))))))), (by repeat (first | exact SubB.nil | exact Pick.here | apply Pick.there | apply SubB.emp | apply SubB.cons))⟩, ?_⟩
          refine VD_eff rfl rfl (X_append rfl Try.underlying26 Try.underlying26 rfl tx47 rfl rfl rfl rfl hB (by repeat (first | exact Pick.here | apply Pick.there)) (Buf.reads (G := [(b61, .cells (List.toArray [.int .u64 x.keys[i], .int .i64 x.vals[i].1, .int .i64 x.vals[i].2]) 47 (0, 0))]) (Buf.lit (n := 1) (by rfl) (by omega)) (fun q hq => by simp at hq ⊢; try simp [hq])) rfl (by omega)) ?_
          rintro _ _ _ ⟨v62, G62, hB62, rfl, rfl, rfl⟩
          replace hB62 := Buf.snoc (enc := pr) (a := (x.keys[i], x.vals[i])) hB62
          refine ⟨⟨(by first | exact Sub.refl _ | (first | assumption | (refine Sub.trans (by assumption) ?_; first | assumption | (refine Sub.trans (by assumption) ?_; first | assumption | (refine Sub.trans (by assumption) ?_; first | assumption | (refine Sub.trans (by assumption) ?_; first | assumption | (refine Sub.trans (by assumption) ?_; first | assumption | (refine Sub.trans (by assumption) ?_; first | assumption)))))))), (by repeat (first | exact SubB.nil | exact Pick.here | apply Pick.there | apply SubB.emp | apply SubB.cons))⟩, ?_⟩
          refine VD_still rfl rfl rfl rfl (S_assign rfl) ?_
          refine VD_nil ?_
          refine VQ_block_normal ?_
          refine VQ_then ?_
          refine V_region ?_
          first | refine VL_still rfl rfl rfl (S_addi rfl rfl (by omega) (by omega)) ?_ | refine VL_still rfl rfl rfl (S_add rfl rfl) ?_
          refine VL_still rfl rfl rfl (S_move rfl) ?_
          refine VL_nil ?_
          refine VQ_mid (i + 1, v62, G62) ⟨⟨by omega, by rw [zip_snoc hlt hltv]; exact hB62⟩, by simp only; omega⟩ (by repeat (first | exact trivial | refine ⟨rfl, ?_⟩)) rfl (by repeat (first | exact SubB.nil | exact Pick.here | apply Pick.there | apply SubB.emp | apply SubB.cons))
        · skip
          have hge : i = x.keys.length := by
            have := of_decide_eq_false hc47
            omega
          subst hge
          rw [List.take_of_length_le (by rw [List.length_zip]; omega)] at hB
          refine V_exit ?_
          refine VQ_then_exit ?_
          refine VQ_then_exit ?_
          refine VQ_block_exit ?_
          refine VQ_then ?_
          refine V_seq ?_
          refine V_region ?_
          refine VL_still rfl rfl rfl (S_move rfl) ?_
          refine VL_still rfl rfl rfl (S_assign rfl) ?_
          refine VL_still rfl rfl rfl (S_assign rfl) ?_
          refine VL_still rfl rfl rfl (S_assign rfl) ?_
          refine VL_still rfl rfl rfl (S_assign rfl) ?_
          refine VL_nil ?_
          refine VQ_then ?_
          refine V_ret ?_
          refine VQ_then_ret ?_
          refine VQ_keeps (blA := [G]) (by repeat (first | exact Split.nil | exact Pick.here | apply Pick.there | apply Split.cons)) (fun h2 sh2 kh2 => ?_)
          obtain ⟨q3, _⟩ := kh2
          refine VQ_fin4 (nb := []) (by first | exact .inl rfl | exact .inr rfl) rfl (RV_tmp rfl) (RV_tmp rfl) (RV_tmp rfl) (RV_tmp rfl) ?sb ?po
          case po =>
            refine ⟨rfl, ?_⟩
            rw [rdT_s, hx]
            simp only
            rw [if_pos hf, if_pos hk0]
            exact ⟨_, rfl, hB.kn q3⟩
          case sb => exact (by repeat (first | exact SubB.nil | exact Pick.here | apply Pick.there | apply SubB.emp | apply SubB.cons))
      · skip
        have hk0 : ¬ x.kids.length = 0 := by
          have := of_decide_eq_false hc42
          dsimp only at this
          omega
        obtain ⟨g1, g2, g3⟩ := f5 hk0
        refine V_skip ?_
        refine VQ_then ?_
        refine V_seq ?_
        refine V_region ?_
        refine VL_still rfl rfl rfl (S_assign rfl) ?_
        refine VL_still rfl rfl rfl (S_assign rfl) ?_
        refine VL_nil ?_
        refine VQ_then ?_
        refine V_seq ?_
        refine V_seq ?_
        refine V_region ?_
        refine VL_still rfl rfl rfl (S_field (k := 2) Try.underlying108 rfl rfl ti71 rfl rfl) ?_
        first | refine VL_still rfl rfl rfl (S_load Try.underlying71 rfl rfl (Cell.trk (by repeat (first | exact Has.here | apply Has.there)) rfl)) ?_ | refine VL_still rfl rfl rfl (S_load Try.underlying71 rfl rfl (Cell.known (by first | assumption | exact (by assumption : Sub _ _) _ _ (by assumption) | exact (Sub.trans (by assumption) (by assumption)) _ _ (by assumption)) rfl)) ?_
        refine VL_still rfl rfl rfl (S_len Try.underlying71 rfl) ?_
        refine VL_still rfl rfl rfl (S_move rfl) ?_
        refine VL_nil ?_
        refine VQ_then ?_
        refine V_block ?_
        refine V_loop (ι := Nat × Hp × Value × Gr × Nat × Option Nat × List Tr) (fun x' => x.kids.length - x'.1) (fun (i, hh, v, G, size, deep, ts) => i ≤ x.kids.length ∧ Sub h hh ∧ BP v (ts.flatMap (flat (deep.getD 0))) G ∧ 1 ≤ size ∧ a + size ≤ L.length ∧ (ts.flatMap (flat (deep.getD 0))).length ≤ 7 * size ∧ (deep = none → ts = []) ∧ (∀ d, deep = some d → d < size) ∧ rdK (rdT n L) L x.keys a (x.kids.drop i) i size deep ts = rdK (rdT n L) L x.keys a x.kids 0 1 none []) (fun (i, hh, v, G, size, deep, ts) => [(0, (.slice (some ⟨bN, offN, none⟩) L.length cap0)), (1, .int .i64 (a : Nat)), (8, ptr b8), (9, v), (11, .int .i64 (size : Nat)), (12, .int .i64 (dv deep)), (66, .slice A3 x.kids.length c3), (67, .int .i64 x.kids.length), (68, .int .i64 (i : Nat))]) (fun (i, hh, v, G, size, deep, ts) => hh) (fun (i, hh, v, G, size, deep, ts) => [G, [(b8, .cells (List.toArray [.slice A1 x.keys.length c1, .slice A2 x.vals.length c2, .slice A3 x.kids.length c3]) 108 (0, 0))]]) (0, h, .slice (some ⟨b38, 0, none⟩) 0 0, _, 1, none, []) ⟨Nat.zero_le _, Sub.refl _, Buf.lit (n := 0) (cs := []) rfl (by omega), Nat.le_refl _, by omega, by simp, fun _ => rfl, (fun d e => by cases e), rfl⟩ (by repeat (first | exact trivial | refine ⟨rfl, ?_⟩)) rfl (by repeat (first | exact SubB.nil | exact Pick.here | apply Pick.there | apply SubB.emp | apply SubB.cons)) (fun ⟨i, hh, v, G, size, deep, ts⟩ hi => ?_)
        obtain ⟨hi1, hs1, hB, hz1, haz, hfl, hdn, hdl, hR⟩ := hi
        simp only at hi1 hs1 hB hz1 haz hfl hdn hdl hR ⊢
        refine V_seq ?_
        refine V_region ?_
        refine VL_still rfl rfl rfl (S_lss rfl rfl) ?_
        refine VL_nil ?_
        refine VQ_then ?_
        refine V_seq ?_
        refine V_cond rfl (fun hc69 => ?_) (fun hc69 => ?_)
        · skip
          have hik : i < x.kids.length := by
            have := of_decide_eq_true hc69
            omega
          obtain ⟨bbk, offk, capk, e1, hccK⟩ := SlR.at_ icE hc rfl hik
          simp only [sv, Value.slice.injEq] at e1
          obtain ⟨rfl, _, rfl⟩ := e1
          have hccK := hccK.mono (bl' := []) hs1 (fun q hq => by simp at hq)
          refine V_skip ?_
          refine VQ_then ?_
          refine V_seq ?_
          refine V_block ?_
          refine V_seq ?_
          refine V_region ?_
          refine VL_still rfl rfl rfl (S_move rfl) ?_
          refine VL_still rfl rfl rfl (X_at i Try.underlying71 tx3 rfl rfl hik) ?_
          refine VL_still rfl rfl rfl (S_load Try.underlying3 rfl rfl hccK.1.mem) ?_
          refine VL_still rfl rfl rfl (S_assign rfl) ?_
          refine VL_still rfl rfl rfl (S_assign rfl) ?_
          refine VL_nil ?_
          refine VQ_then ?_
          refine V_seq ?_
          refine V_seq ?_
          refine V_region ?_
          refine VL_still rfl rfl rfl (S_move rfl) ?_
          refine VL_still rfl rfl rfl (S_move rfl) ?_
          refine VL_still rfl rfl rfl (S_move rfl) ?_
          first | refine VL_still rfl rfl rfl (S_addi rfl rfl (by omega) (by omega)) ?_ | refine VL_still rfl rfl rfl (S_add rfl rfl) ?_
          refine VL_still rfl rfl rfl (S_neq rfl rfl) ?_
          refine VL_nil ?_
          refine VQ_then ?_
          refine V_cond rfl (fun hc77 => ?_) (fun hc77 => ?_)
          · skip
            have hkid : ¬ x.kids[i] = ((a + size : Nat) : Int) := by
              simp only [Bool.not_eq_true', decide_eq_false_iff_not, decide_eq_true_eq] at hc77
              omega
            refine V_seq ?_
            refine V_region ?_
            refine VL_still rfl rfl rfl (S_assign rfl) ?_
            refine VL_still rfl rfl rfl (S_assign rfl) ?_
            refine VL_still rfl rfl rfl (S_assign rfl) ?_
            refine VL_still rfl rfl rfl (S_assign rfl) ?_
            refine VL_nil ?_
            refine VQ_then ?_
            refine V_ret ?_
            refine VQ_then_ret ?_
            refine VQ_block_ret ?_
            refine VQ_then_ret ?_
            refine VQ_then_ret ?_
            refine VQ_block_ret ?_
            refine VQ_then_ret ?_
            refine VQ_fin4 (nb := []) (by first | exact .inl rfl | exact .inr rfl) rfl (RV_tmp rfl) (RV_tmp rfl) (RV_tmp rfl) (RV_tmp rfl) ?sb ?po
            case po =>
              refine ⟨rfl, ?_⟩
              rw [rdK_end hx hf hk0, ← hR, rdK_drop hik, if_neg hkid]
              exact rfl
            case sb => exact (by repeat (first | exact SubB.nil | exact Pick.here | apply Pick.there | apply SubB.emp | apply SubB.cons))
          · skip
            have hkid : x.kids[i] = ((a + size : Nat) : Int) := by
              simp only [Bool.not_eq_false', decide_eq_true_eq, decide_eq_false_iff_not, Classical.not_not] at hc77
              omega
            rw [hkid]
            refine V_skip ?_
            refine VQ_then ?_
            refine V_seq ?_
            refine V_region ?_
            refine VL_still rfl rfl rfl (S_move rfl) ?_
            refine VL_still rfl rfl rfl (S_move rfl) ?_
            refine VL_eff rfl (E_call rfl rfl rfl Try.call45 (ih (a + size) hh (hL.sub hs1) (by omega) (by omega)) (by repeat (first | exact Split.nil | exact Pick.here | apply Pick.there | apply Split.cons))) ?_
            rintro _ hh81 _ ⟨v81, nb81, ⟨rfl, hP⟩, hs81, rfl, rfl⟩
            obtain ⟨m, d, A5, n5, c5, ok, rfl, hcase⟩ := hP.form
            refine VL_still rfl rfl rfl (S_move rfl) ?_
            refine VL_still rfl rfl rfl (S_extract rfl rfl) ?_
            refine VL_still rfl rfl rfl (S_extract rfl rfl) ?_
            refine VL_still rfl rfl rfl (S_extract rfl rfl) ?_
            refine VL_still rfl rfl rfl (S_extract rfl rfl) ?_
            refine VL_still rfl rfl rfl (S_assign rfl) ?_
            refine VL_still rfl rfl rfl (S_assign rfl) ?_
            refine VL_still rfl rfl rfl (S_assign rfl) ?_
            refine VL_still rfl rfl rfl (S_assign rfl) ?_
            refine VL_nil ?_
            refine VQ_then ?_
            refine V_seq ?_
            refine V_seq ?_
            refine V_region ?_
            refine VL_still rfl rfl rfl (S_move rfl) ?_
            refine VL_still rfl rfl rfl (S_not rfl) ?_
            refine VL_still rfl rfl rfl (S_move rfl) ?_
            refine VL_bool 88 rfl (fun hc88 => ?_) (fun hc88 => ?_)
            · skip
              have ho : rdT n L (a + size) = none := by
                rcases hcase with ⟨_, ho⟩ | ⟨t, e, _⟩
                · exact ho
                · rw [e] at hc88; simp at hc88
              refine VL_skip rfl rfl rfl ?_
              refine VL_skip rfl rfl rfl ?_
              refine VL_skip rfl rfl rfl ?_
              refine VL_skip rfl rfl rfl ?_
              refine VL_skip rfl rfl rfl ?_
              refine VL_skip rfl rfl rfl ?_
              refine VL_skip rfl rfl rfl ?_
              first | refine VL_still rfl rfl rfl (S_pick_t rfl rfl) ?_ | refine VL_still rfl rfl rfl (S_pick_f rfl rfl) ?_
              refine VL_nil ?_
              refine VQ_then ?_
              refine V_cond_true rfl ?_
              refine V_seq ?_
              refine V_region ?_
              refine VL_still rfl rfl rfl (S_assign rfl) ?_
              refine VL_still rfl rfl rfl (S_assign rfl) ?_
              refine VL_still rfl rfl rfl (S_assign rfl) ?_
              refine VL_still rfl rfl rfl (S_assign rfl) ?_
              refine VL_nil ?_
              refine VQ_then ?_
              refine V_ret ?_
              refine VQ_then_ret ?_
              refine VQ_block_ret ?_
              refine VQ_then_ret ?_
              refine VQ_then_ret ?_
              refine VQ_block_ret ?_
              refine VQ_then_ret ?_
              refine VQ_fin4 (nb := []) (by first | exact .inl rfl | exact .inr rfl) rfl (RV_tmp rfl) (RV_tmp rfl) (RV_tmp rfl) (RV_tmp rfl) ?sb ?po
              case po =>
                refine ⟨rfl, ?_⟩
                rw [rdK_end hx hf hk0, ← hR, rdK_drop hik, if_pos hkid, ho]
                exact rfl
              case sb => exact (by repeat (first | exact SubB.nil | exact Pick.here | apply Pick.there | apply SubB.emp | apply SubB.cons))
            · skip
              obtain ⟨t, ho, rfl, hPL⟩ : ∃ t, rdT n L (a + size) = some (m, d, t) ∧ n5 = (flat d t).length ∧ PL hh81 (.slice A5 n5 c5) (flat d t) := by
                rcases hcase with ⟨e, _⟩ | ⟨t, _, ho, e5, hPL⟩
                · rw [e] at hc88; simp at hc88
                · exact ⟨t, ho, e5, hPL⟩
              have hmle := rdT_le ho
              have hdm := rd_deep ho
              have hfm := rd_flat ho
              refine VL_still rfl rfl rfl (S_move rfl) ?_
              refine VL_still rfl rfl rfl (S_geq rfl rfl) ?_
              refine VL_still rfl rfl rfl (S_move rfl) ?_
              refine VL_bool 91 rfl (fun hc91 => ?_) (fun hc91 => ?_)
              · skip
                obtain ⟨d0, hd0⟩ : ∃ d0, deep = some d0 := by
                  cases deep with
                  | none => simp [dv] at hc91
                  | some d0 => exact ⟨d0, rfl⟩
                refine VL_still rfl rfl rfl (S_move rfl) ?_
                refine VL_still rfl rfl rfl (S_move rfl) ?_
                refine VL_still rfl rfl rfl (S_neq rfl rfl) ?_
                first | refine VL_still rfl rfl rfl (S_pick_t rfl rfl) ?_ | refine VL_still rfl rfl rfl (S_pick_f rfl rfl) ?_
                first | refine VL_still rfl rfl rfl (S_pick_t rfl rfl) ?_ | refine VL_still rfl rfl rfl (S_pick_f rfl rfl) ?_
                refine VL_nil ?_
                refine VQ_then ?_
                refine V_cond rfl (fun hc96 => ?_) (fun hc96 => ?_)
                · skip
                  have hdd : ¬ (deep = none ∨ deep = some d) := by
                    rintro (e | e)
                    · rw [hd0] at e; cases e
                    · rw [e] at hc96; simp [dv] at hc96
                  refine V_seq ?_
                  refine V_region ?_
                  refine VL_still rfl rfl rfl (S_assign rfl) ?_
                  refine VL_still rfl rfl rfl (S_assign rfl) ?_
                  refine VL_still rfl rfl rfl (S_assign rfl) ?_
                  refine VL_still rfl rfl rfl (S_assign rfl) ?_
                  refine VL_nil ?_
                  refine VQ_then ?_
                  refine V_ret ?_
                  refine VQ_then_ret ?_
                  refine VQ_block_ret ?_
                  refine VQ_then_ret ?_
                  refine VQ_then_ret ?_
                  refine VQ_block_ret ?_
                  refine VQ_then_ret ?_
                  refine VQ_fin4 (nb := []) (by first | exact .inl rfl | exact .inr rfl) rfl (RV_tmp rfl) (RV_tmp rfl) (RV_tmp rfl) (RV_tmp rfl) ?sb ?po
                  case po =>
                    refine ⟨rfl, ?_⟩
                    rw [rdK_end hx hf hk0, ← hR, rdK_drop hik, if_pos hkid, ho]
                    simp only
                    rw [if_neg hdd]
                    exact rfl
                  case sb => exact (by repeat (first | exact SubB.nil | exact Pick.here | apply Pick.there | apply SubB.emp | apply SubB.cons))
                · skip
                  have hdd : deep = none ∨ deep = some d := by
                    right
                    simp only [Bool.not_eq_false'] at hc96
                    have h9 := of_decide_eq_true hc96
                    rw [hd0] at h9 ⊢
                    have h8 : (d : Int) = d0 := h9
                    congr 1; omega
                  refine V_skip ?_
                  refine VQ_then ?_
                  refine V_seq ?_
                  refine V_seq ?_
                  refine V_region ?_
                  refine VL_still rfl rfl rfl (S_move rfl) ?_
                  refine VL_still rfl rfl rfl (S_assign rfl) ?_
                  refine VL_nil ?_
                  refine VQ_then ?_
                  refine V_block ?_
                  refine V_loop (ι := Nat) (fun j => m - j) (fun j => j ≤ m ∧ ∀ (q : Nat) (hq : a + size + q < L.length), q < j → (L[a + size + q].keys.all (inB x.keys i)) = true) (fun j => [(0, (.slice (some ⟨bN, offN, none⟩) L.length cap0)), (1, .int .i64 (a : Nat)), (8, ptr b8), (9, v), (11, .int .i64 (size : Nat)), (12, .int .i64 (dv deep)), (13, .int .i64 (i : Nat)), (14, .int .i64 ((a + size : Nat) : Int)), (15, .int .i64 (m : Nat)), (16, .int .i64 (d : Nat)), (17, .slice A5 (flat d t).length c5), (19, .int .i64 ((a + size + j : Nat) : Int)), (66, .slice (some ⟨bbk, offk, none⟩) x.kids.length c3), (67, .int .i64 x.kids.length), (68, .int .i64 (i : Nat))]) (fun _ => hh81) (fun _ => [G, [(b8, .cells (List.toArray [.slice A1 x.keys.length c1, .slice A2 x.vals.length c2, .slice (some ⟨bbk, offk, none⟩) x.kids.length c3]) 108 (0, 0))]]) 0 ⟨Nat.zero_le _, fun q hq h => absurd h (by omega)⟩ (by repeat (first | exact trivial | refine ⟨rfl, ?_⟩)) rfl (by repeat (first | exact SubB.nil | exact Pick.here | apply Pick.there | apply SubB.emp | apply SubB.cons)) (fun j hj => ?_)
                  obtain ⟨hj1, hj2⟩ := hj
                  refine V_seq ?_
                  refine V_seq ?_
                  refine V_region ?_
                  refine VL_still rfl rfl rfl (S_move rfl) ?_
                  refine VL_still rfl rfl rfl (S_move rfl) ?_
                  refine VL_still rfl rfl rfl (S_move rfl) ?_
                  first | refine VL_still rfl rfl rfl (S_addi rfl rfl (by omega) (by omega)) ?_ | refine VL_still rfl rfl rfl (S_add rfl rfl) ?_
                  refine VL_still rfl rfl rfl (S_lss rfl rfl) ?_
                  refine VL_nil ?_
                  refine VQ_then ?_
                  refine V_cond rfl (fun hc102 => ?_) (fun hc102 => ?_)
                  · skip
                    have hjm : j < m := by
                      have := of_decide_eq_true hc102
                      omega
                    have hjL : a + size + j < L.length := by omega
                    have hsm := rd_small_at ho hjm hjL
                    refine V_skip ?_
                    refine VQ_then ?_
                    refine V_seq ?_
                    refine V_block ?_
                    refine V_seq ?_
                    refine V_region ?_
                    refine VL_still rfl rfl rfl (S_move rfl) ?_
                    refine VL_still rfl rfl rfl (S_move rfl) ?_
                    refine VL_still rfl rfl rfl (S_move rfl) ?_
                    refine VL_still rfl rfl rfl (S_field (k := 0) Try.underlying108 rfl rfl ti88 rfl rfl) ?_
                    first | refine VL_still rfl rfl rfl (S_load Try.underlying88 rfl rfl (Cell.trk (by repeat (first | exact Has.here | apply Has.there)) rfl)) ?_ | refine VL_still rfl rfl rfl (S_load Try.underlying88 rfl rfl (Cell.known (by first | assumption | exact (by assumption : Sub _ _) _ _ (by assumption) | exact (Sub.trans (by assumption) (by assumption)) _ _ (by assumption)) rfl)) ?_
                    refine VL_eff rfl (E_call rfl rfl rfl Try.call69 (inside_con (.slice (some ⟨bN, offN, none⟩) L.length cap0) (.slice A1 x.keys.length c1) L (a + size + j) i x.keys hh81 (hL.sub (hs1.trans hs81)) hjL (hk.sub (hs1.trans hs81)) (by omega) (by omega) (by omega)) (by repeat (first | exact Split.nil | exact Pick.here | apply Pick.there | apply Split.cons))) ?_
                    rintro _ hh110 _ ⟨v110, nb110, ⟨rfl, rfl, rfl⟩, hs110, rfl, rfl⟩
                    refine VL_still rfl rfl rfl (S_not rfl) ?_
                    refine VL_nil ?_
                    refine VQ_then ?_
                    refine V_cond rfl (fun hc111 => ?_) (fun hc111 => ?_)
                    · skip
                      have hno : (L[a + size + j].keys.all (inB x.keys i)) = false := by simpa using hc111
                      have hseg := segIn_no hjL hjm hno
                      refine V_seq ?_
                      refine V_region ?_
                      refine VL_still rfl rfl rfl (S_assign rfl) ?_
                      refine VL_still rfl rfl rfl (S_assign rfl) ?_
                      refine VL_still rfl rfl rfl (S_assign rfl) ?_
                      refine VL_still rfl rfl rfl (S_assign rfl) ?_
                      refine VL_nil ?_
                      refine VQ_then ?_
                      refine V_ret ?_
                      refine VQ_block_ret ?_
                      refine VQ_then_ret ?_
                      refine VQ_then_ret ?_
                      refine VQ_block_ret ?_
                      refine VQ_then_ret ?_
                      refine VQ_block_ret ?_
                      refine VQ_then_ret ?_
                      refine VQ_then_ret ?_
                      refine VQ_block_ret ?_
                      refine VQ_then_ret ?_
                      refine VQ_fin4 (nb := []) (by first | exact .inl rfl | exact .inr rfl) rfl (RV_tmp rfl) (RV_tmp rfl) (RV_tmp rfl) (RV_tmp rfl) ?sb ?po
                      case po =>
                        refine ⟨rfl, ?_⟩
                        rw [rdK_end hx hf hk0, ← hR, rdK_drop hik, if_pos hkid, ho]
                        simp only
                        rw [if_pos hdd, hseg]
                        exact rfl
                      case sb => exact (by repeat (first | exact SubB.nil | exact Pick.here | apply Pick.there | apply SubB.emp | apply SubB.cons))
                    · skip
                      have hyes : (L[a + size + j].keys.all (inB x.keys i)) = true := by simpa using hc111
                      refine V_skip ?_
                      refine VQ_block_normal ?_
                      refine VQ_then ?_
                      refine V_region ?_
                      refine VL_still rfl rfl rfl (S_move rfl) ?_
                      first | refine VL_still rfl rfl rfl (S_addi rfl rfl (by omega) (by omega)) ?_ | refine VL_still rfl rfl rfl (S_add rfl rfl) ?_
                      refine VL_still rfl rfl rfl (S_assign rfl) ?_
                      refine VL_nil ?_
                      refine VQ_mid (j + 1) ⟨⟨by omega, fun q hq hq' => ?_⟩, by omega⟩ (by repeat (first | exact trivial | refine ⟨rfl, ?_⟩)) rfl (by repeat (first | exact SubB.nil | exact Pick.here | apply Pick.there | apply SubB.emp | apply SubB.cons))
                      rcases Nat.lt_or_ge q j with h1 | h1
                      · exact hj2 q hq h1
                      · obtain rfl : q = j := by omega
                        exact hyes
                  · skip
                    have hjm : j = m := by
                      have := of_decide_eq_false hc102
                      omega
                    subst hjm
                    have hseg := segIn_all hj2
                    have hfe : ts.flatMap (flat (deep.getD 0)) = ts.flatMap (flat d) := by
                      rcases hdd with e | e
                      · rw [hdn e]; rfl
                      · rw [e]; rfl
                    rw [hfe] at hB hfl
                    refine V_exit ?_
                    refine VQ_then_exit ?_
                    refine VQ_then_exit ?_
                    refine VQ_block_exit ?_
                    refine VQ_then ?_
                    refine V_seq ?_
                    refine V_region ?_
                    refine VL_still rfl rfl rfl (S_move rfl) ?_
                    refine VL_still rfl rfl rfl (S_assign rfl) ?_
                    refine VL_nil ?_
                    refine VQ_then ?_
                    refine V_seq ?_
                    refine V_region ?_
                    refine VL_still rfl rfl rfl (S_move rfl) ?_
                    refine VL_still rfl rfl rfl (S_move rfl) ?_
                    first | refine VL_still rfl rfl rfl (S_addi rfl rfl (by omega) (by omega)) ?_ | refine VL_still rfl rfl rfl (S_add rfl rfl) ?_
                    refine VL_still rfl rfl rfl (S_assign rfl) ?_
                    refine VL_nil ?_
                    refine VQ_then ?_
                    refine V_region ?_
                    refine VL_still rfl rfl rfl (S_move rfl) ?_
                    refine VL_still rfl rfl rfl (S_move rfl) ?_
                    refine VL_eff rfl (X_append rfl Try.underlying26 Try.underlying26 rfl tx47 rfl rfl rfl rfl hB (by repeat (first | exact Pick.here | apply Pick.there)) (SlR.mono hPL (Sub.refl _) (fun q hq => by simp at hq)) (prE.flat_one _) (by omega)) ?_
                    rintro _ _ _ ⟨v118, G118, hB118, rfl, rfl, rfl⟩
                    replace hB118 := Buf.cat (enc := pr) hB118
                    refine VL_still rfl rfl rfl (S_assign rfl) ?_
                    refine VL_nil ?_
                    refine VQ_block_normal ?_
                    refine VQ_then ?_
                    refine V_region ?_
                    first | refine VL_still rfl rfl rfl (S_addi rfl rfl (by omega) (by omega)) ?_ | refine VL_still rfl rfl rfl (S_add rfl rfl) ?_
                    refine VL_still rfl rfl rfl (S_move rfl) ?_
                    refine VL_nil ?_
                    refine VQ_mid (i + 1, hh81, v118, G118, size + j, some d, ts ++ [t]) ⟨⟨by dsimp only; omega, hs1.trans hs81, ?_, by dsimp only; omega, by dsimp only; omega, ?_, (fun e => by cases e), (fun d' e => by cases e; dsimp only; omega), ?_⟩, by simp only; omega⟩ (by repeat (first | exact trivial | refine ⟨rfl, ?_⟩)) rfl (by repeat (first | exact SubB.nil | exact Pick.here | apply Pick.there | apply SubB.emp | apply SubB.cons))
                    · simp only [Option.getD_some, List.flatMap_append, List.flatMap_cons, List.flatMap_nil, List.append_nil]; exact hB118
                    · simp only [Option.getD_some, List.flatMap_append, List.flatMap_cons, List.flatMap_nil, List.append_nil, List.length_append]; omega
                    · rw [← hR, rdK_drop hik, if_pos hkid, ho]; simp only; rw [if_pos hdd, if_pos hseg]
              · skip
                have hd0 : deep = none := by
                  cases deep with
                  | none => rfl
                  | some d0 => have := of_decide_eq_false hc91; simp [dv] at this
                have hdd : deep = none ∨ deep = some d := .inl hd0
                refine VL_skip rfl rfl rfl ?_
                refine VL_skip rfl rfl rfl ?_
                refine VL_skip rfl rfl rfl ?_
                first | refine VL_still rfl rfl rfl (S_pick_t rfl rfl) ?_ | refine VL_still rfl rfl rfl (S_pick_f rfl rfl) ?_
                first | refine VL_still rfl rfl rfl (S_pick_t rfl rfl) ?_ | refine VL_still rfl rfl rfl (S_pick_f rfl rfl) ?_
                refine VL_nil ?_
                refine VQ_then ?_
                refine V_cond_false rfl ?_
                refine V_skip ?_
                refine VQ_then ?_
                refine V_seq ?_
                refine V_seq ?_
                refine V_region ?_
                refine VL_still rfl rfl rfl (S_move rfl) ?_
                refine VL_still rfl rfl rfl (S_assign rfl) ?_
                refine VL_nil ?_
                refine VQ_then ?_
                refine V_block ?_
                refine V_loop (ι := Nat) (fun j => m - j) (fun j => j ≤ m ∧ ∀ (q : Nat) (hq : a + size + q < L.length), q < j → (L[a + size + q].keys.all (inB x.keys i)) = true) (fun j => [(0, (.slice (some ⟨bN, offN, none⟩) L.length cap0)), (1, .int .i64 (a : Nat)), (8, ptr b8), (9, v), (11, .int .i64 (size : Nat)), (12, .int .i64 (dv deep)), (13, .int .i64 (i : Nat)), (14, .int .i64 ((a + size : Nat) : Int)), (15, .int .i64 (m : Nat)), (16, .int .i64 (d : Nat)), (17, .slice A5 (flat d t).length c5), (19, .int .i64 ((a + size + j : Nat) : Int)), (66, .slice (some ⟨bbk, offk, none⟩) x.kids.length c3), (67, .int .i64 x.kids.length), (68, .int .i64 (i : Nat))]) (fun _ => hh81) (fun _ => [G, [(b8, .cells (List.toArray [.slice A1 x.keys.length c1, .slice A2 x.vals.length c2, .slice (some ⟨bbk, offk, none⟩) x.kids.length c3]) 108 (0, 0))]]) 0 ⟨Nat.zero_le _, fun q hq h => absurd h (by omega)⟩ (by repeat (first | exact trivial | refine ⟨rfl, ?_⟩)) rfl (by repeat (first | exact SubB.nil | exact Pick.here | apply Pick.there | apply SubB.emp | apply SubB.cons)) (fun j hj => ?_)
                obtain ⟨hj1, hj2⟩ := hj
                refine V_seq ?_
                refine V_seq ?_
                refine V_region ?_
                refine VL_still rfl rfl rfl (S_move rfl) ?_
                refine VL_still rfl rfl rfl (S_move rfl) ?_
                refine VL_still rfl rfl rfl (S_move rfl) ?_
                first | refine VL_still rfl rfl rfl (S_addi rfl rfl (by omega) (by omega)) ?_ | refine VL_still rfl rfl rfl (S_add rfl rfl) ?_
                refine VL_still rfl rfl rfl (S_lss rfl rfl) ?_
                refine VL_nil ?_
                refine VQ_then ?_
                refine V_cond rfl (fun hc102 => ?_) (fun hc102 => ?_)
                · skip
                  have hjm : j < m := by
                    have := of_decide_eq_true hc102
                    omega
                  have hjL : a + size + j < L.length := by omega
                  have hsm := rd_small_at ho hjm hjL
                  refine V_skip ?_
                  refine VQ_then ?_
                  refine V_seq ?_
                  refine V_block ?_
                  refine V_seq ?_
                  refine V_region ?_
                  refine VL_still rfl rfl rfl (S_move rfl) ?_
                  refine VL_still rfl rfl rfl (S_move rfl) ?_
                  refine VL_still rfl rfl rfl (S_move rfl) ?_
                  refine VL_still rfl rfl rfl (S_field (k := 0) Try.underlying108 rfl rfl ti88 rfl rfl) ?_
                  first | refine VL_still rfl rfl rfl (S_load Try.underlying88 rfl rfl (Cell.trk (by repeat (first | exact Has.here | apply Has.there)) rfl)) ?_ | refine VL_still rfl rfl rfl (S_load Try.underlying88 rfl rfl (Cell.known (by first | assumption | exact (by assumption : Sub _ _) _ _ (by assumption) | exact (Sub.trans (by assumption) (by assumption)) _ _ (by assumption)) rfl)) ?_
                  refine VL_eff rfl (E_call rfl rfl rfl Try.call69 (inside_con (.slice (some ⟨bN, offN, none⟩) L.length cap0) (.slice A1 x.keys.length c1) L (a + size + j) i x.keys hh81 (hL.sub (hs1.trans hs81)) hjL (hk.sub (hs1.trans hs81)) (by omega) (by omega) (by omega)) (by repeat (first | exact Split.nil | exact Pick.here | apply Pick.there | apply Split.cons))) ?_
                  rintro _ hh110 _ ⟨v110, nb110, ⟨rfl, rfl, rfl⟩, hs110, rfl, rfl⟩
                  refine VL_still rfl rfl rfl (S_not rfl) ?_
                  refine VL_nil ?_
                  refine VQ_then ?_
                  refine V_cond rfl (fun hc111 => ?_) (fun hc111 => ?_)
                  · skip
                    have hno : (L[a + size + j].keys.all (inB x.keys i)) = false := by simpa using hc111
                    have hseg := segIn_no hjL hjm hno
                    refine V_seq ?_
                    refine V_region ?_
                    refine VL_still rfl rfl rfl (S_assign rfl) ?_
                    refine VL_still rfl rfl rfl (S_assign rfl) ?_
                    refine VL_still rfl rfl rfl (S_assign rfl) ?_
                    refine VL_still rfl rfl rfl (S_assign rfl) ?_
                    refine VL_nil ?_
                    refine VQ_then ?_
                    refine V_ret ?_
                    refine VQ_block_ret ?_
                    refine VQ_then_ret ?_
                    refine VQ_then_ret ?_
                    refine VQ_block_ret ?_
                    refine VQ_then_ret ?_
                    refine VQ_block_ret ?_
                    refine VQ_then_ret ?_
                    refine VQ_then_ret ?_
                    refine VQ_block_ret ?_
                    refine VQ_then_ret ?_
                    refine VQ_fin4 (nb := []) (by first | exact .inl rfl | exact .inr rfl) rfl (RV_tmp rfl) (RV_tmp rfl) (RV_tmp rfl) (RV_tmp rfl) ?sb ?po
                    case po =>
                      refine ⟨rfl, ?_⟩
                      rw [rdK_end hx hf hk0, ← hR, rdK_drop hik, if_pos hkid, ho]
                      simp only
                      rw [if_pos hdd, hseg]
                      exact rfl
                    case sb => exact (by repeat (first | exact SubB.nil | exact Pick.here | apply Pick.there | apply SubB.emp | apply SubB.cons))
                  · skip
                    have hyes : (L[a + size + j].keys.all (inB x.keys i)) = true := by simpa using hc111
                    refine V_skip ?_
                    refine VQ_block_normal ?_
                    refine VQ_then ?_
                    refine V_region ?_
                    refine VL_still rfl rfl rfl (S_move rfl) ?_
                    first | refine VL_still rfl rfl rfl (S_addi rfl rfl (by omega) (by omega)) ?_ | refine VL_still rfl rfl rfl (S_add rfl rfl) ?_
                    refine VL_still rfl rfl rfl (S_assign rfl) ?_
                    refine VL_nil ?_
                    refine VQ_mid (j + 1) ⟨⟨by omega, fun q hq hq' => ?_⟩, by omega⟩ (by repeat (first | exact trivial | refine ⟨rfl, ?_⟩)) rfl (by repeat (first | exact SubB.nil | exact Pick.here | apply Pick.there | apply SubB.emp | apply SubB.cons))
                    rcases Nat.lt_or_ge q j with h1 | h1
                    · exact hj2 q hq h1
                    · obtain rfl : q = j := by omega
                      exact hyes
                · skip
                  have hjm : j = m := by
                    have := of_decide_eq_false hc102
                    omega
                  subst hjm
                  have hseg := segIn_all hj2
                  have hfe : ts.flatMap (flat (deep.getD 0)) = ts.flatMap (flat d) := by
                    rcases hdd with e | e
                    · rw [hdn e]; rfl
                    · rw [e]; rfl
                  rw [hfe] at hB hfl
                  refine V_exit ?_
                  refine VQ_then_exit ?_
                  refine VQ_then_exit ?_
                  refine VQ_block_exit ?_
                  refine VQ_then ?_
                  refine V_seq ?_
                  refine V_region ?_
                  refine VL_still rfl rfl rfl (S_move rfl) ?_
                  refine VL_still rfl rfl rfl (S_assign rfl) ?_
                  refine VL_nil ?_
                  refine VQ_then ?_
                  refine V_seq ?_
                  refine V_region ?_
                  refine VL_still rfl rfl rfl (S_move rfl) ?_
                  refine VL_still rfl rfl rfl (S_move rfl) ?_
                  first | refine VL_still rfl rfl rfl (S_addi rfl rfl (by omega) (by omega)) ?_ | refine VL_still rfl rfl rfl (S_add rfl rfl) ?_
                  refine VL_still rfl rfl rfl (S_assign rfl) ?_
                  refine VL_nil ?_
                  refine VQ_then ?_
                  refine V_region ?_
                  refine VL_still rfl rfl rfl (S_move rfl) ?_
                  refine VL_still rfl rfl rfl (S_move rfl) ?_
                  refine VL_eff rfl (X_append rfl Try.underlying26 Try.underlying26 rfl tx47 rfl rfl rfl rfl hB (by repeat (first | exact Pick.here | apply Pick.there)) (SlR.mono hPL (Sub.refl _) (fun q hq => by simp at hq)) (prE.flat_one _) (by omega)) ?_
                  rintro _ _ _ ⟨v118, G118, hB118, rfl, rfl, rfl⟩
                  replace hB118 := Buf.cat (enc := pr) hB118
                  refine VL_still rfl rfl rfl (S_assign rfl) ?_
                  refine VL_nil ?_
                  refine VQ_block_normal ?_
                  refine VQ_then ?_
                  refine V_region ?_
                  first | refine VL_still rfl rfl rfl (S_addi rfl rfl (by omega) (by omega)) ?_ | refine VL_still rfl rfl rfl (S_add rfl rfl) ?_
                  refine VL_still rfl rfl rfl (S_move rfl) ?_
                  refine VL_nil ?_
                  refine VQ_mid (i + 1, hh81, v118, G118, size + j, some d, ts ++ [t]) ⟨⟨by dsimp only; omega, hs1.trans hs81, ?_, by dsimp only; omega, by dsimp only; omega, ?_, (fun e => by cases e), (fun d' e => by cases e; dsimp only; omega), ?_⟩, by simp only; omega⟩ (by repeat (first | exact trivial | refine ⟨rfl, ?_⟩)) rfl (by repeat (first | exact SubB.nil | exact Pick.here | apply Pick.there | apply SubB.emp | apply SubB.cons))
                  · simp only [Option.getD_some, List.flatMap_append, List.flatMap_cons, List.flatMap_nil, List.append_nil]; exact hB118
                  · simp only [Option.getD_some, List.flatMap_append, List.flatMap_cons, List.flatMap_nil, List.append_nil, List.length_append]; omega
                  · rw [← hR, rdK_drop hik, if_pos hkid, ho]; simp only; rw [if_pos hdd, if_pos hseg]
        · skip
          have hge : i = x.kids.length := by
            have := of_decide_eq_false hc69
            omega
          subst hge
          rw [List.drop_of_length_le (Nat.le_refl _)] at hR
          obtain ⟨d, rfl⟩ := rdK_deep hR.symm (by intro e; rw [e] at hk0; exact hk0 rfl)
          rw [show dv (some d) = (d : Int) from rfl]
          have hdz := hdl d rfl
          refine V_exit ?_
          refine VQ_then_exit ?_
          refine VQ_then_exit ?_
          refine VQ_block_exit ?_
          refine VQ_then ?_
          refine V_seq ?_
          refine V_region ?_
          refine VL_still rfl rfl rfl (S_move rfl) ?_
          refine VL_still rfl rfl rfl (S_move rfl) ?_
          first | refine VL_still rfl rfl rfl (S_addi rfl rfl (by omega) (by omega)) ?_ | refine VL_still rfl rfl rfl (S_add rfl rfl) ?_
          refine VL_still rfl rfl rfl (S_move rfl) ?_
          refine VL_still rfl rfl rfl (S_assign rfl) ?_
          refine VL_still rfl rfl rfl (S_assign rfl) ?_
          refine VL_still rfl rfl rfl (S_assign rfl) ?_
          refine VL_still rfl rfl rfl (S_assign rfl) ?_
          refine VL_nil ?_
          refine VQ_then ?_
          refine V_ret ?_
          refine VQ_keeps (blA := [G]) (by repeat (first | exact Split.nil | exact Pick.here | apply Pick.there | apply Split.cons)) (fun h2 sh2 kh2 => ?_)
          obtain ⟨q3, _⟩ := kh2
          refine VQ_fin4 (nb := []) (by first | exact .inl rfl | exact .inr rfl) rfl (RV_tmp rfl) (RV_tmp rfl) (RV_tmp rfl) (RV_tmp rfl) ?sb ?po
          case po =>
            refine ⟨rfl, ?_⟩
            rw [rdK_end hx hf hk0, ← hR]
            exact ⟨_, rfl, hB.kn q3⟩
          case sb => exact (by repeat (first | exact SubB.nil | exact Pick.here | apply Pick.there | apply SubB.emp | apply SubB.cons))

set_option maxRecDepth 100000 in
theorem read_out (v : Value) (L : List Nd) (a : Nat) (h : Hp) (hL : NL h v L) (nL : L.length ≤ 10000) (na : a ≤ 20000) (nf : L.length ≤ a) : Con Try.prog 45 [v, .int .i64 (a : Nat)] h [] (fun r h' nb => nb = [] ∧ RdP h' r none) := by
  obtain ⟨A0, cap0, rfl, hle0, hmx0⟩ := hL.form
  refine Con_of Try.func45 rfl Try.ntmps45 (Nat.le_of_ble_eq_true rfl) (fun w0 => ?_)
  refine V_seq ?_
  refine V_region ?_
  refine VL_still rfl rfl rfl (S_assign rfl) ?_
  refine VL_still rfl rfl rfl (S_assign rfl) ?_
  refine VL_still rfl rfl rfl (S_assign rfl) ?_
  refine VL_still rfl rfl rfl (S_assign rfl) ?_
  refine VL_nil ?_
  refine VQ_then ?_
  refine V_seq ?_
  refine V_seq ?_
  refine V_region ?_
  refine VL_still rfl rfl rfl (S_move rfl) ?_
  refine VL_still rfl rfl rfl (S_move rfl) ?_
  refine VL_still rfl rfl rfl (S_len Try.underlying41 rfl) ?_
  refine VL_still rfl rfl rfl (S_geq rfl rfl) ?_
  refine VL_still rfl rfl rfl (S_move rfl) ?_
  refine VL_bool 24 rfl (fun hc24 => ?_) (fun hc24 => ?_)
  · skip
    refine VL_skip rfl rfl rfl ?_
    refine VL_skip rfl rfl rfl ?_
    refine VL_skip rfl rfl rfl ?_
    refine VL_skip rfl rfl rfl ?_
    refine VL_skip rfl rfl rfl ?_
    refine VL_skip rfl rfl rfl ?_
    refine VL_skip rfl rfl rfl ?_
    refine VL_skip rfl rfl rfl ?_
    first | refine VL_still rfl rfl rfl (S_pick_t rfl rfl) ?_ | refine VL_still rfl rfl rfl (S_pick_f rfl rfl) ?_
    refine VL_nil ?_
    refine VQ_then ?_
    refine V_cond_true rfl ?_
    refine V_seq ?_
    refine V_region ?_
    refine VL_still rfl rfl rfl (S_assign rfl) ?_
    refine VL_still rfl rfl rfl (S_assign rfl) ?_
    refine VL_still rfl rfl rfl (S_assign rfl) ?_
    refine VL_still rfl rfl rfl (S_assign rfl) ?_
    refine VL_nil ?_
    refine VQ_then ?_
    refine V_ret ?_
    refine VQ_then_ret ?_
    refine VQ_fin4 (nb := []) (by first | exact .inl rfl | exact .inr rfl) rfl (RV_tmp rfl) (RV_tmp rfl) (RV_tmp rfl) (RV_tmp rfl) ?sb ?po
    case po =>
      exact ⟨rfl, rfl⟩
    case sb => exact (by repeat (first | exact SubB.nil | exact Pick.here | apply Pick.there | apply SubB.emp | apply SubB.cons))
  · skip
    have := of_decide_eq_false hc24
    exact absurd nf (by omega)

theorem read_con : ∀ (n : Nat) (v : Value) (L : List Nd) (a : Nat) (h : Hp), NL h v L → L.length ≤ 10000 → a ≤ 20000 → L.length ≤ n + a →
    Con Try.prog 45 [v, .int .i64 (a : Nat)] h [] (fun r h' nb => nb = [] ∧ RdP h' r (rdT n L a))
  | 0, v, L, a, h, hL, nL, na, nf => read_out v L a h hL nL na (by omega)
  | n + 1, v, L, a, h, hL, nL, na, nf => read_step n v L a h hL nL na nf (fun a h hL na nf => read_con n v L a h hL nL na nf)
/-- What the reference's Read hands back. -/
def RdO (h : Hp) (r : Value) (L : List Nd) : Prop :=
  (∃ d t v, rdT (L.length + 1) L 0 = some (L.length, d, t) ∧ r = .tuple #[v, .bool true] ∧ PL h v (flat d t)) ∨ ((∀ d t, rdT (L.length + 1) L 0 ≠ some (L.length, d, t)) ∧ r = .tuple #[.slice none 0 0, .bool false])

set_option maxRecDepth 100000 in
theorem rread_con (v : Value) (L : List Nd) (h : Hp) (hL : NL h v L) (nL : L.length ≤ 10000) : Con Try.prog 22 [v] h [] (fun r h' nb => nb = [] ∧ RdO h' r L) := by
  obtain ⟨A0, cap0, rfl, hle0, hmx0⟩ := hL.form
  refine Con_of Try.func22 rfl Try.ntmps22 (Nat.le_of_ble_eq_true rfl) (fun w0 => ?_)
  refine V_seq ?_
  refine V_region ?_
  refine VL_still rfl rfl rfl (S_assign rfl) ?_
  refine VL_still rfl rfl rfl (S_assign rfl) ?_
  refine VL_nil ?_
  refine VQ_then ?_
  refine V_seq ?_
  refine V_region ?_
  refine VL_still rfl rfl rfl (S_move rfl) ?_
  refine VL_eff rfl (E_call rfl rfl rfl Try.call45 (read_con (L.length + 1) _ L 0 h hL nL (by omega) (by omega)) (by repeat (first | exact Split.nil | exact Pick.here | apply Pick.there | apply Split.cons))) ?_
  rintro _ hh10 _ ⟨v10, nb10, ⟨rfl, hP⟩, hs10, rfl, rfl⟩
  obtain ⟨m, d, A5, n5, c5, ok, rfl, hcase⟩ := hP.form
  refine VL_still rfl rfl rfl (S_move rfl) ?_
  refine VL_still rfl rfl rfl (S_extract rfl rfl) ?_
  refine VL_still rfl rfl rfl (S_extract rfl rfl) ?_
  refine VL_still rfl rfl rfl (S_extract rfl rfl) ?_
  refine VL_still rfl rfl rfl (S_extract rfl rfl) ?_
  refine VL_still rfl rfl rfl (S_assign rfl) ?_
  refine VL_still rfl rfl rfl (S_assign rfl) ?_
  refine VL_still rfl rfl rfl (S_assign rfl) ?_
  refine VL_still rfl rfl rfl (S_assign rfl) ?_
  refine VL_nil ?_
  refine VQ_then ?_
  refine V_seq ?_
  refine V_seq ?_
  refine V_region ?_
  refine VL_still rfl rfl rfl (S_move rfl) ?_
  refine VL_still rfl rfl rfl (S_not rfl) ?_
  refine VL_still rfl rfl rfl (S_move rfl) ?_
  refine VL_bool 17 rfl (fun hc17 => ?_) (fun hc17 => ?_)
  · skip
    have ho : rdT (L.length + 1) L 0 = none := by
      rcases hcase with ⟨_, ho⟩ | ⟨t, e, _⟩
      · exact ho
      · rw [e] at hc17; simp at hc17
    refine VL_skip rfl rfl rfl ?_
    refine VL_skip rfl rfl rfl ?_
    refine VL_skip rfl rfl rfl ?_
    refine VL_skip rfl rfl rfl ?_
    first | refine VL_still rfl rfl rfl (S_pick_t rfl rfl) ?_ | refine VL_still rfl rfl rfl (S_pick_f rfl rfl) ?_
    refine VL_nil ?_
    refine VQ_then ?_
    refine V_cond_true rfl ?_
    refine V_seq ?_
    refine V_region ?_
    refine VL_still rfl rfl rfl (S_assign rfl) ?_
    refine VL_still rfl rfl rfl (S_assign rfl) ?_
    refine VL_nil ?_
    refine VQ_then ?_
    refine V_ret ?_
    refine VQ_then_ret ?_
    refine VQ_fin2 (nb := []) (by first | exact .inl rfl | exact .inr rfl) rfl (RV_tmp rfl) (RV_tmp rfl) ?sb ?po
    case po =>
      exact ⟨rfl, .inr ⟨(fun d t e => by rw [ho] at e; cases e), rfl⟩⟩
    case sb => exact (by repeat (first | exact SubB.nil | exact Pick.here | apply Pick.there | apply SubB.emp | apply SubB.cons))
  · skip
    obtain ⟨t, ho, rfl, hPL⟩ : ∃ t, rdT (L.length + 1) L 0 = some (m, d, t) ∧ n5 = (flat d t).length ∧ PL hh10 (.slice A5 n5 c5) (flat d t) := by
      rcases hcase with ⟨e, _⟩ | ⟨t, _, ho, e5, hPL⟩
      · rw [e] at hc17; simp at hc17
      · exact ⟨t, ho, e5, hPL⟩
    refine VL_still rfl rfl rfl (S_move rfl) ?_
    refine VL_still rfl rfl rfl (S_move rfl) ?_
    refine VL_still rfl rfl rfl (S_len Try.underlying41 rfl) ?_
    refine VL_still rfl rfl rfl (S_neq rfl rfl) ?_
    first | refine VL_still rfl rfl rfl (S_pick_t rfl rfl) ?_ | refine VL_still rfl rfl rfl (S_pick_f rfl rfl) ?_
    refine VL_nil ?_
    refine VQ_then ?_
    refine V_cond rfl (fun hc22 => ?_) (fun hc22 => ?_)
    · skip
      have hne : ¬ m = L.length := by
        simp only [Bool.not_eq_true', decide_eq_false_iff_not] at hc22
        omega
      refine V_seq ?_
      refine V_region ?_
      refine VL_still rfl rfl rfl (S_assign rfl) ?_
      refine VL_still rfl rfl rfl (S_assign rfl) ?_
      refine VL_nil ?_
      refine VQ_then ?_
      refine V_ret ?_
      refine VQ_then_ret ?_
      refine VQ_fin2 (nb := []) (by first | exact .inl rfl | exact .inr rfl) rfl (RV_tmp rfl) (RV_tmp rfl) ?sb ?po
      case po =>
        exact ⟨rfl, .inr ⟨(fun d t e => by rw [ho] at e; cases e; exact hne rfl), rfl⟩⟩
      case sb => exact (by repeat (first | exact SubB.nil | exact Pick.here | apply Pick.there | apply SubB.emp | apply SubB.cons))
    · skip
      have hme : m = L.length := by
        simp only [Bool.not_eq_false', decide_eq_true_eq] at hc22
        omega
      refine V_skip ?_
      refine VQ_then ?_
      refine V_seq ?_
      refine V_region ?_
      refine VL_still rfl rfl rfl (S_move rfl) ?_
      refine VL_still rfl rfl rfl (S_assign rfl) ?_
      refine VL_still rfl rfl rfl (S_assign rfl) ?_
      refine VL_nil ?_
      refine VQ_then ?_
      refine V_ret ?_
      refine VQ_fin2 (nb := []) (by first | exact .inl rfl | exact .inr rfl) rfl (RV_tmp rfl) (RV_tmp rfl) ?sb ?po
      case po =>
        exact ⟨rfl, .inl ⟨d, t, _, by rw [ho, hme], rfl, hPL⟩⟩
      case sb => exact (by repeat (first | exact SubB.nil | exact Pick.here | apply Pick.there | apply SubB.emp | apply SubB.cons))

end Go.Proofs.Ytdglignjoojimaa

/- The reader of nodes: what lies outside of bounds. No conditions. -/
set_option linter.unusedVariables false
set_option linter.unusedSimpArgs false
namespace Go.Proofs.Ytdglignjoojimaa

/-- Bounds as a value. -/
abbrev bdv (l u : Int) (bl bu : Bool) : Value := .agg (List.toArray [.int .u64 l, .int .u64 u, .bool bl, .bool bu])
def outB (l u : Int) (bl bu : Bool) (k : Int) : Bool := (bl && decide (k < l)) || (bu && decide (u ≤ k))
def loB (l : Int) (bl : Bool) : Int := if bl then l else 0
def hiB (u : Int) (bu : Bool) : Int := if bu then u else top
theorem out_eq {l u k : Int} {bl bu : Bool} (h0 : 0 ≤ k) (h1 : k < top) : outB l u bl bu k = (decide (k < loB l bl) || decide (hiB u bu ≤ k)) := by
  unfold outB loB hiB
  cases bl <;> cases bu <;> simp <;> omega
theorem any_eq {l u : Int} {bl bu : Bool} {ks : List Int} (h : ∀ k ∈ ks, 0 ≤ k ∧ k < top) : ks.any (outB l u bl bu) = ks.any (fun k => decide (k < loB l bl) || decide (hiB u bu ≤ k)) := by
  induction ks with
  | nil => rfl
  | cons k ks ih =>
    rw [List.any_cons, List.any_cons, out_eq (h k (by simp)).1 (h k (by simp)).2, ih (fun x hx => h x (List.mem_cons_of_mem _ hx))]

set_option maxRecDepth 100000 in
theorem out_con (l u k : Int) (bl bu : Bool) (h : Hp) : Con Try.prog 72 [bdv l u bl bu, .int .u64 k] h [] (fun r h' nb => r = .bool (outB l u bl bu k) ∧ h = h' ∧ nb = []) := by
  refine Con_of Try.func72 rfl Try.ntmps72 (Nat.le_of_ble_eq_true rfl) (fun w0 => ?_)
  refine V_seq ?_
  refine V_region ?_
  refine VL_eff rfl (E_box rfl rfl rfl) ?_
  rintro _ _ _ ⟨b2, hb2, rfl, rfl, rfl⟩
  refine VL_still rfl rfl rfl (S_assign rfl) ?_
  refine VL_nil ?_
  refine VQ_then ?_
  refine V_seq ?_
  refine V_region ?_
  refine VL_still rfl rfl rfl (S_field (k := 2) Try.underlying106 rfl rfl ti4 rfl rfl) ?_
  first | refine VL_still rfl rfl rfl (S_load Try.underlying4 rfl rfl (Cell.trk (by repeat (first | exact Has.here | apply Has.there)) rfl)) ?_ | refine VL_still rfl rfl rfl (S_load Try.underlying4 rfl rfl (Cell.known (by first | assumption | exact (by assumption : Sub _ _) _ _ (by assumption) | exact (Sub.trans (by assumption) (by assumption)) _ _ (by assumption)) rfl)) ?_
  refine VL_still rfl rfl rfl (S_move rfl) ?_
  refine VL_bool 7 rfl (fun hc7 => ?_) (fun hc7 => ?_)
  · skip
    obtain rfl : bl = true := hc7
    refine VL_still rfl rfl rfl (S_move rfl) ?_
    refine VL_still rfl rfl rfl (S_field (k := 0) Try.underlying106 rfl rfl ti23 rfl rfl) ?_
    first | refine VL_still rfl rfl rfl (S_load Try.underlying23 rfl rfl (Cell.trk (by repeat (first | exact Has.here | apply Has.there)) rfl)) ?_ | refine VL_still rfl rfl rfl (S_load Try.underlying23 rfl rfl (Cell.known (by first | assumption | exact (by assumption : Sub _ _) _ _ (by assumption) | exact (Sub.trans (by assumption) (by assumption)) _ _ (by assumption)) rfl)) ?_
    refine VL_still rfl rfl rfl (S_lss rfl rfl) ?_
    first | refine VL_still rfl rfl rfl (S_pick_t rfl rfl) ?_ | refine VL_still rfl rfl rfl (S_pick_f rfl rfl) ?_
    refine VL_still rfl rfl rfl (S_move rfl) ?_
    refine VL_bool 13 rfl (fun hc13 => ?_) (fun hc13 => ?_)
    · skip
      refine VL_skip rfl rfl rfl ?_
      refine VL_skip rfl rfl rfl ?_
      refine VL_skip rfl rfl rfl ?_
      refine VL_skip rfl rfl rfl ?_
      refine VL_skip rfl rfl rfl ?_
      refine VL_skip rfl rfl rfl ?_
      refine VL_skip rfl rfl rfl ?_
      refine VL_skip rfl rfl rfl ?_
      first | refine VL_still rfl rfl rfl (S_pick_t rfl rfl) ?_ | refine VL_still rfl rfl rfl (S_pick_f rfl rfl) ?_
      refine VL_still rfl rfl rfl (S_assign rfl) ?_
      refine VL_nil ?_
      refine VQ_then ?_
      refine V_ret ?_
      refine VQ_fin1 (nb := []) (by first | exact .inl rfl | exact .inr rfl) rfl (RV_tmp rfl) ?sb ?po
      case po =>
        refine ⟨congrArg Value.bool ?_, rfl, rfl⟩
        unfold outB
        simp_all
        try (intros; omega)
      case sb => exact (by repeat (first | exact SubB.nil | exact Pick.here | apply Pick.there | apply SubB.emp | apply SubB.cons))
    · skip
      refine VL_still rfl rfl rfl (S_field (k := 3) Try.underlying106 rfl rfl ti4 rfl rfl) ?_
      first | refine VL_still rfl rfl rfl (S_load Try.underlying4 rfl rfl (Cell.trk (by repeat (first | exact Has.here | apply Has.there)) rfl)) ?_ | refine VL_still rfl rfl rfl (S_load Try.underlying4 rfl rfl (Cell.known (by first | assumption | exact (by assumption : Sub _ _) _ _ (by assumption) | exact (Sub.trans (by assumption) (by assumption)) _ _ (by assumption)) rfl)) ?_
      refine VL_still rfl rfl rfl (S_move rfl) ?_
      refine VL_bool 16 rfl (fun hc16 => ?_) (fun hc16 => ?_)
      · skip
        obtain rfl : bu = true := hc16
        refine VL_still rfl rfl rfl (S_move rfl) ?_
        refine VL_still rfl rfl rfl (S_field (k := 1) Try.underlying106 rfl rfl ti23 rfl rfl) ?_
        first | refine VL_still rfl rfl rfl (S_load Try.underlying23 rfl rfl (Cell.trk (by repeat (first | exact Has.here | apply Has.there)) rfl)) ?_ | refine VL_still rfl rfl rfl (S_load Try.underlying23 rfl rfl (Cell.known (by first | assumption | exact (by assumption : Sub _ _) _ _ (by assumption) | exact (Sub.trans (by assumption) (by assumption)) _ _ (by assumption)) rfl)) ?_
        refine VL_still rfl rfl rfl (S_geq rfl rfl) ?_
        first | refine VL_still rfl rfl rfl (S_pick_t rfl rfl) ?_ | refine VL_still rfl rfl rfl (S_pick_f rfl rfl) ?_
        first | refine VL_still rfl rfl rfl (S_pick_t rfl rfl) ?_ | refine VL_still rfl rfl rfl (S_pick_f rfl rfl) ?_
        refine VL_still rfl rfl rfl (S_assign rfl) ?_
        refine VL_nil ?_
        refine VQ_then ?_
        refine V_ret ?_
        refine VQ_fin1 (nb := []) (by first | exact .inl rfl | exact .inr rfl) rfl (RV_tmp rfl) ?sb ?po
        case po =>
          refine ⟨congrArg Value.bool ?_, rfl, rfl⟩
          unfold outB
          simp_all
          try (intros; omega)
        case sb => exact (by repeat (first | exact SubB.nil | exact Pick.here | apply Pick.there | apply SubB.emp | apply SubB.cons))
      · skip
        obtain rfl : bu = false := hc16
        refine VL_skip rfl rfl rfl ?_
        refine VL_skip rfl rfl rfl ?_
        refine VL_skip rfl rfl rfl ?_
        refine VL_skip rfl rfl rfl ?_
        first | refine VL_still rfl rfl rfl (S_pick_t rfl rfl) ?_ | refine VL_still rfl rfl rfl (S_pick_f rfl rfl) ?_
        first | refine VL_still rfl rfl rfl (S_pick_t rfl rfl) ?_ | refine VL_still rfl rfl rfl (S_pick_f rfl rfl) ?_
        refine VL_still rfl rfl rfl (S_assign rfl) ?_
        refine VL_nil ?_
        refine VQ_then ?_
        refine V_ret ?_
        refine VQ_fin1 (nb := []) (by first | exact .inl rfl | exact .inr rfl) rfl (RV_tmp rfl) ?sb ?po
        case po =>
          refine ⟨congrArg Value.bool ?_, rfl, rfl⟩
          unfold outB
          simp_all
          try (intros; omega)
        case sb => exact (by repeat (first | exact SubB.nil | exact Pick.here | apply Pick.there | apply SubB.emp | apply SubB.cons))
  · skip
    obtain rfl : bl = false := hc7
    refine VL_skip rfl rfl rfl ?_
    refine VL_skip rfl rfl rfl ?_
    refine VL_skip rfl rfl rfl ?_
    refine VL_skip rfl rfl rfl ?_
    first | refine VL_still rfl rfl rfl (S_pick_t rfl rfl) ?_ | refine VL_still rfl rfl rfl (S_pick_f rfl rfl) ?_
    refine VL_still rfl rfl rfl (S_move rfl) ?_
    refine VL_still rfl rfl rfl (S_field (k := 3) Try.underlying106 rfl rfl ti4 rfl rfl) ?_
    first | refine VL_still rfl rfl rfl (S_load Try.underlying4 rfl rfl (Cell.trk (by repeat (first | exact Has.here | apply Has.there)) rfl)) ?_ | refine VL_still rfl rfl rfl (S_load Try.underlying4 rfl rfl (Cell.known (by first | assumption | exact (by assumption : Sub _ _) _ _ (by assumption) | exact (Sub.trans (by assumption) (by assumption)) _ _ (by assumption)) rfl)) ?_
    refine VL_still rfl rfl rfl (S_move rfl) ?_
    refine VL_bool 16 rfl (fun hc16 => ?_) (fun hc16 => ?_)
    · skip
      obtain rfl : bu = true := hc16
      refine VL_still rfl rfl rfl (S_move rfl) ?_
      refine VL_still rfl rfl rfl (S_field (k := 1) Try.underlying106 rfl rfl ti23 rfl rfl) ?_
      first | refine VL_still rfl rfl rfl (S_load Try.underlying23 rfl rfl (Cell.trk (by repeat (first | exact Has.here | apply Has.there)) rfl)) ?_ | refine VL_still rfl rfl rfl (S_load Try.underlying23 rfl rfl (Cell.known (by first | assumption | exact (by assumption : Sub _ _) _ _ (by assumption) | exact (Sub.trans (by assumption) (by assumption)) _ _ (by assumption)) rfl)) ?_
      refine VL_still rfl rfl rfl (S_geq rfl rfl) ?_
      first | refine VL_still rfl rfl rfl (S_pick_t rfl rfl) ?_ | refine VL_still rfl rfl rfl (S_pick_f rfl rfl) ?_
      first | refine VL_still rfl rfl rfl (S_pick_t rfl rfl) ?_ | refine VL_still rfl rfl rfl (S_pick_f rfl rfl) ?_
      refine VL_still rfl rfl rfl (S_assign rfl) ?_
      refine VL_nil ?_
      refine VQ_then ?_
      refine V_ret ?_
      refine VQ_fin1 (nb := []) (by first | exact .inl rfl | exact .inr rfl) rfl (RV_tmp rfl) ?sb ?po
      case po =>
        refine ⟨congrArg Value.bool ?_, rfl, rfl⟩
        unfold outB
        simp_all
        try (intros; omega)
      case sb => exact (by repeat (first | exact SubB.nil | exact Pick.here | apply Pick.there | apply SubB.emp | apply SubB.cons))
    · skip
      obtain rfl : bu = false := hc16
      refine VL_skip rfl rfl rfl ?_
      refine VL_skip rfl rfl rfl ?_
      refine VL_skip rfl rfl rfl ?_
      refine VL_skip rfl rfl rfl ?_
      first | refine VL_still rfl rfl rfl (S_pick_t rfl rfl) ?_ | refine VL_still rfl rfl rfl (S_pick_f rfl rfl) ?_
      first | refine VL_still rfl rfl rfl (S_pick_t rfl rfl) ?_ | refine VL_still rfl rfl rfl (S_pick_f rfl rfl) ?_
      refine VL_still rfl rfl rfl (S_assign rfl) ?_
      refine VL_nil ?_
      refine VQ_then ?_
      refine V_ret ?_
      refine VQ_fin1 (nb := []) (by first | exact .inl rfl | exact .inr rfl) rfl (RV_tmp rfl) ?sb ?po
      case po =>
        refine ⟨congrArg Value.bool ?_, rfl, rfl⟩
        unfold outB
        simp_all
        try (intros; omega)
      case sb => exact (by repeat (first | exact SubB.nil | exact Pick.here | apply Pick.there | apply SubB.emp | apply SubB.cons))

set_option maxRecDepth 100000 in
theorem idxo_con (v : Value) (ks : List Int) (l u : Int) (bl bu : Bool) (h : Hp) (hs : SlR h [] v ks.length (kcs ks) 1) (hn : ks.length ≤ 1000000) : Con Try.prog 90 [v, .func (.func 72) (List.toArray [bdv l u bl bu]) (List.toArray [])] h [] (fun r h' nb => ∃ k : Int, r = .int .i64 k ∧ decide (0 ≤ k) = ks.any (outB l u bl bu) ∧ h = h' ∧ nb = []) := by
  obtain ⟨A, cap, rfl, hle, hmx⟩ := SlR.form hs
  refine Con_of Try.func90 rfl Try.ntmps90 (Nat.le_of_ble_eq_true rfl) (fun w0 => ?_)
  refine V_seq ?_
  refine V_region ?_
  refine VL_still rfl rfl rfl (S_assign rfl) ?_
  refine VL_nil ?_
  refine VQ_then ?_
  refine V_seq ?_
  refine V_seq ?_
  refine V_region ?_
  refine VL_still rfl rfl rfl (S_move rfl) ?_
  refine VL_still rfl rfl rfl (S_len Try.underlying88 rfl) ?_
  refine VL_still rfl rfl rfl (S_move rfl) ?_
  refine VL_nil ?_
  refine VQ_then ?_
  refine V_block ?_
  refine V_loop (ι := Nat) (fun i => ks.length - i) (fun i => i ≤ ks.length ∧ ∀ j (hj : j < ks.length), j < i → outB l u bl bu ks[j] = false) (fun i => [(0, .slice A ks.length cap), (1, .func (.func 72) (List.toArray [bdv l u bl bu]) (List.toArray [])), (7, .int .i64 ks.length), (8, .int .i64 i)]) (fun _ => h) (fun _ => []) 0 ⟨Nat.zero_le _, fun j hj hj' => absurd hj' (by omega)⟩ (by repeat (first | exact trivial | refine ⟨rfl, ?_⟩)) rfl SubB.any (fun i hi => ?_)
  obtain ⟨hi1, hi2⟩ := hi
  refine V_seq ?_
  refine V_region ?_
  refine VL_still rfl rfl rfl (S_lss rfl rfl) ?_
  refine VL_nil ?_
  refine VQ_then ?_
  refine V_seq ?_
  refine V_cond rfl (fun hc9 => ?_) (fun hc9 => ?_)
  · skip
    have hlt : i < ks.length := by
      have := of_decide_eq_true hc9
      omega
    obtain ⟨bb, off, cap', e1, hc⟩ := SlR.at_ kcE hs rfl hlt
    cases e1
    refine V_skip ?_
    refine VQ_then ?_
    refine V_seq ?_
    refine V_block ?_
    refine V_seq ?_
    refine V_region ?_
    refine VL_still rfl rfl rfl (S_move rfl) ?_
    refine VL_still rfl rfl rfl (S_assign rfl) ?_
    refine VL_nil ?_
    refine VQ_then ?_
    refine V_seq ?_
    refine V_region ?_
    refine VL_still rfl rfl rfl (S_move rfl) ?_
    refine VL_still rfl rfl rfl (S_move rfl) ?_
    refine VL_still rfl rfl rfl (S_move rfl) ?_
    refine VL_still rfl rfl rfl (X_at i Try.underlying88 tx23 rfl rfl hlt) ?_
    refine VL_still rfl rfl rfl (S_load Try.underlying23 rfl rfl hc.1.mem) ?_
    refine VL_eff rfl (E_call rfl rfl rfl (by first | exact Try.call72) (out_con l u ks[i] bl bu h) (by repeat (first | exact Split.nil | exact Pick.here | apply Pick.there | apply Split.cons))) ?_
    rintro _ hh16 _ ⟨v16, nb16, ⟨rfl, rfl, rfl⟩, hs16, rfl, rfl⟩
    refine VL_nil ?_
    refine VQ_then ?_
    refine V_cond rfl (fun hc16 => ?_) (fun hc16 => ?_)
    · skip
      have hpf : outB l u bl bu ks[i] = true := hc16
      refine V_seq ?_
      refine V_region ?_
      refine VL_still rfl rfl rfl (S_move rfl) ?_
      refine VL_still rfl rfl rfl (S_assign rfl) ?_
      refine VL_nil ?_
      refine VQ_then ?_
      refine V_ret ?_
      refine VQ_block_ret ?_
      refine VQ_then_ret ?_
      refine VQ_then_ret ?_
      refine VQ_block_ret ?_
      refine VQ_then_ret ?_
      refine VQ_fin1 (nb := []) (by first | exact .inl rfl | exact .inr rfl) rfl (RV_tmp rfl) ?sb ?po
      case po =>
        refine ⟨_, rfl, ?_, rfl, rfl⟩
        rw [decide_eq_true (by omega)]
        exact (List.any_eq_true.2 ⟨ks[i], List.getElem_mem hlt, hpf⟩).symm
      case sb => exact (by repeat (first | exact SubB.nil | exact Pick.here | apply Pick.there | apply SubB.emp | apply SubB.cons))
    · skip
      have hpf : outB l u bl bu ks[i] = false := hc16
      refine V_skip ?_
      refine VQ_block_normal ?_
      refine VQ_then ?_
      refine V_region ?_
      first | refine VL_still rfl rfl rfl (S_addi rfl rfl (by omega) (by omega)) ?_ | refine VL_still rfl rfl rfl (S_add rfl rfl) ?_
      refine VL_still rfl rfl rfl (S_move rfl) ?_
      refine VL_nil ?_
      refine VQ_mid (i + 1) ⟨⟨by omega, fun j hj hj' => ?_⟩, by omega⟩ (by repeat (first | exact trivial | refine ⟨rfl, ?_⟩)) rfl SubB.any
      rcases Nat.lt_or_ge j i with hlt' | hge
      · exact hi2 j hj hlt'
      · obtain rfl : j = i := by omega
        exact hpf
  · skip
    refine V_exit ?_
    refine VQ_then_exit ?_
    refine VQ_then_exit ?_
    refine VQ_block_exit ?_
    refine VQ_then ?_
    refine V_seq ?_
    refine V_region ?_
    refine VL_still rfl rfl rfl (S_assign rfl) ?_
    refine VL_nil ?_
    refine VQ_then ?_
    refine V_ret ?_
    refine VQ_fin1 (nb := []) (by first | exact .inl rfl | exact .inr rfl) rfl (RV_tmp rfl) ?sb ?po
    case po =>
      refine ⟨_, rfl, ?_, rfl, rfl⟩
      have hge : i = ks.length := by
        have := of_decide_eq_false hc9
        omega
      rw [decide_eq_false (by omega)]
      symm
      rw [List.any_eq_false]
      intro x hx
      obtain ⟨j, hj, rfl⟩ := List.getElem_of_mem hx
      simp [hi2 j hj (by omega)]
    case sb => exact (by repeat (first | exact SubB.nil | exact Pick.here | apply Pick.there | apply SubB.emp | apply SubB.cons))

set_option maxRecDepth 100000 in
theorem haso_con (v : Value) (ks : List Int) (l u : Int) (bl bu : Bool) (h : Hp) (hs : SlR h [] v ks.length (kcs ks) 1) (hn : ks.length ≤ 1000000) : Con Try.prog 71 [v, .func (.func 72) (List.toArray [bdv l u bl bu]) (List.toArray [])] h [] (fun r h' nb => r = .bool (ks.any (outB l u bl bu)) ∧ h = h' ∧ nb = []) := by
  obtain ⟨A, cap, rfl, hle, hmx⟩ := SlR.form hs
  refine Con_of Try.func71 rfl Try.ntmps71 (Nat.le_of_ble_eq_true rfl) (fun w0 => ?_)
  refine V_seq ?_
  refine V_region ?_
  refine VL_still rfl rfl rfl (S_assign rfl) ?_
  refine VL_nil ?_
  refine VQ_then ?_
  refine V_seq ?_
  refine V_region ?_
  refine VL_still rfl rfl rfl (S_move rfl) ?_
  refine VL_still rfl rfl rfl (S_move rfl) ?_
  refine VL_eff rfl (E_call rfl rfl rfl Try.call90 (idxo_con _ ks l u bl bu h hs hn) (by repeat (first | exact Split.nil | exact Pick.here | apply Pick.there | apply Split.cons))) ?_
  rintro _ hh7 _ ⟨v7, nb7, ⟨k7, rfl, hk7, rfl, rfl⟩, hs7, rfl, rfl⟩
  refine VL_still rfl rfl rfl (S_geq rfl rfl) ?_
  refine VL_still rfl rfl rfl (S_assign rfl) ?_
  refine VL_nil ?_
  refine VQ_then ?_
  refine V_ret ?_
  refine VQ_fin1 (nb := []) (by first | exact .inl rfl | exact .inr rfl) rfl (RV_tmp rfl) ?sb ?po
  case po =>
    exact ⟨by rw [← hk7], rfl, rfl⟩
  case sb => exact (by repeat (first | exact SubB.nil | exact Pick.here | apply Pick.there | apply SubB.emp | apply SubB.cons))

end Go.Proofs.Ytdglignjoojimaa

/- The plain law of trees, part 14: the program's reader, step by step. No program in sight. No conditions. -/
set_option linter.unusedVariables false
set_option linter.unusedSimpArgs false
namespace Go.Proofs.Ytdglignjoojimaa

def gdF (keys : List Int) : Option (Nat × Option Nat × List Tr) → Option (Nat × Tr × Nat)
  | none => none
  | some (size, dp, ts) => some (size, .node keys ts, dp.getD 0)
theorem gdK_drop {f : Nat → Option Nat → Int → Int → Option (Nat × Tr × Nat)} {keys kids : List Int} {lo hi : Int} {a i size : Nat} {dp : Option Nat} {ts : List Tr} (h : i < kids.length) :
    gdK f keys lo hi a (kids.drop i) i size dp ts = if kids[i] = ((a + size : Nat) : Int) then
      match f (a + size) dp (lowK keys lo i) (highK keys hi i) with
      | none => none
      | some (m, t, D) => gdK f keys lo hi a (kids.drop (i + 1)) (i + 1) (size + m) (some D) (ts ++ [t])
    else none := by
  rw [List.drop_eq_getElem_cons h]; rfl
theorem gdK_bad {f : Nat → Option Nat → Int → Int → Option (Nat × Tr × Nat)} {keys kids : List Int} {lo hi : Int} {a i size : Nat} {dp : Option Nat} {ts : List Tr} (h : i < kids.length)
    (e : (if kids[i] = ((a + size : Nat) : Int) then f (a + size) dp (lowK keys lo i) (highK keys hi i) else none) = none) : gdK f keys lo hi a (kids.drop i) i size dp ts = none := by
  rw [gdK_drop h]
  split
  · rename_i hk
    rw [if_pos hk] at e
    rw [e]
  · rfl
theorem gdK_good {f : Nat → Option Nat → Int → Int → Option (Nat × Tr × Nat)} {keys kids : List Int} {lo hi : Int} {a i size m D : Nat} {dp : Option Nat} {ts : List Tr} {t : Tr} (h : i < kids.length)
    (e : (if kids[i] = ((a + size : Nat) : Int) then f (a + size) dp (lowK keys lo i) (highK keys hi i) else none) = some (m, t, D)) :
    gdK f keys lo hi a (kids.drop i) i size dp ts = gdK f keys lo hi a (kids.drop (i + 1)) (i + 1) (size + m) (some D) (ts ++ [t]) ∧ f (a + size) dp (lowK keys lo i) (highK keys hi i) = some (m, t, D) := by
  rw [gdK_drop h]
  split at e
  · rename_i hk
    rw [if_pos hk, e]
    exact ⟨rfl, rfl⟩
  · cases e
section
variable {n a depth : Nat} {L : List Nd} {x : Nd} {dp : Option Nat} {lo hi : Int}
theorem gdT_none (h : L.length ≤ a) : gdT n L depth a dp lo hi = none := by
  cases n with
  | zero => rfl
  | succ n => rw [gdT_s, List.getElem?_eq_none h]
theorem gdT_form (hx : L[a]? = some x) (hf : formB x (decide (a = 0)) = false) : gdT n L depth a dp lo hi = none := by
  cases n with
  | zero => rfl
  | succ n => rw [gdT_s, hx]; simp only; rw [if_neg (by rw [hf]; simp)]
theorem gdT_out (hx : L[a]? = some x) (h : x.keys.any (fun k => decide (k < lo) || decide (hi ≤ k)) = true) : gdT n L depth a dp lo hi = none := by
  cases n with
  | zero => rfl
  | succ n => rw [gdT_s, hx]; simp only; rw [h]; simp
theorem gdT_leaf (hx : L[a]? = some x) (hf : formB x (decide (a = 0)) = true) (h : x.keys.any (fun k => decide (k < lo) || decide (hi ≤ k)) = false) (hk : x.kids.length = 0) :
    gdT (n + 1) L depth a dp lo hi = if dp = none ∨ dp = some depth then some (1, .leaf (x.keys.zip x.vals), depth) else none := by
  rw [gdT_s, hx]; simp only; rw [if_pos hf, h, if_neg (by simp), if_pos hk]
theorem gdT_node (hx : L[a]? = some x) (hf : formB x (decide (a = 0)) = true) (h : x.keys.any (fun k => decide (k < lo) || decide (hi ≤ k)) = false) (hk : ¬ x.kids.length = 0) :
    gdT (n + 1) L depth a dp lo hi = gdF x.keys (gdK (gdT n L (depth + 1)) x.keys lo hi a x.kids 0 1 dp []) := by
  rw [gdT_s, hx]; simp only; rw [if_pos hf, h, if_neg (by simp), if_neg hk]
  cases gdK (gdT n L (depth + 1)) x.keys lo hi a x.kids 0 1 dp [] <;> rfl
theorem gd_size {m D : Nat} {t : Tr} (h : gdT n L depth a dp lo hi = some (m, t, D)) : ∃ d, D = depth + d ∧ (dp = none ∨ dp = some D) ∧ a + m ≤ L.length ∧ 1 ≤ m ∧ (flat d t).length ≤ 7 * m := by
  obtain ⟨d, h1, h2, h3, _⟩ := gd_rd h
  exact ⟨d, h2, h3, (rdT_le h1).1, (rdT_le h1).2, rd_flat h1⟩
end
end Go.Proofs.Ytdglignjoojimaa

/- The reader of nodes: its states; what is bad. No conditions. -/
set_option linter.unusedVariables false
set_option linter.unusedSimpArgs false
namespace Go.Proofs.Ytdglignjoojimaa

/-- The reader's block. -/
abbrev GRd (br : Nat) (V : Value) (nx dp ct : Int) (bad : Bool) : Gr := [(br, .cells (List.toArray [V, .int .i64 nx, .int .i64 dp, .int .i64 ct, .bool bad]) 103 (0, 0))]
/-- What the reader's node hands back. -/
def NdO (h' : Hp) (r : Value) (nb : Bl) (br : Nat) (V : Value) (o : Option (Nat × Tr × Nat)) (nx ct depth : Nat) : Prop :=
  ∃ b nx' dp' ct' bad', r = ptr b ∧ nb = [GRd br V nx' dp' ct' bad'] ∧ ((bad' = true ∧ o = none) ∨
    ∃ m t D d, bad' = false ∧ o = some (m, t, D) ∧ nx' = ((nx + m : Nat) : Int) ∧ dp' = (D : Nat) ∧ D = depth + d ∧ ct' = ((ct + (flat d t).length : Nat) : Int) ∧ Rp h' d b t)
/-- Where the reader stands among a node's kids. -/
def NSt (f : Nat → Option Nat → Int → Int → Option (Nat × Tr × Nat)) (L : List Nd) (x : Nd) (lo hi : Int) (a depth ct0 : Nat) (o : Option (Nat × Tr × Nat)) (hh : Hp) (i : Nat) (nx dp ct : Int) (bad : Bool) (bs : List Nat) : Prop :=
  (bad = true ∧ o = none) ∨ (bad = false ∧ ∃ (size : Nat) (dpo : Option Nat) (ts : List Tr) (d : Nat), nx = ((a + size : Nat) : Int) ∧ dp = dv dpo ∧ ct = ((ct0 + (ts.flatMap (flat d)).length : Nat) : Int) ∧ 1 ≤ size ∧ a + size ≤ L.length ∧
    (ts.flatMap (flat d)).length ≤ 7 * size ∧ gdF x.keys (gdK f x.keys lo hi a (x.kids.drop i) i size dpo ts) = o ∧ All2 (Rp hh d) bs ts ∧ (ts = [] ∨ dpo = some (depth + 1 + d)) ∧ ts.length = i)
theorem NSt.step {n : Nat} {L : List Nd} {x : Nd} {lo hi : Int} {a depth ct0 : Nat} {o : Option (Nat × Tr × Nat)} {hh h' : Hp} {i size : Nat} {dpo : Option Nat} {ts : List Tr} {d : Nat} {bs : List Nat} {r : Value} {nb : Bl} {br : Nat} {V : Value}
    (hi' : i < x.kids.length) (h1 : 1 ≤ size) (h2 : (ts.flatMap (flat d)).length ≤ 7 * size) (hK : gdF x.keys (gdK (gdT n L (depth + 1)) x.keys lo hi a (x.kids.drop i) i size dpo ts) = o) (hA : All2 (Rp hh d) bs ts)
    (hd : ts = [] ∨ dpo = some (depth + 1 + d)) (hl : ts.length = i)
    (q : NdO h' r nb br V (if x.kids[i] = ((a + size : Nat) : Int) then gdT n L (depth + 1) (a + size) dpo (lowK x.keys lo i) (highK x.keys hi i) else none) (a + size) (ct0 + (ts.flatMap (flat d)).length) (depth + 1)) :
    ∃ b nx' dp' ct' bad', r = ptr b ∧ nb = [GRd br V nx' dp' ct' bad'] ∧ (Sub hh h' → NSt (gdT n L (depth + 1)) L x lo hi a depth ct0 o h' (i + 1) nx' dp' ct' bad' (bs ++ [b])) := by
  obtain ⟨b, nx', dp', ct', bad', e1, e2, q⟩ := q
  refine ⟨b, nx', dp', ct', bad', e1, e2, fun hs => ?_⟩
  rcases q with ⟨hb, hn⟩ | ⟨m, t, D, d', hb, ho, e3, e4, e5, e6, hR⟩
  · left
    refine ⟨hb, ?_⟩
    rw [← hK, gdK_bad hi' hn]; rfl
  · right
    obtain ⟨hg, hf⟩ := gdK_good (ts := ts) hi' ho
    obtain ⟨d2, g1, g2, g3, g4, g5⟩ := gd_size hf
    obtain rfl : d2 = d' := by omega
    have hdd : All2 (Rp h' d2) bs ts ∧ ts.flatMap (flat d) = ts.flatMap (flat d2) := by
      rcases hd with rfl | hd
      · cases hA; exact ⟨.nil, rfl⟩
      · have : d = d2 := by
          rcases g2 with g2 | g2
          · rw [hd] at g2; cases g2
          · rw [hd] at g2; have := Option.some.inj g2; omega
        subst this
        exact ⟨hA.mono fun _ _ r => Rp.sub hs r, rfl⟩
    obtain ⟨hA', hfe⟩ := hdd
    rw [hfe] at h2 e6
    refine ⟨hb, size + m, some D, ts ++ [t], d2, ?_, ?_, ?_, by omega, by omega, ?_, ?_, hA'.app (.cons hR .nil), .inr ?_, by rw [List.length_append, hl]; rfl⟩
    · rw [e3, Nat.add_assoc]
    · rw [e4]; rfl
    · rw [e6]; simp only [List.flatMap_append, List.flatMap_cons, List.flatMap_nil, List.append_nil, List.length_append, Nat.add_assoc]
    · simp only [List.flatMap_append, List.flatMap_cons, List.flatMap_nil, List.append_nil, List.length_append]; omega
    · rw [← hK, hg]
    · rw [e5]
theorem NSt.done {f : Nat → Option Nat → Int → Int → Option (Nat × Tr × Nat)} {L : List Nd} {x : Nd} {lo hi : Int} {a depth ct0 : Nat} {o : Option (Nat × Tr × Nat)} {hh : Hp} {nx dp ct : Int} {bad : Bool} {bs : List Nat}
    (s : NSt f L x lo hi a depth ct0 o hh x.kids.length nx dp ct bad bs) (hk : ¬ x.kids.length = 0) : (bad = true ∧ o = none) ∨ ∃ m ts d, bad = false ∧ o = some (m, .node x.keys ts, depth + (d + 1)) ∧ nx = ((a + m : Nat) : Int) ∧ dp = ((depth + (d + 1) : Nat) : Int) ∧
      ct = ((ct0 + (flat (d + 1) (.node x.keys ts)).length : Nat) : Int) ∧ All2 (Rp hh d) bs ts := by
  rcases s with s | ⟨hb, size, dpo, ts, d, e1, e2, e3, h1, h2, h3, hK, hA, hd, hl⟩
  · exact .inl s
  · right
    rcases hd with rfl | rfl
    · exact absurd hl.symm hk
    · rw [List.drop_of_length_le (Nat.le_refl _)] at hK
      refine ⟨size, ts, d, hb, ?_, e1, ?_, e3, hA⟩
      · rw [← hK, Nat.add_assoc, Nat.add_comm 1 d]; rfl
      · rw [e2, Nat.add_assoc, Nat.add_comm 1 d]; rfl

set_option maxRecDepth 100000 in
theorem node_bad (v : Value) (L : List Nd) (br : Nat) (kid depth nx dp ct : Int) (l u : Int) (bl bu bad : Bool) (h : Hp) (hL : NL h v L) (hbad : bad = true ∨ ¬ kid = nx ∨ (L.length : Int) ≤ kid) : Con Try.prog 46 [ptr br, .int .i64 kid, .int .i64 depth, bdv l u bl bu] h [GRd br v nx dp ct bad] (fun r h' nb => ∃ b, r = ptr b ∧ nb = [GRd br v nx dp ct true]) := by
  obtain ⟨A0, cap0, rfl, hle0, hmx0⟩ := hL.form
  refine Con_of Try.func46 rfl Try.ntmps46 (Nat.le_of_ble_eq_true rfl) (fun w0 => ?_)
  refine V_seq ?_
  refine V_region ?_
  refine VL_eff rfl (E_box rfl rfl rfl) ?_
  rintro _ _ _ ⟨b7, hb7, rfl, rfl, rfl⟩
  refine VL_still rfl rfl rfl (S_assign rfl) ?_
  refine VL_nil ?_
  refine VQ_then ?_
  refine V_seq ?_
  refine V_seq ?_
  refine V_region ?_
  refine VL_still rfl rfl rfl (S_move rfl) ?_
  refine VL_still rfl rfl rfl (S_nil rfl) ?_
  refine VL_still rfl rfl rfl (S_field (k := 4) Try.underlying103 rfl rfl ti4 rfl rfl) ?_
  first | refine VL_still rfl rfl rfl (S_load Try.underlying4 rfl rfl (Cell.trk (by repeat (first | exact Has.here | apply Has.there)) rfl)) ?_ | refine VL_still rfl rfl rfl (S_load Try.underlying4 rfl rfl (Cell.known (by first | assumption | exact (by assumption : Sub _ _) _ _ (by assumption) | exact (Sub.trans (by assumption) (by assumption)) _ _ (by assumption)) rfl)) ?_
  refine VL_still rfl rfl rfl (S_move rfl) ?_
  refine VL_bool 18 rfl (fun hc18 => ?_) (fun hc18 => ?_)
  · skip
    refine VL_skip rfl rfl rfl ?_
    refine VL_skip rfl rfl rfl ?_
    refine VL_skip rfl rfl rfl ?_
    refine VL_skip rfl rfl rfl ?_
    refine VL_skip rfl rfl rfl ?_
    refine VL_skip rfl rfl rfl ?_
    first | refine VL_still rfl rfl rfl (S_pick_t rfl rfl) ?_ | refine VL_still rfl rfl rfl (S_pick_f rfl rfl) ?_
    refine VL_still rfl rfl rfl (S_move rfl) ?_
    refine VL_skip rfl rfl rfl ?_
    refine VL_skip rfl rfl rfl ?_
    refine VL_skip rfl rfl rfl ?_
    refine VL_skip rfl rfl rfl ?_
    refine VL_skip rfl rfl rfl ?_
    refine VL_skip rfl rfl rfl ?_
    refine VL_skip rfl rfl rfl ?_
    first | refine VL_still rfl rfl rfl (S_pick_t rfl rfl) ?_ | refine VL_still rfl rfl rfl (S_pick_f rfl rfl) ?_
    refine VL_still rfl rfl rfl (S_move rfl) ?_
    refine VL_skip rfl rfl rfl ?_
    refine VL_skip rfl rfl rfl ?_
    refine VL_skip rfl rfl rfl ?_
    refine VL_skip rfl rfl rfl ?_
    refine VL_skip rfl rfl rfl ?_
    refine VL_skip rfl rfl rfl ?_
    refine VL_skip rfl rfl rfl ?_
    refine VL_skip rfl rfl rfl ?_
    refine VL_skip rfl rfl rfl ?_
    refine VL_skip rfl rfl rfl ?_
    refine VL_skip rfl rfl rfl ?_
    refine VL_skip rfl rfl rfl ?_
    first | refine VL_still rfl rfl rfl (S_pick_t rfl rfl) ?_ | refine VL_still rfl rfl rfl (S_pick_f rfl rfl) ?_
    refine VL_nil ?_
    refine VQ_then ?_
    refine V_cond_true rfl ?_
    refine V_seq ?_
    refine V_region ?_
    refine VL_still rfl rfl rfl (S_move rfl) ?_
    refine VL_still rfl rfl rfl (S_nil rfl) ?_
    refine VL_still rfl rfl rfl (S_field (k := 4) Try.underlying103 rfl rfl ti4 rfl rfl) ?_
    refine VL_eff rfl (E_store ti4 rfl rfl rfl rfl rfl (by repeat (first | exact Has.here | apply Has.there)) (by repeat (first | exact PutR.nil | exact SetL.here | apply SetL.there | apply PutR.cons)) (by repeat (first | exact UpdG.here | apply UpdG.there))) ?_
    rintro _ _ _ ⟨rfl, rfl, rfl⟩
    refine VL_nil ?_
    refine VQ_then ?_
    refine V_seq ?_
    refine V_region ?_
    refine VL_still rfl rfl rfl (S_struct Try.underlying92 to92 tz92 rfl (by repeat (first | exact BuildR.nil | exact PutR.nil | exact SetL.here | apply SetL.there | apply PutR.cons | apply BuildR.cons rfl (by first | exact ti88 | exact ti89 | exact ti90) rfl rfl rfl))) ?_
    refine VL_eff rfl (E_box rfl rfl rfl) ?_
    rintro _ _ _ ⟨b53, hb53, rfl, rfl, rfl⟩
    refine VL_still rfl rfl rfl (S_assign rfl) ?_
    refine VL_nil ?_
    refine VQ_then ?_
    refine V_ret ?_
    refine VQ_then_ret ?_
    refine VQ_fin1 (nb := [GRd br (.slice A0 L.length cap0) nx dp ct true]) (by first | exact .inl rfl | exact .inr rfl) rfl (RV_tmp rfl) ?sb ?po
    case po =>
      exact ⟨_, rfl, rfl⟩
    case sb => exact (by repeat (first | exact SubB.nil | exact Pick.here | apply Pick.there | apply SubB.emp | apply SubB.cons))
  · skip
    obtain rfl : bad = false := hc18
    refine VL_still rfl rfl rfl (S_move rfl) ?_
    refine VL_still rfl rfl rfl (S_move rfl) ?_
    refine VL_still rfl rfl rfl (S_nil rfl) ?_
    refine VL_still rfl rfl rfl (S_field (k := 1) Try.underlying103 rfl rfl ti3 rfl rfl) ?_
    first | refine VL_still rfl rfl rfl (S_load Try.underlying3 rfl rfl (Cell.trk (by repeat (first | exact Has.here | apply Has.there)) rfl)) ?_ | refine VL_still rfl rfl rfl (S_load Try.underlying3 rfl rfl (Cell.known (by first | assumption | exact (by assumption : Sub _ _) _ _ (by assumption) | exact (Sub.trans (by assumption) (by assumption)) _ _ (by assumption)) rfl)) ?_
    refine VL_still rfl rfl rfl (S_neq rfl rfl) ?_
    first | refine VL_still rfl rfl rfl (S_pick_t rfl rfl) ?_ | refine VL_still rfl rfl rfl (S_pick_f rfl rfl) ?_
    refine VL_still rfl rfl rfl (S_move rfl) ?_
    refine VL_bool 26 rfl (fun hc26 => ?_) (fun hc26 => ?_)
    · skip
      refine VL_skip rfl rfl rfl ?_
      refine VL_skip rfl rfl rfl ?_
      refine VL_skip rfl rfl rfl ?_
      refine VL_skip rfl rfl rfl ?_
      refine VL_skip rfl rfl rfl ?_
      refine VL_skip rfl rfl rfl ?_
      refine VL_skip rfl rfl rfl ?_
      first | refine VL_still rfl rfl rfl (S_pick_t rfl rfl) ?_ | refine VL_still rfl rfl rfl (S_pick_f rfl rfl) ?_
      refine VL_still rfl rfl rfl (S_move rfl) ?_
      refine VL_skip rfl rfl rfl ?_
      refine VL_skip rfl rfl rfl ?_
      refine VL_skip rfl rfl rfl ?_
      refine VL_skip rfl rfl rfl ?_
      refine VL_skip rfl rfl rfl ?_
      refine VL_skip rfl rfl rfl ?_
      refine VL_skip rfl rfl rfl ?_
      refine VL_skip rfl rfl rfl ?_
      refine VL_skip rfl rfl rfl ?_
      refine VL_skip rfl rfl rfl ?_
      refine VL_skip rfl rfl rfl ?_
      refine VL_skip rfl rfl rfl ?_
      first | refine VL_still rfl rfl rfl (S_pick_t rfl rfl) ?_ | refine VL_still rfl rfl rfl (S_pick_f rfl rfl) ?_
      refine VL_nil ?_
      refine VQ_then ?_
      refine V_cond_true rfl ?_
      refine V_seq ?_
      refine V_region ?_
      refine VL_still rfl rfl rfl (S_move rfl) ?_
      refine VL_still rfl rfl rfl (S_nil rfl) ?_
      refine VL_still rfl rfl rfl (S_field (k := 4) Try.underlying103 rfl rfl ti4 rfl rfl) ?_
      refine VL_eff rfl (E_store ti4 rfl rfl rfl rfl rfl (by repeat (first | exact Has.here | apply Has.there)) (by repeat (first | exact PutR.nil | exact SetL.here | apply SetL.there | apply PutR.cons)) (by repeat (first | exact UpdG.here | apply UpdG.there))) ?_
      rintro _ _ _ ⟨rfl, rfl, rfl⟩
      refine VL_nil ?_
      refine VQ_then ?_
      refine V_seq ?_
      refine V_region ?_
      refine VL_still rfl rfl rfl (S_struct Try.underlying92 to92 tz92 rfl (by repeat (first | exact BuildR.nil | exact PutR.nil | exact SetL.here | apply SetL.there | apply PutR.cons | apply BuildR.cons rfl (by first | exact ti88 | exact ti89 | exact ti90) rfl rfl rfl))) ?_
      refine VL_eff rfl (E_box rfl rfl rfl) ?_
      rintro _ _ _ ⟨b53, hb53, rfl, rfl, rfl⟩
      refine VL_still rfl rfl rfl (S_assign rfl) ?_
      refine VL_nil ?_
      refine VQ_then ?_
      refine V_ret ?_
      refine VQ_then_ret ?_
      refine VQ_fin1 (nb := [GRd br (.slice A0 L.length cap0) nx dp ct true]) (by first | exact .inl rfl | exact .inr rfl) rfl (RV_tmp rfl) ?sb ?po
      case po =>
        exact ⟨_, rfl, rfl⟩
      case sb => exact (by repeat (first | exact SubB.nil | exact Pick.here | apply Pick.there | apply SubB.emp | apply SubB.cons))
    · skip
      have hkid : kid = nx := by simpa using hc26
      refine VL_still rfl rfl rfl (S_move rfl) ?_
      refine VL_still rfl rfl rfl (S_move rfl) ?_
      refine VL_still rfl rfl rfl (S_nil rfl) ?_
      refine VL_still rfl rfl rfl (S_field (k := 0) Try.underlying103 rfl rfl ti41 rfl rfl) ?_
      first | refine VL_still rfl rfl rfl (S_load Try.underlying41 rfl rfl (Cell.trk (by repeat (first | exact Has.here | apply Has.there)) rfl)) ?_ | refine VL_still rfl rfl rfl (S_load Try.underlying41 rfl rfl (Cell.known (by first | assumption | exact (by assumption : Sub _ _) _ _ (by assumption) | exact (Sub.trans (by assumption) (by assumption)) _ _ (by assumption)) rfl)) ?_
      refine VL_still rfl rfl rfl (S_len Try.underlying41 rfl) ?_
      refine VL_still rfl rfl rfl (S_geq rfl rfl) ?_
      first | refine VL_still rfl rfl rfl (S_pick_t rfl rfl) ?_ | refine VL_still rfl rfl rfl (S_pick_f rfl rfl) ?_
      refine VL_still rfl rfl rfl (S_move rfl) ?_
      refine VL_bool 35 rfl (fun hc35 => ?_) (fun hc35 => ?_)
      · skip
        refine VL_skip rfl rfl rfl ?_
        refine VL_skip rfl rfl rfl ?_
        refine VL_skip rfl rfl rfl ?_
        refine VL_skip rfl rfl rfl ?_
        refine VL_skip rfl rfl rfl ?_
        refine VL_skip rfl rfl rfl ?_
        refine VL_skip rfl rfl rfl ?_
        refine VL_skip rfl rfl rfl ?_
        refine VL_skip rfl rfl rfl ?_
        refine VL_skip rfl rfl rfl ?_
        refine VL_skip rfl rfl rfl ?_
        refine VL_skip rfl rfl rfl ?_
        first | refine VL_still rfl rfl rfl (S_pick_t rfl rfl) ?_ | refine VL_still rfl rfl rfl (S_pick_f rfl rfl) ?_
        refine VL_nil ?_
        refine VQ_then ?_
        refine V_cond_true rfl ?_
        refine V_seq ?_
        refine V_region ?_
        refine VL_still rfl rfl rfl (S_move rfl) ?_
        refine VL_still rfl rfl rfl (S_nil rfl) ?_
        refine VL_still rfl rfl rfl (S_field (k := 4) Try.underlying103 rfl rfl ti4 rfl rfl) ?_
        refine VL_eff rfl (E_store ti4 rfl rfl rfl rfl rfl (by repeat (first | exact Has.here | apply Has.there)) (by repeat (first | exact PutR.nil | exact SetL.here | apply SetL.there | apply PutR.cons)) (by repeat (first | exact UpdG.here | apply UpdG.there))) ?_
        rintro _ _ _ ⟨rfl, rfl, rfl⟩
        refine VL_nil ?_
        refine VQ_then ?_
        refine V_seq ?_
        refine V_region ?_
        refine VL_still rfl rfl rfl (S_struct Try.underlying92 to92 tz92 rfl (by repeat (first | exact BuildR.nil | exact PutR.nil | exact SetL.here | apply SetL.there | apply PutR.cons | apply BuildR.cons rfl (by first | exact ti88 | exact ti89 | exact ti90) rfl rfl rfl))) ?_
        refine VL_eff rfl (E_box rfl rfl rfl) ?_
        rintro _ _ _ ⟨b53, hb53, rfl, rfl, rfl⟩
        refine VL_still rfl rfl rfl (S_assign rfl) ?_
        refine VL_nil ?_
        refine VQ_then ?_
        refine V_ret ?_
        refine VQ_then_ret ?_
        refine VQ_fin1 (nb := [GRd br (.slice A0 L.length cap0) nx dp ct true]) (by first | exact .inl rfl | exact .inr rfl) rfl (RV_tmp rfl) ?sb ?po
        case po =>
          exact ⟨_, rfl, rfl⟩
        case sb => exact (by repeat (first | exact SubB.nil | exact Pick.here | apply Pick.there | apply SubB.emp | apply SubB.cons))
      · skip
        have hlt : ¬ (L.length : Int) ≤ kid := of_decide_eq_false hc35
        rcases hbad with e | e | e
        · cases e
        · exact absurd hkid e
        · exact absurd e hlt

end Go.Proofs.Ytdglignjoojimaa

/- The reader of nodes: one node. No conditions. -/
set_option linter.unusedVariables false
set_option linter.unusedSimpArgs false
namespace Go.Proofs.Ytdglignjoojimaa

set_option maxRecDepth 100000 in
theorem node_step (n : Nat) (v : Value) (L : List Nd) (br : Nat) (nL : L.length ≤ 10000) (hkeys : ∀ x ∈ L, ∀ k ∈ x.keys, 0 ≤ k ∧ k < top)
    (ih : ∀ (kid : Int) (depth nx ct : Nat) (l u : Int) (bl bu : Bool) (dpo : Option Nat) (h : Hp), NL h v L → nx ≤ L.length → L.length ≤ n + nx → depth ≤ nx → ct ≤ 7 * nx → Con Try.prog 46 [ptr br, .int .i64 kid, .int .i64 (depth : Nat), bdv l u bl bu] h [GRd br v (nx : Int) (dv dpo) (ct : Int) false] (fun r h' nb => NdO h' r nb br v (if kid = (nx : Int) then gdT n L depth nx dpo (loB l bl) (hiB u bu) else none) nx ct depth))
    (kid : Int) (depth nx ct : Nat) (l u : Int) (bl bu : Bool) (dpo : Option Nat) (h : Hp) (hL : NL h v L) (n1 : nx ≤ L.length) (n2 : L.length ≤ n + 1 + nx) (n3 : depth ≤ nx) (n4 : ct ≤ 7 * nx) : Con Try.prog 46 [ptr br, .int .i64 kid, .int .i64 (depth : Nat), bdv l u bl bu] h [GRd br v (nx : Int) (dv dpo) (ct : Int) false] (fun r h' nb => NdO h' r nb br v (if kid = (nx : Int) then gdT (n + 1) L depth nx dpo (loB l bl) (hiB u bu) else none) nx ct depth) := by
  obtain ⟨A0, cap0, rfl, hle0, hmx0⟩ := hL.form
  refine Con_of Try.func46 rfl Try.ntmps46 (Nat.le_of_ble_eq_true rfl) (fun w0 => ?_)
  refine V_seq ?_
  refine V_region ?_
  refine VL_eff rfl (E_box rfl rfl rfl) ?_
  rintro _ _ _ ⟨b7, hb7, rfl, rfl, rfl⟩
  refine VL_still rfl rfl rfl (S_assign rfl) ?_
  refine VL_nil ?_
  refine VQ_then ?_
  refine V_seq ?_
  refine V_seq ?_
  refine V_region ?_
  refine VL_still rfl rfl rfl (S_move rfl) ?_
  refine VL_still rfl rfl rfl (S_nil rfl) ?_
  refine VL_still rfl rfl rfl (S_field (k := 4) Try.underlying103 rfl rfl ti4 rfl rfl) ?_
  first | refine VL_still rfl rfl rfl (S_load Try.underlying4 rfl rfl (Cell.trk (by repeat (first | exact Has.here | apply Has.there)) rfl)) ?_ | refine VL_still rfl rfl rfl (S_load Try.underlying4 rfl rfl (Cell.known (by first | assumption | exact (by assumption : Sub _ _) _ _ (by assumption) | exact (Sub.trans (by assumption) (by assumption)) _ _ (by assumption)) rfl)) ?_
  refine VL_still rfl rfl rfl (S_move rfl) ?_
  refine VL_bool 18 rfl (fun hc18 => ?_) (fun hc18 => ?_)
  · skip
    cases hc18
  · skip
    refine VL_still rfl rfl rfl (S_move rfl) ?_
    refine VL_still rfl rfl rfl (S_move rfl) ?_
    refine VL_still rfl rfl rfl (S_nil rfl) ?_
    refine VL_still rfl rfl rfl (S_field (k := 1) Try.underlying103 rfl rfl ti3 rfl rfl) ?_
    first | refine VL_still rfl rfl rfl (S_load Try.underlying3 rfl rfl (Cell.trk (by repeat (first | exact Has.here | apply Has.there)) rfl)) ?_ | refine VL_still rfl rfl rfl (S_load Try.underlying3 rfl rfl (Cell.known (by first | assumption | exact (by assumption : Sub _ _) _ _ (by assumption) | exact (Sub.trans (by assumption) (by assumption)) _ _ (by assumption)) rfl)) ?_
    refine VL_still rfl rfl rfl (S_neq rfl rfl) ?_
    first | refine VL_still rfl rfl rfl (S_pick_t rfl rfl) ?_ | refine VL_still rfl rfl rfl (S_pick_f rfl rfl) ?_
    refine VL_still rfl rfl rfl (S_move rfl) ?_
    refine VL_bool 26 rfl (fun hc26 => ?_) (fun hc26 => ?_)
    · skip
      have hkid : ¬ kid = (nx : Int) := by simpa using hc26
      refine VL_skip rfl rfl rfl ?_
      refine VL_skip rfl rfl rfl ?_
      refine VL_skip rfl rfl rfl ?_
      refine VL_skip rfl rfl rfl ?_
      refine VL_skip rfl rfl rfl ?_
      refine VL_skip rfl rfl rfl ?_
      refine VL_skip rfl rfl rfl ?_
      first | refine VL_still rfl rfl rfl (S_pick_t rfl rfl) ?_ | refine VL_still rfl rfl rfl (S_pick_f rfl rfl) ?_
      refine VL_still rfl rfl rfl (S_move rfl) ?_
      refine VL_skip rfl rfl rfl ?_
      refine VL_skip rfl rfl rfl ?_
      refine VL_skip rfl rfl rfl ?_
      refine VL_skip rfl rfl rfl ?_
      refine VL_skip rfl rfl rfl ?_
      refine VL_skip rfl rfl rfl ?_
      refine VL_skip rfl rfl rfl ?_
      refine VL_skip rfl rfl rfl ?_
      refine VL_skip rfl rfl rfl ?_
      refine VL_skip rfl rfl rfl ?_
      refine VL_skip rfl rfl rfl ?_
      refine VL_skip rfl rfl rfl ?_
      first | refine VL_still rfl rfl rfl (S_pick_t rfl rfl) ?_ | refine VL_still rfl rfl rfl (S_pick_f rfl rfl) ?_
      refine VL_nil ?_
      refine VQ_then ?_
      refine V_cond_true rfl ?_
      refine V_seq ?_
      refine V_region ?_
      refine VL_still rfl rfl rfl (S_move rfl) ?_
      refine VL_still rfl rfl rfl (S_nil rfl) ?_
      refine VL_still rfl rfl rfl (S_field (k := 4) Try.underlying103 rfl rfl ti4 rfl rfl) ?_
      refine VL_eff rfl (E_store ti4 rfl rfl rfl rfl rfl (by repeat (first | exact Has.here | apply Has.there)) (by repeat (first | exact PutR.nil | exact SetL.here | apply SetL.there | apply PutR.cons)) (by repeat (first | exact UpdG.here | apply UpdG.there))) ?_
      rintro _ _ _ ⟨rfl, rfl, rfl⟩
      refine VL_nil ?_
      refine VQ_then ?_
      refine V_seq ?_
      refine V_region ?_
      refine VL_still rfl rfl rfl (S_struct Try.underlying92 to92 tz92 rfl (by repeat (first | exact BuildR.nil | exact PutR.nil | exact SetL.here | apply SetL.there | apply PutR.cons | apply BuildR.cons rfl (by first | exact ti88 | exact ti89 | exact ti90) rfl rfl rfl))) ?_
      refine VL_eff rfl (E_box rfl rfl rfl) ?_
      rintro _ _ _ ⟨b53, hb53, rfl, rfl, rfl⟩
      refine VL_still rfl rfl rfl (S_assign rfl) ?_
      refine VL_nil ?_
      refine VQ_then ?_
      refine V_ret ?_
      refine VQ_then_ret ?_
      refine VQ_fin1 (nb := [GRd br (.slice A0 L.length cap0) (nx : Int) (dv dpo) (ct : Int) true]) (by first | exact .inl rfl | exact .inr rfl) rfl (RV_tmp rfl) ?sb ?po
      case po =>
        exact ⟨_, _, _, _, _, rfl, rfl, .inl ⟨rfl, if_neg hkid⟩⟩
      case sb => exact (by repeat (first | exact SubB.nil | exact Pick.here | apply Pick.there | apply SubB.emp | apply SubB.cons))
    · skip
      have hkid : kid = (nx : Int) := by simpa using hc26
      subst hkid
      refine VL_still rfl rfl rfl (S_move rfl) ?_
      refine VL_still rfl rfl rfl (S_move rfl) ?_
      refine VL_still rfl rfl rfl (S_nil rfl) ?_
      refine VL_still rfl rfl rfl (S_field (k := 0) Try.underlying103 rfl rfl ti41 rfl rfl) ?_
      first | refine VL_still rfl rfl rfl (S_load Try.underlying41 rfl rfl (Cell.trk (by repeat (first | exact Has.here | apply Has.there)) rfl)) ?_ | refine VL_still rfl rfl rfl (S_load Try.underlying41 rfl rfl (Cell.known (by first | assumption | exact (by assumption : Sub _ _) _ _ (by assumption) | exact (Sub.trans (by assumption) (by assumption)) _ _ (by assumption)) rfl)) ?_
      refine VL_still rfl rfl rfl (S_len Try.underlying41 rfl) ?_
      refine VL_still rfl rfl rfl (S_geq rfl rfl) ?_
      first | refine VL_still rfl rfl rfl (S_pick_t rfl rfl) ?_ | refine VL_still rfl rfl rfl (S_pick_f rfl rfl) ?_
      refine VL_still rfl rfl rfl (S_move rfl) ?_
      refine VL_bool 35 rfl (fun hc35 => ?_) (fun hc35 => ?_)
      · skip
        have hge : L.length ≤ nx := by
          have := of_decide_eq_true hc35
          omega
        refine VL_skip rfl rfl rfl ?_
        refine VL_skip rfl rfl rfl ?_
        refine VL_skip rfl rfl rfl ?_
        refine VL_skip rfl rfl rfl ?_
        refine VL_skip rfl rfl rfl ?_
        refine VL_skip rfl rfl rfl ?_
        refine VL_skip rfl rfl rfl ?_
        refine VL_skip rfl rfl rfl ?_
        refine VL_skip rfl rfl rfl ?_
        refine VL_skip rfl rfl rfl ?_
        refine VL_skip rfl rfl rfl ?_
        refine VL_skip rfl rfl rfl ?_
        first | refine VL_still rfl rfl rfl (S_pick_t rfl rfl) ?_ | refine VL_still rfl rfl rfl (S_pick_f rfl rfl) ?_
        refine VL_nil ?_
        refine VQ_then ?_
        refine V_cond_true rfl ?_
        refine V_seq ?_
        refine V_region ?_
        refine VL_still rfl rfl rfl (S_move rfl) ?_
        refine VL_still rfl rfl rfl (S_nil rfl) ?_
        refine VL_still rfl rfl rfl (S_field (k := 4) Try.underlying103 rfl rfl ti4 rfl rfl) ?_
        refine VL_eff rfl (E_store ti4 rfl rfl rfl rfl rfl (by repeat (first | exact Has.here | apply Has.there)) (by repeat (first | exact PutR.nil | exact SetL.here | apply SetL.there | apply PutR.cons)) (by repeat (first | exact UpdG.here | apply UpdG.there))) ?_
        rintro _ _ _ ⟨rfl, rfl, rfl⟩
        refine VL_nil ?_
        refine VQ_then ?_
        refine V_seq ?_
        refine V_region ?_
        refine VL_still rfl rfl rfl (S_struct Try.underlying92 to92 tz92 rfl (by repeat (first | exact BuildR.nil | exact PutR.nil | exact SetL.here | apply SetL.there | apply PutR.cons | apply BuildR.cons rfl (by first | exact ti88 | exact ti89 | exact ti90) rfl rfl rfl))) ?_
        refine VL_eff rfl (E_box rfl rfl rfl) ?_
        rintro _ _ _ ⟨b53, hb53, rfl, rfl, rfl⟩
        refine VL_still rfl rfl rfl (S_assign rfl) ?_
        refine VL_nil ?_
        refine VQ_then ?_
        refine V_ret ?_
        refine VQ_then_ret ?_
        refine VQ_fin1 (nb := [GRd br (.slice A0 L.length cap0) (nx : Int) (dv dpo) (ct : Int) true]) (by first | exact .inl rfl | exact .inr rfl) rfl (RV_tmp rfl) ?sb ?po
        case po =>
          exact ⟨_, _, _, _, _, rfl, rfl, .inl ⟨rfl, (if_pos (by first | rfl | trivial)).trans (gdT_none hge)⟩⟩
        case sb => exact (by repeat (first | exact SubB.nil | exact Pick.here | apply Pick.there | apply SubB.emp | apply SubB.cons))
      · skip
        have haL : nx < L.length := by
          have := of_decide_eq_false hc35
          omega
        obtain ⟨bN, offN, capN, c, e1, hcN, hNd⟩ := hL.at_ haL
        simp only [Value.slice.injEq] at e1
        obtain ⟨rfl, _, rfl⟩ := e1
        have hx : L[nx]? = some L[nx] := List.getElem?_eq_getElem haL
        have hkx := hkeys L[nx] (List.getElem_mem haL)
        generalize hxe : L[nx] = x at hNd hx hkx
        obtain ⟨A1, c1, A2, c2, A3, c3, rfl, lk, lv, lc, mk, mv, mc⟩ := NdR.form hNd
        have hNd' := hNd
        obtain ⟨hk, hv, hc⟩ := hNd'
        have hroot : decide ((nx : Int) = 0) = decide (nx = 0) := by
          by_cases h0 : nx = 0
          · subst h0; rfl
          · rw [decide_eq_false h0, decide_eq_false (by omega)]
        refine VL_still rfl rfl rfl (S_move rfl) ?_
        refine VL_still rfl rfl rfl (S_move rfl) ?_
        refine VL_still rfl rfl rfl (S_nil rfl) ?_
        refine VL_still rfl rfl rfl (S_field (k := 0) Try.underlying103 rfl rfl ti41 rfl rfl) ?_
        first | refine VL_still rfl rfl rfl (S_load Try.underlying41 rfl rfl (Cell.trk (by repeat (first | exact Has.here | apply Has.there)) rfl)) ?_ | refine VL_still rfl rfl rfl (S_load Try.underlying41 rfl rfl (Cell.known (by first | assumption | exact (by assumption : Sub _ _) _ _ (by assumption) | exact (Sub.trans (by assumption) (by assumption)) _ _ (by assumption)) rfl)) ?_
        refine VL_still rfl rfl rfl (S_move rfl) ?_
        refine VL_still rfl rfl rfl (X_at nx Try.underlying41 tx108 rfl rfl haL) ?_
        refine VL_still rfl rfl rfl (S_loads (vs := [.slice A1 x.keys.length c1, .slice A2 x.vals.length c2, .slice A3 x.kids.length c3]) Try.underlying108 rfl ti108 rfl rfl (hcN.mono (Sub.refl _) (fun q hq => by simp at hq))) ?_
        refine VL_still rfl rfl rfl (S_move rfl) ?_
        refine VL_still rfl rfl rfl (S_eql rfl rfl) ?_
        refine VL_eff rfl (E_call rfl rfl rfl Try.call70 (fits_con br ((A1, x.keys.length, c1), (A2, x.vals.length, c2), (A3, x.kids.length, c3)) x (decide ((nx : Int) = 0)) h hNd) (by repeat (first | exact Split.nil | exact Pick.here | apply Pick.there | apply Split.cons))) ?_
        rintro _ hh46 _ ⟨v46, nb46, ⟨rfl, rfl, rfl⟩, hs46, rfl, rfl⟩
        refine VL_still rfl rfl rfl (S_not rfl) ?_
        first | refine VL_still rfl rfl rfl (S_pick_t rfl rfl) ?_ | refine VL_still rfl rfl rfl (S_pick_f rfl rfl) ?_
        refine VL_nil ?_
        refine VQ_then ?_
        refine V_cond rfl (fun hc48 => ?_) (fun hc48 => ?_)
        · skip
          have hf : formB x (decide (nx = 0)) = false := by
            rw [hroot] at hc48
            simpa using hc48
          refine V_seq ?_
          refine V_region ?_
          refine VL_still rfl rfl rfl (S_move rfl) ?_
          refine VL_still rfl rfl rfl (S_nil rfl) ?_
          refine VL_still rfl rfl rfl (S_field (k := 4) Try.underlying103 rfl rfl ti4 rfl rfl) ?_
          refine VL_eff rfl (E_store ti4 rfl rfl rfl rfl rfl (by repeat (first | exact Has.here | apply Has.there)) (by repeat (first | exact PutR.nil | exact SetL.here | apply SetL.there | apply PutR.cons)) (by repeat (first | exact UpdG.here | apply UpdG.there))) ?_
          rintro _ _ _ ⟨rfl, rfl, rfl⟩
          refine VL_nil ?_
          refine VQ_then ?_
          refine V_seq ?_
          refine V_region ?_
          refine VL_still rfl rfl rfl (S_struct Try.underlying92 to92 tz92 rfl (by repeat (first | exact BuildR.nil | exact PutR.nil | exact SetL.here | apply SetL.there | apply PutR.cons | apply BuildR.cons rfl (by first | exact ti88 | exact ti89 | exact ti90) rfl rfl rfl))) ?_
          refine VL_eff rfl (E_box rfl rfl rfl) ?_
          rintro _ _ _ ⟨b53, hb53, rfl, rfl, rfl⟩
          refine VL_still rfl rfl rfl (S_assign rfl) ?_
          refine VL_nil ?_
          refine VQ_then ?_
          refine V_ret ?_
          refine VQ_then_ret ?_
          refine VQ_fin1 (nb := [GRd br (.slice (some ⟨bN, offN, none⟩) L.length cap0) (nx : Int) (dv dpo) (ct : Int) true]) (by first | exact .inl rfl | exact .inr rfl) rfl (RV_tmp rfl) ?sb ?po
          case po =>
            exact ⟨_, _, _, _, _, rfl, rfl, .inl ⟨rfl, (if_pos (by first | rfl | trivial)).trans (gdT_form hx hf)⟩⟩
          case sb => exact (by repeat (first | exact SubB.nil | exact Pick.here | apply Pick.there | apply SubB.emp | apply SubB.cons))
        · skip
          have hf : formB x (decide (nx = 0)) = true := by
            rw [hroot] at hc48
            simpa using hc48
          obtain ⟨f1, f2, f3, f4, f5⟩ := formB_spec hf
          refine V_skip ?_
          refine VQ_then ?_
          refine V_seq ?_
          refine V_region ?_
          refine VL_still rfl rfl rfl (S_move rfl) ?_
          refine VL_still rfl rfl rfl (S_nil rfl) ?_
          refine VL_still rfl rfl rfl (S_field (k := 1) Try.underlying103 rfl rfl ti3 rfl rfl) ?_
          first | refine VL_still rfl rfl rfl (S_load Try.underlying3 rfl rfl (Cell.trk (by repeat (first | exact Has.here | apply Has.there)) rfl)) ?_ | refine VL_still rfl rfl rfl (S_load Try.underlying3 rfl rfl (Cell.known (by first | assumption | exact (by assumption : Sub _ _) _ _ (by assumption) | exact (Sub.trans (by assumption) (by assumption)) _ _ (by assumption)) rfl)) ?_
          first | refine VL_still rfl rfl rfl (S_addi rfl rfl (by omega) (by omega)) ?_ | refine VL_still rfl rfl rfl (S_add rfl rfl) ?_
          refine VL_still rfl rfl rfl (S_nil rfl) ?_
          refine VL_still rfl rfl rfl (S_field (k := 1) Try.underlying103 rfl rfl ti3 rfl rfl) ?_
          refine VL_eff rfl (E_store ti3 rfl rfl rfl rfl rfl (by repeat (first | exact Has.here | apply Has.there)) (by repeat (first | exact PutR.nil | exact SetL.here | apply SetL.there | apply PutR.cons)) (by repeat (first | exact UpdG.here | apply UpdG.there))) ?_
          rintro _ _ _ ⟨rfl, rfl, rfl⟩
          refine VL_nil ?_
          refine VQ_then ?_
          refine V_seq ?_
          refine V_region ?_
          refine VL_still rfl rfl rfl (S_move rfl) ?_
          refine VL_still rfl rfl rfl (S_nil rfl) ?_
          refine VL_still rfl rfl rfl (S_field (k := 0) Try.underlying103 rfl rfl ti41 rfl rfl) ?_
          first | refine VL_still rfl rfl rfl (S_load Try.underlying41 rfl rfl (Cell.trk (by repeat (first | exact Has.here | apply Has.there)) rfl)) ?_ | refine VL_still rfl rfl rfl (S_load Try.underlying41 rfl rfl (Cell.known (by first | assumption | exact (by assumption : Sub _ _) _ _ (by assumption) | exact (Sub.trans (by assumption) (by assumption)) _ _ (by assumption)) rfl)) ?_
          refine VL_still rfl rfl rfl (S_move rfl) ?_
          refine VL_still rfl rfl rfl (X_at nx Try.underlying41 tx108 rfl rfl haL) ?_
          refine VL_still rfl rfl rfl (S_loads (vs := [.slice A1 x.keys.length c1, .slice A2 x.vals.length c2, .slice A3 x.kids.length c3]) Try.underlying108 rfl ti108 rfl rfl (hcN.mono (Sub.refl _) (fun q hq => by simp at hq))) ?_
          refine VL_eff rfl (E_alloc rfl tz108) ?_
          rintro _ _ _ ⟨b9, hb9, rfl, rfl, rfl⟩
          refine VL_eff rfl (E_store ti108 rfl rfl rfl rfl rfl (by repeat (first | exact Has.here | apply Has.there)) (by repeat (first | exact PutR.nil | exact SetL.here | apply SetL.there | apply PutR.cons)) (by repeat (first | exact UpdG.here | apply UpdG.there))) ?_
          rintro _ _ _ ⟨rfl, rfl, rfl⟩
          refine VL_nil ?_
          refine VQ_then ?_
          refine V_seq ?_
          refine V_draw _ [[(b9, .cells (List.toArray [.slice A1 x.keys.length c1, .slice A2 x.vals.length c2, .slice A3 x.kids.length c3]) 108 (0, 0))]] 164 Try.mixed (by kernel_rfl) (Sub.refl _) (by repeat (first | exact SubB.nil | exact Pick.here | apply Pick.there | apply SubB.emp | apply SubB.cons)) ?_
          refine VD_still rfl rfl rfl rfl (S_field (k := 0) Try.underlying108 rfl rfl ti88 rfl rfl) ?_
          first | refine VD_still rfl rfl rfl rfl (S_load Try.underlying88 rfl rfl (Cell.trk (by repeat (first | exact Has.here | apply Has.there)) rfl)) ?_ | refine VD_still rfl rfl rfl rfl (S_load Try.underlying88 rfl rfl (Cell.known (by first | assumption | exact (by assumption : Sub _ _) _ _ (by assumption) | exact (Sub.trans (by assumption) (by assumption)) _ _ (by assumption)) rfl)) ?_
          refine VD_eff rfl rfl (E_call rfl rfl rfl Try.call58 (k_clone0 _ x.keys.length (kcs x.keys) h hk (kcE.flat_one _) (by omega)) (by repeat (first | exact Split.nil | exact Pick.here | apply Pick.there | apply Split.cons))) ?_
          rintro _ hh70 _ ⟨v70, nb70, ⟨rfl, G70, hB70, rfl⟩, hs70, rfl, rfl⟩
          obtain ⟨A70, c70, rfl, _, _⟩ := Buf.form hB70
          refine ⟨⟨(by first | exact Sub.refl _ | (first | assumption | (refine Sub.trans (by assumption) ?_; first | assumption | (refine Sub.trans (by assumption) ?_; first | assumption | (refine Sub.trans (by assumption) ?_; first | assumption | (refine Sub.trans (by assumption) ?_; first | assumption | (refine Sub.trans (by assumption) ?_; first | assumption | (refine Sub.trans (by assumption) ?_; first | assumption)))))))), (by repeat (first | exact SubB.nil | exact Pick.here | apply Pick.there | apply SubB.emp | apply SubB.cons))⟩, ?_⟩
          refine VD_still rfl rfl rfl rfl (S_field (k := 1) Try.underlying108 rfl rfl ti89 rfl rfl) ?_
          first | refine VD_still rfl rfl rfl rfl (S_load Try.underlying89 rfl rfl (Cell.trk (by repeat (first | exact Has.here | apply Has.there)) rfl)) ?_ | refine VD_still rfl rfl rfl rfl (S_load Try.underlying89 rfl rfl (Cell.known (by first | assumption | exact (by assumption : Sub _ _) _ _ (by assumption) | exact (Sub.trans (by assumption) (by assumption)) _ _ (by assumption)) rfl)) ?_
          refine VD_eff rfl rfl (E_call rfl rfl rfl Try.call59 (x_clone0 _ x.vals.length (xcs x.vals) h hv (xcE.flat_one _) (by omega)) (by repeat (first | exact Split.nil | exact Pick.here | apply Pick.there | apply Split.cons))) ?_
          rintro _ hh73 _ ⟨v73, nb73, ⟨rfl, G73, hB73, rfl⟩, hs73, rfl, rfl⟩
          obtain ⟨A73, c73, rfl, _, _⟩ := Buf.form hB73
          refine ⟨⟨(by first | exact Sub.refl _ | (first | assumption | (refine Sub.trans (by assumption) ?_; first | assumption | (refine Sub.trans (by assumption) ?_; first | assumption | (refine Sub.trans (by assumption) ?_; first | assumption | (refine Sub.trans (by assumption) ?_; first | assumption | (refine Sub.trans (by assumption) ?_; first | assumption | (refine Sub.trans (by assumption) ?_; first | assumption)))))))), (by repeat (first | exact SubB.nil | exact Pick.here | apply Pick.there | apply SubB.emp | apply SubB.cons))⟩, ?_⟩
          refine VD_still rfl rfl rfl rfl (S_struct Try.underlying92 to92 tz92 rfl (by repeat (first | exact BuildR.nil | exact PutR.nil | exact SetL.here | apply SetL.there | apply PutR.cons | apply BuildR.cons rfl (by first | exact ti88 | exact ti89 | exact ti90) rfl rfl rfl))) ?_
          refine VD_eff rfl rfl (E_box rfl rfl rfl) ?_
          rintro _ _ _ ⟨b75, hb75, rfl, rfl, rfl⟩
          refine ⟨⟨(by first | exact Sub.refl _ | (first | assumption | (refine Sub.trans (by assumption) ?_; first | assumption | (refine Sub.trans (by assumption) ?_; first | assumption | (refine Sub.trans (by assumption) ?_; first | assumption | (refine Sub.trans (by assumption) ?_; first | assumption | (refine Sub.trans (by assumption) ?_; first | assumption | (refine Sub.trans (by assumption) ?_; first | assumption)))))))), (by repeat (first | exact SubB.nil | exact Pick.here | apply Pick.there | apply SubB.emp | apply SubB.cons))⟩, ?_⟩
          refine VD_still rfl rfl rfl rfl (S_assign rfl) ?_
          refine VD_nil ?_
          refine VQ_then ?_
          refine V_seq ?_
          refine V_region ?_
          refine VL_still rfl rfl rfl (S_move rfl) ?_
          refine VL_still rfl rfl rfl (S_move rfl) ?_
          refine VL_still rfl rfl rfl (S_nil rfl) ?_
          refine VL_still rfl rfl rfl (S_field (k := 4) Try.underlying103 rfl rfl ti4 rfl rfl) ?_
          first | refine VL_still rfl rfl rfl (S_load Try.underlying4 rfl rfl (Cell.trk (by repeat (first | exact Has.here | apply Has.there)) rfl)) ?_ | refine VL_still rfl rfl rfl (S_load Try.underlying4 rfl rfl (Cell.known (by first | assumption | exact (by assumption : Sub _ _) _ _ (by assumption) | exact (Sub.trans (by assumption) (by assumption)) _ _ (by assumption)) rfl)) ?_
          refine VL_still rfl rfl rfl (S_move rfl) ?_
          refine VL_bool 81 rfl (fun hc81 => ?_) (fun hc81 => ?_)
          · skip
            cases hc81
          · skip
            refine VL_still rfl rfl rfl (S_field (k := 0) Try.underlying108 rfl rfl ti88 rfl rfl) ?_
            first | refine VL_still rfl rfl rfl (S_load Try.underlying88 rfl rfl (Cell.trk (by repeat (first | exact Has.here | apply Has.there)) rfl)) ?_ | refine VL_still rfl rfl rfl (S_load Try.underlying88 rfl rfl (Cell.known (by first | assumption | exact (by assumption : Sub _ _) _ _ (by assumption) | exact (Sub.trans (by assumption) (by assumption)) _ _ (by assumption)) rfl)) ?_
            first | refine VL_still rfl rfl rfl (S_loads Try.underlying106 rfl ti106 rfl rfl (Cells.known (by first | assumption | exact (by assumption : Sub _ _) _ _ (by assumption) | exact (Sub.trans (by assumption) (by assumption)) _ _ (by assumption)))) ?_ | refine VL_still rfl rfl rfl (S_loads Try.underlying106 rfl ti106 rfl rfl (Cells.all (by repeat (first | exact Has.here | apply Has.there)))) ?_ | refine VL_still rfl rfl rfl (S_loads Try.underlying106 rfl ti106 rfl rfl (Cells.trk (by repeat (first | exact Has.here | apply Has.there)) (by repeat (first | exact TakeR.here (by repeat (first | exact HeadR.nil | apply HeadR.cons)) | apply TakeR.there)))) ?_
            refine VL_still rfl rfl rfl (S_fn rfl rfl) ?_
            refine VL_eff rfl (E_call rfl rfl rfl Try.call71 (haso_con _ x.keys l u bl bu h hk (by omega)) (by repeat (first | exact Split.nil | exact Pick.here | apply Pick.there | apply Split.cons))) ?_
            rintro _ hh86 _ ⟨v86, nb86, ⟨rfl, rfl, rfl⟩, hs86, rfl, rfl⟩
            first | refine VL_still rfl rfl rfl (S_pick_t rfl rfl) ?_ | refine VL_still rfl rfl rfl (S_pick_f rfl rfl) ?_
            refine VL_still rfl rfl rfl (S_nil rfl) ?_
            refine VL_still rfl rfl rfl (S_field (k := 4) Try.underlying103 rfl rfl ti4 rfl rfl) ?_
            refine VL_eff rfl (E_store ti4 rfl rfl rfl rfl rfl (by repeat (first | exact Has.here | apply Has.there)) (by repeat (first | exact PutR.nil | exact SetL.here | apply SetL.there | apply PutR.cons)) (by repeat (first | exact UpdG.here | apply UpdG.there))) ?_
            rintro _ _ _ ⟨rfl, rfl, rfl⟩
            refine VL_nil ?_
            refine VQ_then ?_
            refine V_seq ?_
            refine V_seq ?_
            have hany := any_eq (l := l) (u := u) (bl := bl) (bu := bu) hkx
            generalize hob : x.keys.any (outB l u bl bu) = ob
            refine V_region ?_
            refine VL_still rfl rfl rfl (S_field (k := 2) Try.underlying108 rfl rfl ti71 rfl rfl) ?_
            first | refine VL_still rfl rfl rfl (S_load Try.underlying71 rfl rfl (Cell.trk (by repeat (first | exact Has.here | apply Has.there)) rfl)) ?_ | refine VL_still rfl rfl rfl (S_load Try.underlying71 rfl rfl (Cell.known (by first | assumption | exact (by assumption : Sub _ _) _ _ (by assumption) | exact (Sub.trans (by assumption) (by assumption)) _ _ (by assumption)) rfl)) ?_
            refine VL_still rfl rfl rfl (S_len Try.underlying71 rfl) ?_
            refine VL_still rfl rfl rfl (S_eql rfl rfl) ?_
            refine VL_nil ?_
            refine VQ_then ?_
            refine V_cond rfl (fun hc93 => ?_) (fun hc93 => ?_)
            · skip
              have hk0 : x.kids.length = 0 := by
                have := of_decide_eq_true hc93
                omega
              have hvl := f4 hk0
              refine V_seq ?_
              refine V_seq ?_
              refine V_region ?_
              refine VL_still rfl rfl rfl (S_move rfl) ?_
              refine VL_still rfl rfl rfl (S_nil rfl) ?_
              refine VL_still rfl rfl rfl (S_field (k := 2) Try.underlying103 rfl rfl ti3 rfl rfl) ?_
              first | refine VL_still rfl rfl rfl (S_load Try.underlying3 rfl rfl (Cell.trk (by repeat (first | exact Has.here | apply Has.there)) rfl)) ?_ | refine VL_still rfl rfl rfl (S_load Try.underlying3 rfl rfl (Cell.known (by first | assumption | exact (by assumption : Sub _ _) _ _ (by assumption) | exact (Sub.trans (by assumption) (by assumption)) _ _ (by assumption)) rfl)) ?_
              refine VL_still rfl rfl rfl (S_lss rfl rfl) ?_
              refine VL_nil ?_
              refine VQ_then ?_
              refine V_cond rfl (fun hc98 => ?_) (fun hc98 => ?_)
              · skip
                have hdn : dpo = none := by
                  cases dpo with
                  | none => rfl
                  | some D0 => have := of_decide_eq_true hc98; simp [dv] at this; omega
                subst hdn
                refine V_region ?_
                refine VL_still rfl rfl rfl (S_move rfl) ?_
                refine VL_still rfl rfl rfl (S_move rfl) ?_
                refine VL_still rfl rfl rfl (S_nil rfl) ?_
                refine VL_still rfl rfl rfl (S_field (k := 2) Try.underlying103 rfl rfl ti3 rfl rfl) ?_
                refine VL_eff rfl (E_store ti3 rfl rfl rfl rfl rfl (by repeat (first | exact Has.here | apply Has.there)) (by repeat (first | exact PutR.nil | exact SetL.here | apply SetL.there | apply PutR.cons)) (by repeat (first | exact UpdG.here | apply UpdG.there))) ?_
                rintro _ _ _ ⟨rfl, rfl, rfl⟩
                refine VL_nil ?_
                refine VQ_then ?_
                refine V_seq ?_
                refine V_region ?_
                refine VL_still rfl rfl rfl (S_move rfl) ?_
                refine VL_still rfl rfl rfl (S_move rfl) ?_
                refine VL_still rfl rfl rfl (S_nil rfl) ?_
                refine VL_still rfl rfl rfl (S_field (k := 4) Try.underlying103 rfl rfl ti4 rfl rfl) ?_
                first | refine VL_still rfl rfl rfl (S_load Try.underlying4 rfl rfl (Cell.trk (by repeat (first | exact Has.here | apply Has.there)) rfl)) ?_ | refine VL_still rfl rfl rfl (S_load Try.underlying4 rfl rfl (Cell.known (by first | assumption | exact (by assumption : Sub _ _) _ _ (by assumption) | exact (Sub.trans (by assumption) (by assumption)) _ _ (by assumption)) rfl)) ?_
                refine VL_still rfl rfl rfl (S_move rfl) ?_
                refine VL_bool 108 rfl (fun hc108 => ?_) (fun hc108 => ?_)
                · skip
                  refine VL_skip rfl rfl rfl ?_
                  refine VL_skip rfl rfl rfl ?_
                  refine VL_skip rfl rfl rfl ?_
                  refine VL_skip rfl rfl rfl ?_
                  refine VL_skip rfl rfl rfl ?_
                  refine VL_skip rfl rfl rfl ?_
                  first | refine VL_still rfl rfl rfl (S_pick_t rfl rfl) ?_ | refine VL_still rfl rfl rfl (S_pick_f rfl rfl) ?_
                  refine VL_still rfl rfl rfl (S_nil rfl) ?_
                  refine VL_still rfl rfl rfl (S_field (k := 4) Try.underlying103 rfl rfl ti4 rfl rfl) ?_
                  refine VL_eff rfl (E_store ti4 rfl rfl rfl rfl rfl (by repeat (first | exact Has.here | apply Has.there)) (by repeat (first | exact PutR.nil | exact SetL.here | apply SetL.there | apply PutR.cons)) (by repeat (first | exact UpdG.here | apply UpdG.there))) ?_
                  rintro _ _ _ ⟨rfl, rfl, rfl⟩
                  refine VL_nil ?_
                  refine VQ_then ?_
                  refine V_seq ?_
                  refine V_drawL _ _ 1024 Try.mixed (by kernel_rfl) (by kernel_rfl) (Sub.refl _) (SubB.refl _) ?_
                  refine VD_still rfl rfl rfl rfl (S_move rfl) ?_
                  refine VD_still rfl rfl rfl rfl (S_nil rfl) ?_
                  refine VD_still rfl rfl rfl rfl (S_field (k := 3) Try.underlying103 rfl rfl ti3 rfl rfl) ?_
                  first | refine VD_still rfl rfl rfl rfl (S_load Try.underlying3 rfl rfl (Cell.trk (by repeat (first | exact Has.here | apply Has.there)) rfl)) ?_ | refine VD_still rfl rfl rfl rfl (S_load Try.underlying3 rfl rfl (Cell.known (by first | assumption | exact (by assumption : Sub _ _) _ _ (by assumption) | exact (Sub.trans (by assumption) (by assumption)) _ _ (by assumption)) rfl)) ?_
                  refine VD_still rfl rfl rfl rfl (S_field (k := 0) Try.underlying108 rfl rfl ti88 rfl rfl) ?_
                  first | refine VD_still rfl rfl rfl rfl (S_load Try.underlying88 rfl rfl (Cell.trk (by repeat (first | exact Has.here | apply Has.there)) rfl)) ?_ | refine VD_still rfl rfl rfl rfl (S_load Try.underlying88 rfl rfl (Cell.known (by first | assumption | exact (by assumption : Sub _ _) _ _ (by assumption) | exact (Sub.trans (by assumption) (by assumption)) _ _ (by assumption)) rfl)) ?_
                  refine VD_still rfl rfl rfl rfl (S_len Try.underlying88 rfl) ?_
                  first | refine VD_still rfl rfl rfl rfl (S_addi rfl rfl (by omega) (by omega)) ?_ | refine VD_still rfl rfl rfl rfl (S_add rfl rfl) ?_
                  refine VD_still rfl rfl rfl rfl (S_nil rfl) ?_
                  refine VD_still rfl rfl rfl rfl (S_field (k := 3) Try.underlying103 rfl rfl ti3 rfl rfl) ?_
                  refine VD_last rfl rfl (E_store ti3 rfl rfl rfl rfl rfl (by repeat (first | exact Has.here | apply Has.there)) (by repeat (first | exact PutR.nil | exact SetL.here | apply SetL.there | apply PutR.cons)) (by repeat (first | exact UpdG.here | apply UpdG.there))) ?_
                  rintro _ _ _ ⟨rfl, rfl, rfl⟩
                  refine VQ_then ?_
                  refine V_seq ?_
                  refine V_region ?_
                  refine VL_still rfl rfl rfl (S_move rfl) ?_
                  refine VL_still rfl rfl rfl (S_assign rfl) ?_
                  refine VL_nil ?_
                  refine VQ_then ?_
                  refine V_ret ?_
                  refine VQ_then_ret ?_
                  refine VQ_keeps (blA := [GN b75 (.slice A70 x.keys.length c70) (.slice A73 x.vals.length c73) (.slice none 0 0), G70, G73]) (by repeat (first | exact Split.nil | exact Pick.here | apply Pick.there | apply Split.cons)) (fun h2 sh2 kh2 => ?_)
                  obtain ⟨q1, q2, q3, _⟩ := kh2
                  refine VQ_fin1 (nb := [GRd br (.slice (some ⟨bN, offN, none⟩) L.length cap0) ((nx : Int) + 1) (depth : Int) ((ct : Int) + x.keys.length) true]) (by first | exact .inl rfl | exact .inr rfl) rfl (RV_tmp rfl) ?sb ?po
                  case po =>
                    exact ⟨_, _, _, _, _, rfl, rfl, .inl ⟨rfl, (if_pos (by first | rfl | trivial)).trans (gdT_out hx (by rw [← hany, hob, hc108]))⟩⟩
                  case sb => exact (by repeat (first | exact SubB.nil | exact Pick.here | apply Pick.there | apply SubB.emp | apply SubB.cons))
                · skip
                  refine VL_still rfl rfl rfl (S_move rfl) ?_
                  refine VL_still rfl rfl rfl (S_nil rfl) ?_
                  refine VL_still rfl rfl rfl (S_field (k := 2) Try.underlying103 rfl rfl ti3 rfl rfl) ?_
                  first | refine VL_still rfl rfl rfl (S_load Try.underlying3 rfl rfl (Cell.trk (by repeat (first | exact Has.here | apply Has.there)) rfl)) ?_ | refine VL_still rfl rfl rfl (S_load Try.underlying3 rfl rfl (Cell.known (by first | assumption | exact (by assumption : Sub _ _) _ _ (by assumption) | exact (Sub.trans (by assumption) (by assumption)) _ _ (by assumption)) rfl)) ?_
                  refine VL_still rfl rfl rfl (S_move rfl) ?_
                  refine VL_still rfl rfl rfl (S_neq rfl rfl) ?_
                  first | refine VL_still rfl rfl rfl (S_pick_t rfl rfl) ?_ | refine VL_still rfl rfl rfl (S_pick_f rfl rfl) ?_
                  refine VL_still rfl rfl rfl (S_nil rfl) ?_
                  refine VL_still rfl rfl rfl (S_field (k := 4) Try.underlying103 rfl rfl ti4 rfl rfl) ?_
                  refine VL_eff rfl (E_store ti4 rfl rfl rfl rfl rfl (by repeat (first | exact Has.here | apply Has.there)) (by repeat (first | exact PutR.nil | exact SetL.here | apply SetL.there | apply PutR.cons)) (by repeat (first | exact UpdG.here | apply UpdG.there))) ?_
                  rintro _ _ _ ⟨rfl, rfl, rfl⟩
                  refine VL_nil ?_
                  refine VQ_then ?_
                  refine V_seq ?_
                  refine V_drawL _ _ 1024 Try.mixed (by kernel_rfl) (by kernel_rfl) (Sub.refl _) (SubB.refl _) ?_
                  refine VD_still rfl rfl rfl rfl (S_move rfl) ?_
                  refine VD_still rfl rfl rfl rfl (S_nil rfl) ?_
                  refine VD_still rfl rfl rfl rfl (S_field (k := 3) Try.underlying103 rfl rfl ti3 rfl rfl) ?_
                  first | refine VD_still rfl rfl rfl rfl (S_load Try.underlying3 rfl rfl (Cell.trk (by repeat (first | exact Has.here | apply Has.there)) rfl)) ?_ | refine VD_still rfl rfl rfl rfl (S_load Try.underlying3 rfl rfl (Cell.known (by first | assumption | exact (by assumption : Sub _ _) _ _ (by assumption) | exact (Sub.trans (by assumption) (by assumption)) _ _ (by assumption)) rfl)) ?_
                  refine VD_still rfl rfl rfl rfl (S_field (k := 0) Try.underlying108 rfl rfl ti88 rfl rfl) ?_
                  first | refine VD_still rfl rfl rfl rfl (S_load Try.underlying88 rfl rfl (Cell.trk (by repeat (first | exact Has.here | apply Has.there)) rfl)) ?_ | refine VD_still rfl rfl rfl rfl (S_load Try.underlying88 rfl rfl (Cell.known (by first | assumption | exact (by assumption : Sub _ _) _ _ (by assumption) | exact (Sub.trans (by assumption) (by assumption)) _ _ (by assumption)) rfl)) ?_
                  refine VD_still rfl rfl rfl rfl (S_len Try.underlying88 rfl) ?_
                  first | refine VD_still rfl rfl rfl rfl (S_addi rfl rfl (by omega) (by omega)) ?_ | refine VD_still rfl rfl rfl rfl (S_add rfl rfl) ?_
                  refine VD_still rfl rfl rfl rfl (S_nil rfl) ?_
                  refine VD_still rfl rfl rfl rfl (S_field (k := 3) Try.underlying103 rfl rfl ti3 rfl rfl) ?_
                  refine VD_last rfl rfl (E_store ti3 rfl rfl rfl rfl rfl (by repeat (first | exact Has.here | apply Has.there)) (by repeat (first | exact PutR.nil | exact SetL.here | apply SetL.there | apply PutR.cons)) (by repeat (first | exact UpdG.here | apply UpdG.there))) ?_
                  rintro _ _ _ ⟨rfl, rfl, rfl⟩
                  refine VQ_then ?_
                  refine V_seq ?_
                  refine V_region ?_
                  refine VL_still rfl rfl rfl (S_move rfl) ?_
                  refine VL_still rfl rfl rfl (S_assign rfl) ?_
                  refine VL_nil ?_
                  refine VQ_then ?_
                  refine V_ret ?_
                  refine VQ_then_ret ?_
                  refine VQ_keeps (blA := [GN b75 (.slice A70 x.keys.length c70) (.slice A73 x.vals.length c73) (.slice none 0 0), G70, G73]) (by repeat (first | exact Split.nil | exact Pick.here | apply Pick.there | apply Split.cons)) (fun h2 sh2 kh2 => ?_)
                  obtain ⟨q1, q2, q3, _⟩ := kh2
                  refine VQ_fin1 (nb := [GRd br (.slice (some ⟨bN, offN, none⟩) L.length cap0) ((nx : Int) + 1) (depth : Int) ((ct : Int) + x.keys.length) (!decide ((depth : Int) = depth))]) (by first | exact .inl rfl | exact .inr rfl) rfl (RV_tmp rfl) ?sb ?po
                  case po =>
                    have hz : keysP (x.keys.zip x.vals) = x.keys := List.map_fst_zip (by rw [hvl]; exact Nat.le_refl _)
                    have hz2 : (x.keys.zip x.vals).map (fun p => p.2) = x.vals := List.map_snd_zip (by rw [hvl]; exact Nat.le_refl _)
                    have hzl : (x.keys.zip x.vals).length = x.keys.length := by rw [List.length_zip, hvl, Nat.min_self]
                    have hR : Rp h2 0 b75 (.leaf (x.keys.zip x.vals)) := by
                      show NodeAt h2 b75 (keysP (x.keys.zip x.vals)) ((x.keys.zip x.vals).map (fun p => p.2)) []
                      rw [hz, hz2]
                      exact NodeAt.own q1 q2 q3 (fun q hq => by simp at hq) hB70 hB73 (Buf.nil _ _)
                    refine ⟨_, _, _, _, _, rfl, rfl, .inr ⟨1, _, depth, 0, by simp, (if_pos (by first | rfl | trivial)).trans ((gdT_leaf hx hf (by rw [← hany, hob, hc108]) hk0).trans (if_pos (.inl rfl))), rfl, rfl, rfl, ?_, hR⟩⟩
                    show (ct : Int) + x.keys.length = ((ct + (x.keys.zip x.vals).length : Nat) : Int)
                    rw [hzl]; rfl
                  case sb => exact (by repeat (first | exact SubB.nil | exact Pick.here | apply Pick.there | apply SubB.emp | apply SubB.cons))
              · skip
                obtain ⟨D0, rfl⟩ : ∃ D0, dpo = some D0 := by
                  cases dpo with
                  | none => simp [dv] at hc98
                  | some D0 => exact ⟨D0, rfl⟩
                refine V_skip ?_
                refine VQ_then ?_
                refine V_seq ?_
                refine V_region ?_
                refine VL_still rfl rfl rfl (S_move rfl) ?_
                refine VL_still rfl rfl rfl (S_move rfl) ?_
                refine VL_still rfl rfl rfl (S_nil rfl) ?_
                refine VL_still rfl rfl rfl (S_field (k := 4) Try.underlying103 rfl rfl ti4 rfl rfl) ?_
                first | refine VL_still rfl rfl rfl (S_load Try.underlying4 rfl rfl (Cell.trk (by repeat (first | exact Has.here | apply Has.there)) rfl)) ?_ | refine VL_still rfl rfl rfl (S_load Try.underlying4 rfl rfl (Cell.known (by first | assumption | exact (by assumption : Sub _ _) _ _ (by assumption) | exact (Sub.trans (by assumption) (by assumption)) _ _ (by assumption)) rfl)) ?_
                refine VL_still rfl rfl rfl (S_move rfl) ?_
                refine VL_bool 108 rfl (fun hc108 => ?_) (fun hc108 => ?_)
                · skip
                  refine VL_skip rfl rfl rfl ?_
                  refine VL_skip rfl rfl rfl ?_
                  refine VL_skip rfl rfl rfl ?_
                  refine VL_skip rfl rfl rfl ?_
                  refine VL_skip rfl rfl rfl ?_
                  refine VL_skip rfl rfl rfl ?_
                  first | refine VL_still rfl rfl rfl (S_pick_t rfl rfl) ?_ | refine VL_still rfl rfl rfl (S_pick_f rfl rfl) ?_
                  refine VL_still rfl rfl rfl (S_nil rfl) ?_
                  refine VL_still rfl rfl rfl (S_field (k := 4) Try.underlying103 rfl rfl ti4 rfl rfl) ?_
                  refine VL_eff rfl (E_store ti4 rfl rfl rfl rfl rfl (by repeat (first | exact Has.here | apply Has.there)) (by repeat (first | exact PutR.nil | exact SetL.here | apply SetL.there | apply PutR.cons)) (by repeat (first | exact UpdG.here | apply UpdG.there))) ?_
                  rintro _ _ _ ⟨rfl, rfl, rfl⟩
                  refine VL_nil ?_
                  refine VQ_then ?_
                  refine V_seq ?_
                  refine V_drawL _ _ 1024 Try.mixed (by kernel_rfl) (by kernel_rfl) (Sub.refl _) (SubB.refl _) ?_
                  refine VD_still rfl rfl rfl rfl (S_move rfl) ?_
                  refine VD_still rfl rfl rfl rfl (S_nil rfl) ?_
                  refine VD_still rfl rfl rfl rfl (S_field (k := 3) Try.underlying103 rfl rfl ti3 rfl rfl) ?_
                  first | refine VD_still rfl rfl rfl rfl (S_load Try.underlying3 rfl rfl (Cell.trk (by repeat (first | exact Has.here | apply Has.there)) rfl)) ?_ | refine VD_still rfl rfl rfl rfl (S_load Try.underlying3 rfl rfl (Cell.known (by first | assumption | exact (by assumption : Sub _ _) _ _ (by assumption) | exact (Sub.trans (by assumption) (by assumption)) _ _ (by assumption)) rfl)) ?_
                  refine VD_still rfl rfl rfl rfl (S_field (k := 0) Try.underlying108 rfl rfl ti88 rfl rfl) ?_
                  first | refine VD_still rfl rfl rfl rfl (S_load Try.underlying88 rfl rfl (Cell.trk (by repeat (first | exact Has.here | apply Has.there)) rfl)) ?_ | refine VD_still rfl rfl rfl rfl (S_load Try.underlying88 rfl rfl (Cell.known (by first | assumption | exact (by assumption : Sub _ _) _ _ (by assumption) | exact (Sub.trans (by assumption) (by assumption)) _ _ (by assumption)) rfl)) ?_
                  refine VD_still rfl rfl rfl rfl (S_len Try.underlying88 rfl) ?_
                  first | refine VD_still rfl rfl rfl rfl (S_addi rfl rfl (by omega) (by omega)) ?_ | refine VD_still rfl rfl rfl rfl (S_add rfl rfl) ?_
                  refine VD_still rfl rfl rfl rfl (S_nil rfl) ?_
                  refine VD_still rfl rfl rfl rfl (S_field (k := 3) Try.underlying103 rfl rfl ti3 rfl rfl) ?_
                  refine VD_last rfl rfl (E_store ti3 rfl rfl rfl rfl rfl (by repeat (first | exact Has.here | apply Has.there)) (by repeat (first | exact PutR.nil | exact SetL.here | apply SetL.there | apply PutR.cons)) (by repeat (first | exact UpdG.here | apply UpdG.there))) ?_
                  rintro _ _ _ ⟨rfl, rfl, rfl⟩
                  refine VQ_then ?_
                  refine V_seq ?_
                  refine V_region ?_
                  refine VL_still rfl rfl rfl (S_move rfl) ?_
                  refine VL_still rfl rfl rfl (S_assign rfl) ?_
                  refine VL_nil ?_
                  refine VQ_then ?_
                  refine V_ret ?_
                  refine VQ_then_ret ?_
                  refine VQ_keeps (blA := [GN b75 (.slice A70 x.keys.length c70) (.slice A73 x.vals.length c73) (.slice none 0 0), G70, G73]) (by repeat (first | exact Split.nil | exact Pick.here | apply Pick.there | apply Split.cons)) (fun h2 sh2 kh2 => ?_)
                  obtain ⟨q1, q2, q3, _⟩ := kh2
                  refine VQ_fin1 (nb := [GRd br (.slice (some ⟨bN, offN, none⟩) L.length cap0) ((nx : Int) + 1) (dv (some D0)) ((ct : Int) + x.keys.length) true]) (by first | exact .inl rfl | exact .inr rfl) rfl (RV_tmp rfl) ?sb ?po
                  case po =>
                    exact ⟨_, _, _, _, _, rfl, rfl, .inl ⟨rfl, (if_pos (by first | rfl | trivial)).trans (gdT_out hx (by rw [← hany, hob, hc108]))⟩⟩
                  case sb => exact (by repeat (first | exact SubB.nil | exact Pick.here | apply Pick.there | apply SubB.emp | apply SubB.cons))
                · skip
                  refine VL_still rfl rfl rfl (S_move rfl) ?_
                  refine VL_still rfl rfl rfl (S_nil rfl) ?_
                  refine VL_still rfl rfl rfl (S_field (k := 2) Try.underlying103 rfl rfl ti3 rfl rfl) ?_
                  first | refine VL_still rfl rfl rfl (S_load Try.underlying3 rfl rfl (Cell.trk (by repeat (first | exact Has.here | apply Has.there)) rfl)) ?_ | refine VL_still rfl rfl rfl (S_load Try.underlying3 rfl rfl (Cell.known (by first | assumption | exact (by assumption : Sub _ _) _ _ (by assumption) | exact (Sub.trans (by assumption) (by assumption)) _ _ (by assumption)) rfl)) ?_
                  refine VL_still rfl rfl rfl (S_move rfl) ?_
                  refine VL_still rfl rfl rfl (S_neq rfl rfl) ?_
                  first | refine VL_still rfl rfl rfl (S_pick_t rfl rfl) ?_ | refine VL_still rfl rfl rfl (S_pick_f rfl rfl) ?_
                  refine VL_still rfl rfl rfl (S_nil rfl) ?_
                  refine VL_still rfl rfl rfl (S_field (k := 4) Try.underlying103 rfl rfl ti4 rfl rfl) ?_
                  refine VL_eff rfl (E_store ti4 rfl rfl rfl rfl rfl (by repeat (first | exact Has.here | apply Has.there)) (by repeat (first | exact PutR.nil | exact SetL.here | apply SetL.there | apply PutR.cons)) (by repeat (first | exact UpdG.here | apply UpdG.there))) ?_
                  rintro _ _ _ ⟨rfl, rfl, rfl⟩
                  refine VL_nil ?_
                  refine VQ_then ?_
                  refine V_seq ?_
                  refine V_drawL _ _ 1024 Try.mixed (by kernel_rfl) (by kernel_rfl) (Sub.refl _) (SubB.refl _) ?_
                  refine VD_still rfl rfl rfl rfl (S_move rfl) ?_
                  refine VD_still rfl rfl rfl rfl (S_nil rfl) ?_
                  refine VD_still rfl rfl rfl rfl (S_field (k := 3) Try.underlying103 rfl rfl ti3 rfl rfl) ?_
                  first | refine VD_still rfl rfl rfl rfl (S_load Try.underlying3 rfl rfl (Cell.trk (by repeat (first | exact Has.here | apply Has.there)) rfl)) ?_ | refine VD_still rfl rfl rfl rfl (S_load Try.underlying3 rfl rfl (Cell.known (by first | assumption | exact (by assumption : Sub _ _) _ _ (by assumption) | exact (Sub.trans (by assumption) (by assumption)) _ _ (by assumption)) rfl)) ?_
                  refine VD_still rfl rfl rfl rfl (S_field (k := 0) Try.underlying108 rfl rfl ti88 rfl rfl) ?_
                  first | refine VD_still rfl rfl rfl rfl (S_load Try.underlying88 rfl rfl (Cell.trk (by repeat (first | exact Has.here | apply Has.there)) rfl)) ?_ | refine VD_still rfl rfl rfl rfl (S_load Try.underlying88 rfl rfl (Cell.known (by first | assumption | exact (by assumption : Sub _ _) _ _ (by assumption) | exact (Sub.trans (by assumption) (by assumption)) _ _ (by assumption)) rfl)) ?_
                  refine VD_still rfl rfl rfl rfl (S_len Try.underlying88 rfl) ?_
                  first | refine VD_still rfl rfl rfl rfl (S_addi rfl rfl (by omega) (by omega)) ?_ | refine VD_still rfl rfl rfl rfl (S_add rfl rfl) ?_
                  refine VD_still rfl rfl rfl rfl (S_nil rfl) ?_
                  refine VD_still rfl rfl rfl rfl (S_field (k := 3) Try.underlying103 rfl rfl ti3 rfl rfl) ?_
                  refine VD_last rfl rfl (E_store ti3 rfl rfl rfl rfl rfl (by repeat (first | exact Has.here | apply Has.there)) (by repeat (first | exact PutR.nil | exact SetL.here | apply SetL.there | apply PutR.cons)) (by repeat (first | exact UpdG.here | apply UpdG.there))) ?_
                  rintro _ _ _ ⟨rfl, rfl, rfl⟩
                  refine VQ_then ?_
                  refine V_seq ?_
                  refine V_region ?_
                  refine VL_still rfl rfl rfl (S_move rfl) ?_
                  refine VL_still rfl rfl rfl (S_assign rfl) ?_
                  refine VL_nil ?_
                  refine VQ_then ?_
                  refine V_ret ?_
                  refine VQ_then_ret ?_
                  refine VQ_keeps (blA := [GN b75 (.slice A70 x.keys.length c70) (.slice A73 x.vals.length c73) (.slice none 0 0), G70, G73]) (by repeat (first | exact Split.nil | exact Pick.here | apply Pick.there | apply Split.cons)) (fun h2 sh2 kh2 => ?_)
                  obtain ⟨q1, q2, q3, _⟩ := kh2
                  refine VQ_fin1 (nb := [GRd br (.slice (some ⟨bN, offN, none⟩) L.length cap0) ((nx : Int) + 1) (dv (some D0)) ((ct : Int) + x.keys.length) (!decide (dv (some D0) = (depth : Int)))]) (by first | exact .inl rfl | exact .inr rfl) rfl (RV_tmp rfl) ?sb ?po
                  case po =>
                    have hz : keysP (x.keys.zip x.vals) = x.keys := List.map_fst_zip (by rw [hvl]; exact Nat.le_refl _)
                    have hz2 : (x.keys.zip x.vals).map (fun p => p.2) = x.vals := List.map_snd_zip (by rw [hvl]; exact Nat.le_refl _)
                    have hzl : (x.keys.zip x.vals).length = x.keys.length := by rw [List.length_zip, hvl, Nat.min_self]
                    have hR : Rp h2 0 b75 (.leaf (x.keys.zip x.vals)) := by
                      show NodeAt h2 b75 (keysP (x.keys.zip x.vals)) ((x.keys.zip x.vals).map (fun p => p.2)) []
                      rw [hz, hz2]
                      exact NodeAt.own q1 q2 q3 (fun q hq => by simp at hq) hB70 hB73 (Buf.nil _ _)
                    by_cases hD : D0 = depth
                    · subst hD
                      refine ⟨_, _, _, _, _, rfl, rfl, .inr ⟨1, _, D0, 0, by simp [dv], (if_pos (by first | rfl | trivial)).trans ((gdT_leaf hx hf (by rw [← hany, hob, hc108]) hk0).trans (if_pos (.inr rfl))), rfl, rfl, rfl, ?_, hR⟩⟩
                      show (ct : Int) + x.keys.length = ((ct + (x.keys.zip x.vals).length : Nat) : Int)
                      rw [hzl]; rfl
                    · refine ⟨_, _, _, _, _, rfl, rfl, .inl ⟨?_, (if_pos (by first | rfl | trivial)).trans ((gdT_leaf hx hf (by rw [← hany, hob, hc108]) hk0).trans (if_neg ?_))⟩⟩
                      · have : ¬ (D0 : Int) = depth := by omega
                        rw [decide_eq_false (show ¬ dv (some D0) = (depth : Int) from this)]; rfl
                      · rintro (e | e)
                        · cases e
                        · exact hD (Option.some.inj e)
                  case sb => exact (by repeat (first | exact SubB.nil | exact Pick.here | apply Pick.there | apply SubB.emp | apply SubB.cons))
            · skip
              have hk0 : ¬ x.kids.length = 0 := by
                have := of_decide_eq_false hc93
                omega
              obtain ⟨g1, g2, g3⟩ := f5 hk0
              have hst0 : NSt (gdT n L (depth + 1)) L x (loB l bl) (hiB u bu) nx depth ct (gdT (n + 1) L depth nx dpo (loB l bl) (hiB u bu)) h 0 ((nx : Int) + 1) (dv dpo) (ct : Int) ob [] := by
                cases ob with
                | true => exact .inl ⟨rfl, gdT_out hx (by rw [← hany, hob])⟩
                | false => exact .inr ⟨rfl, 1, dpo, [], 0, rfl, rfl, rfl, Nat.le_refl _, by omega, by simp, (gdT_node hx hf (by rw [← hany, hob]) hk0).symm, .nil, .inl rfl, rfl⟩
              refine V_skip ?_
              refine VQ_then ?_
              refine V_seq ?_
              refine V_seq ?_
              refine V_region ?_
              refine VL_still rfl rfl rfl (S_field (k := 2) Try.underlying108 rfl rfl ti71 rfl rfl) ?_
              first | refine VL_still rfl rfl rfl (S_load Try.underlying71 rfl rfl (Cell.trk (by repeat (first | exact Has.here | apply Has.there)) rfl)) ?_ | refine VL_still rfl rfl rfl (S_load Try.underlying71 rfl rfl (Cell.known (by first | assumption | exact (by assumption : Sub _ _) _ _ (by assumption) | exact (Sub.trans (by assumption) (by assumption)) _ _ (by assumption)) rfl)) ?_
              refine VL_still rfl rfl rfl (S_len Try.underlying71 rfl) ?_
              refine VL_still rfl rfl rfl (S_move rfl) ?_
              refine VL_nil ?_
              refine VQ_then ?_
              refine V_block ?_
              refine V_loop (ι := Nat × Hp × Value × Gr × List Nat × Int × Int × Int × Bool) (fun x' => x.kids.length - x'.1) (fun (i, hh, vk, Gk, bs, qx, qd, qc, qb) => i ≤ x.kids.length ∧ Sub h hh ∧ BC vk bs Gk ∧ bs.length = i ∧ NSt (gdT n L (depth + 1)) L x (loB l bl) (hiB u bu) nx depth ct (gdT (n + 1) L depth nx dpo (loB l bl) (hiB u bu)) hh i qx qd qc qb bs) (fun (i, hh, vk, Gk, bs, qx, qd, qc, qb) => [(0, ptr br), (2, .int .i64 (depth : Nat)), (7, ptr b7), (9, ptr b9), (10, ptr b75), (130, .slice A3 x.kids.length c3), (131, .int .i64 x.kids.length), (132, .int .i64 (i : Nat))]) (fun (i, hh, vk, Gk, bs, qx, qd, qc, qb) => hh) (fun (i, hh, vk, Gk, bs, qx, qd, qc, qb) => [GRd br (.slice (some ⟨bN, offN, none⟩) L.length cap0) qx qd qc qb, [(b7, .cells (List.toArray [.int .u64 l, .int .u64 u, .bool bl, .bool bu]) 106 (0, 0))], [(b9, .cells (List.toArray [.slice A1 x.keys.length c1, .slice A2 x.vals.length c2, .slice A3 x.kids.length c3]) 108 (0, 0))], G70, G73, GN b75 (.slice A70 x.keys.length c70) (.slice A73 x.vals.length c73) vk, Gk]) (0, h, .slice none 0 0, [], [], (nx : Int) + 1, dv dpo, (ct : Int), ob) ⟨Nat.zero_le _, Sub.refl _, Buf.nil _ _, rfl, hst0⟩ (by repeat (first | exact trivial | refine ⟨rfl, ?_⟩)) rfl (by repeat (first | exact SubB.nil | exact Pick.here | apply Pick.there | apply SubB.emp | apply SubB.cons)) (fun ⟨i, hh, vk, Gk, bs, qx, qd, qc, qb⟩ hi => ?_)
              obtain ⟨hi1, hs1, hBk, hbl, hst⟩ := hi
              simp only at hi1 hs1 hBk hbl hst ⊢
              refine V_seq ?_
              refine V_region ?_
              refine VL_still rfl rfl rfl (S_lss rfl rfl) ?_
              refine VL_nil ?_
              refine VQ_then ?_
              refine V_seq ?_
              refine V_cond rfl (fun hc133 => ?_) (fun hc133 => ?_)
              · skip
                have hik : i < x.kids.length := by
                  have := of_decide_eq_true hc133
                  omega
                obtain ⟨bbk, offk, capk, e1, hccK⟩ := SlR.at_ icE hc rfl hik
                simp only [sv, Value.slice.injEq] at e1
                obtain ⟨rfl, _, rfl⟩ := e1
                have hccK := hccK.mono (bl' := []) hs1 (fun q hq => by simp at hq)
                have hkid : ∀ (l' u' : Int) (bl' bu' : Bool), loB l' bl' = lowK x.keys (loB l bl) i → hiB u' bu' = highK x.keys (hiB u bu) i → Con Try.prog 46 [ptr br, .int .i64 x.kids[i], .int .i64 ((depth + 1 : Nat) : Int), bdv l' u' bl' bu'] hh [GRd br (.slice (some ⟨bN, offN, none⟩) L.length cap0) qx qd qc qb] (fun r h' nb => ∃ b nx' dp' ct' bad', r = ptr b ∧ nb = [GRd br (.slice (some ⟨bN, offN, none⟩) L.length cap0) nx' dp' ct' bad'] ∧ (Sub hh h' → NSt (gdT n L (depth + 1)) L x (loB l bl) (hiB u bu) nx depth ct (gdT (n + 1) L depth nx dpo (loB l bl) (hiB u bu)) h' (i + 1) nx' dp' ct' bad' (bs ++ [b]))) := by
                  intro l' u' bl' bu' e1 e2
                  rcases hst with ⟨rfl, ho⟩ | ⟨rfl, size, dpo', ts, d, rfl, rfl, rfl, h1, h2, h3, hK, hA, hd, hl⟩
                  · refine (node_bad (.slice (some ⟨bN, offN, none⟩) L.length cap0) L br _ _ _ _ _ _ _ _ _ true hh (hL.sub hs1) (.inl rfl)).conv rfl (fun v h' nb q => ⟨nb, rfl, ?_⟩)
                    obtain ⟨b, r1, r2⟩ := q
                    exact ⟨b, _, _, _, _, r1, r2, fun _ => .inl ⟨rfl, ho⟩⟩
                  · have c := ih x.kids[i] (depth + 1) (nx + size) (ct + (ts.flatMap (flat d)).length) l' u' bl' bu' dpo' hh (hL.sub hs1) (by omega) (by omega) (by omega) (by omega)
                    rw [e1, e2] at c
                    exact c.conv rfl (fun v h' nb q => ⟨nb, rfl, NSt.step hik h1 h3 hK hA hd hl q⟩)
                refine V_skip ?_
                refine VQ_then ?_
                refine V_seq ?_
                refine V_block ?_
                refine V_seq ?_
                refine V_region ?_
                refine VL_still rfl rfl rfl (S_move rfl) ?_
                refine VL_still rfl rfl rfl (X_at i Try.underlying71 tx3 rfl rfl hik) ?_
                refine VL_still rfl rfl rfl (S_load Try.underlying3 rfl rfl hccK.1.mem) ?_
                refine VL_still rfl rfl rfl (S_assign rfl) ?_
                refine VL_still rfl rfl rfl (S_assign rfl) ?_
                refine VL_nil ?_
                refine VQ_then ?_
                refine V_seq ?_
                refine V_region ?_
                first | refine VL_still rfl rfl rfl (S_loads Try.underlying106 rfl ti106 rfl rfl (Cells.known (by first | assumption | exact (by assumption : Sub _ _) _ _ (by assumption) | exact (Sub.trans (by assumption) (by assumption)) _ _ (by assumption)))) ?_ | refine VL_still rfl rfl rfl (S_loads Try.underlying106 rfl ti106 rfl rfl (Cells.all (by repeat (first | exact Has.here | apply Has.there)))) ?_ | refine VL_still rfl rfl rfl (S_loads Try.underlying106 rfl ti106 rfl rfl (Cells.trk (by repeat (first | exact Has.here | apply Has.there)) (by repeat (first | exact TakeR.here (by repeat (first | exact HeadR.nil | apply HeadR.cons)) | apply TakeR.there)))) ?_
                refine VL_eff rfl (E_alloc rfl tz106) ?_
                rintro _ _ _ ⟨b13, hb13, rfl, rfl, rfl⟩
                refine VL_eff rfl (E_store ti106 rfl rfl rfl rfl rfl (by repeat (first | exact Has.here | apply Has.there)) (by repeat (first | exact PutR.nil | exact SetL.here | apply SetL.there | apply PutR.cons)) (by repeat (first | exact UpdG.here | apply UpdG.there))) ?_
                rintro _ _ _ ⟨rfl, rfl, rfl⟩
                refine VL_nil ?_
                refine VQ_then ?_
                refine V_seq ?_
                refine V_seq ?_
                refine V_region ?_
                refine VL_still rfl rfl rfl (S_move rfl) ?_
                refine VL_still rfl rfl rfl (S_gtr rfl rfl) ?_
                refine VL_nil ?_
                refine VQ_then ?_
                refine V_cond rfl (fun hc139 => ?_) (fun hc139 => ?_)
                · skip
                  have hi0 : 0 < i := by
                    have := of_decide_eq_true hc139
                    omega
                  have hlt1 : i - 1 < x.keys.length := by omega
                  obtain ⟨bb1, off1, cap1', e1, hcc1⟩ := SlR.at_ kcE hk rfl hlt1
                  simp only [sv, Value.slice.injEq] at e1
                  obtain ⟨rfl, _, rfl⟩ := e1
                  replace hcc1 := hcc1.mono (bl' := []) hs1 (fun q hq => by simp at hq)
                  have hlo : loB x.keys[i - 1] true = lowK x.keys (loB l bl) i := by
                    unfold lowK; rw [if_neg (by omega), getD_at hlt1]; rfl
                  refine V_region ?_
                  refine VL_still rfl rfl rfl (S_field (k := 0) Try.underlying108 rfl rfl ti88 rfl rfl) ?_
                  first | refine VL_still rfl rfl rfl (S_load Try.underlying88 rfl rfl (Cell.trk (by repeat (first | exact Has.here | apply Has.there)) rfl)) ?_ | refine VL_still rfl rfl rfl (S_load Try.underlying88 rfl rfl (Cell.known (by first | assumption | exact (by assumption : Sub _ _) _ _ (by assumption) | exact (Sub.trans (by assumption) (by assumption)) _ _ (by assumption)) rfl)) ?_
                  refine VL_still rfl rfl rfl (S_move rfl) ?_
                  refine VL_still rfl rfl rfl (S_subn i 1 rfl rfl (by omega) (by omega)) ?_
                  refine VL_still rfl rfl rfl (X_at (i - 1) Try.underlying88 tx23 rfl rfl hlt1) ?_
                  refine VL_still rfl rfl rfl (S_load Try.underlying23 rfl rfl hcc1.1.mem) ?_
                  refine VL_still rfl rfl rfl (S_field (k := 0) Try.underlying106 rfl rfl ti23 rfl rfl) ?_
                  refine VL_eff rfl (E_store ti23 rfl rfl rfl rfl rfl (by repeat (first | exact Has.here | apply Has.there)) (by repeat (first | exact PutR.nil | exact SetL.here | apply SetL.there | apply PutR.cons)) (by repeat (first | exact UpdG.here | apply UpdG.there))) ?_
                  rintro _ _ _ ⟨rfl, rfl, rfl⟩
                  refine VL_still rfl rfl rfl (S_field (k := 2) Try.underlying106 rfl rfl ti4 rfl rfl) ?_
                  refine VL_eff rfl (E_store ti4 rfl rfl rfl rfl rfl (by repeat (first | exact Has.here | apply Has.there)) (by repeat (first | exact PutR.nil | exact SetL.here | apply SetL.there | apply PutR.cons)) (by repeat (first | exact UpdG.here | apply UpdG.there))) ?_
                  rintro _ _ _ ⟨rfl, rfl, rfl⟩
                  refine VL_nil ?_
                  refine VQ_then ?_
                  refine V_seq ?_
                  refine V_seq ?_
                  refine V_region ?_
                  refine VL_still rfl rfl rfl (S_move rfl) ?_
                  refine VL_still rfl rfl rfl (S_field (k := 0) Try.underlying108 rfl rfl ti88 rfl rfl) ?_
                  first | refine VL_still rfl rfl rfl (S_load Try.underlying88 rfl rfl (Cell.trk (by repeat (first | exact Has.here | apply Has.there)) rfl)) ?_ | refine VL_still rfl rfl rfl (S_load Try.underlying88 rfl rfl (Cell.known (by first | assumption | exact (by assumption : Sub _ _) _ _ (by assumption) | exact (Sub.trans (by assumption) (by assumption)) _ _ (by assumption)) rfl)) ?_
                  refine VL_still rfl rfl rfl (S_len Try.underlying88 rfl) ?_
                  refine VL_still rfl rfl rfl (S_lss rfl rfl) ?_
                  refine VL_nil ?_
                  refine VQ_then ?_
                  refine V_cond rfl (fun hc152 => ?_) (fun hc152 => ?_)
                  · skip
                    have hlt2 : i < x.keys.length := by
                      have := of_decide_eq_true hc152
                      omega
                    obtain ⟨bb2, off2, cap2', e1, hcc2⟩ := SlR.at_ kcE hk rfl hlt2
                    simp only [sv, Value.slice.injEq, Option.some.injEq, Addr.mk.injEq, and_true] at e1
                    obtain ⟨⟨rfl, rfl⟩, _, rfl⟩ := e1
                    replace hcc2 := hcc2.mono (bl' := []) hs1 (fun q hq => by simp at hq)
                    have hhi : hiB x.keys[i] true = highK x.keys (hiB u bu) i := by
                      unfold highK; rw [if_neg (by omega), getD_at hlt2]; rfl
                    refine V_region ?_
                    refine VL_still rfl rfl rfl (S_field (k := 0) Try.underlying108 rfl rfl ti88 rfl rfl) ?_
                    first | refine VL_still rfl rfl rfl (S_load Try.underlying88 rfl rfl (Cell.trk (by repeat (first | exact Has.here | apply Has.there)) rfl)) ?_ | refine VL_still rfl rfl rfl (S_load Try.underlying88 rfl rfl (Cell.known (by first | assumption | exact (by assumption : Sub _ _) _ _ (by assumption) | exact (Sub.trans (by assumption) (by assumption)) _ _ (by assumption)) rfl)) ?_
                    refine VL_still rfl rfl rfl (S_move rfl) ?_
                    refine VL_still rfl rfl rfl (X_at i Try.underlying88 tx23 rfl rfl hlt2) ?_
                    refine VL_still rfl rfl rfl (S_load Try.underlying23 rfl rfl hcc2.1.mem) ?_
                    refine VL_still rfl rfl rfl (S_field (k := 1) Try.underlying106 rfl rfl ti23 rfl rfl) ?_
                    refine VL_eff rfl (E_store ti23 rfl rfl rfl rfl rfl (by repeat (first | exact Has.here | apply Has.there)) (by repeat (first | exact PutR.nil | exact SetL.here | apply SetL.there | apply PutR.cons)) (by repeat (first | exact UpdG.here | apply UpdG.there))) ?_
                    rintro _ _ _ ⟨rfl, rfl, rfl⟩
                    refine VL_still rfl rfl rfl (S_field (k := 3) Try.underlying106 rfl rfl ti4 rfl rfl) ?_
                    refine VL_eff rfl (E_store ti4 rfl rfl rfl rfl rfl (by repeat (first | exact Has.here | apply Has.there)) (by repeat (first | exact PutR.nil | exact SetL.here | apply SetL.there | apply PutR.cons)) (by repeat (first | exact UpdG.here | apply UpdG.there))) ?_
                    rintro _ _ _ ⟨rfl, rfl, rfl⟩
                    refine VL_nil ?_
                    refine VQ_then ?_
                    refine V_drawL _ [GN b75 (.slice A70 x.keys.length c70) (.slice A73 x.vals.length c73) vk, [(b13, .cells (List.toArray [.int .u64 x.keys[i - 1], .int .u64 x.keys[i], .bool true, .bool true]) 106 (0, 0))]] 39936 Try.mixed (by kernel_rfl) (by kernel_rfl) (Sub.refl _) (by repeat (first | exact SubB.nil | exact Pick.here | apply Pick.there | apply SubB.emp | apply SubB.cons)) ?_
                    refine VD_still rfl rfl rfl rfl (S_move rfl) ?_
                    refine VD_still rfl rfl rfl rfl (S_move rfl) ?_
                    refine VD_still rfl rfl rfl rfl (S_nil rfl) ?_
                    refine VD_still rfl rfl rfl rfl (S_field (k := 2) Try.underlying92 rfl rfl ti90 rfl rfl) ?_
                    first | refine VD_still rfl rfl rfl rfl (S_load Try.underlying90 rfl rfl (Cell.trk (by repeat (first | exact Has.here | apply Has.there)) rfl)) ?_ | refine VD_still rfl rfl rfl rfl (S_load Try.underlying90 rfl rfl (Cell.known (by first | assumption | exact (by assumption : Sub _ _) _ _ (by assumption) | exact (Sub.trans (by assumption) (by assumption)) _ _ (by assumption)) rfl)) ?_
                    refine VD_still rfl rfl rfl rfl (S_move rfl) ?_
                    refine VD_still rfl rfl rfl rfl (S_move rfl) ?_
                    refine VD_still rfl rfl rfl rfl (S_move rfl) ?_
                    first | refine VD_still rfl rfl rfl rfl (S_addi rfl rfl (by omega) (by omega)) ?_ | refine VD_still rfl rfl rfl rfl (S_add rfl rfl) ?_
                    first | refine VD_still rfl rfl rfl rfl (S_loads Try.underlying106 rfl ti106 rfl rfl (Cells.known (by first | assumption | exact (by assumption : Sub _ _) _ _ (by assumption) | exact (Sub.trans (by assumption) (by assumption)) _ _ (by assumption)))) ?_ | refine VD_still rfl rfl rfl rfl (S_loads Try.underlying106 rfl ti106 rfl rfl (Cells.all (by repeat (first | exact Has.here | apply Has.there)))) ?_ | refine VD_still rfl rfl rfl rfl (S_loads Try.underlying106 rfl ti106 rfl rfl (Cells.trk (by repeat (first | exact Has.here | apply Has.there)) (by repeat (first | exact TakeR.here (by repeat (first | exact HeadR.nil | apply HeadR.cons)) | apply TakeR.there)))) ?_
                    refine VD_eff rfl rfl (E_call rfl rfl rfl Try.call46 (hkid x.keys[i - 1] x.keys[i] true true hlo hhi) (by repeat (first | exact Split.nil | exact Pick.here | apply Pick.there | apply Split.cons))) ?_
                    rintro _ hh170 _ ⟨v170, nb170, ⟨b170, nx2, dp2, ct2, bad2, rfl, rfl, hst2⟩, hs170, rfl, rfl⟩
                    replace hst2 := hst2 hs170
                    refine ⟨⟨(by first | exact Sub.refl _ | (first | assumption | (refine Sub.trans (by assumption) ?_; first | assumption | (refine Sub.trans (by assumption) ?_; first | assumption | (refine Sub.trans (by assumption) ?_; first | assumption | (refine Sub.trans (by assumption) ?_; first | assumption | (refine Sub.trans (by assumption) ?_; first | assumption | (refine Sub.trans (by assumption) ?_; first | assumption)))))))), (by repeat (first | exact SubB.nil | exact Pick.here | apply Pick.there | apply SubB.emp | apply SubB.cons))⟩, ?_⟩
                    refine VD_eff rfl rfl (E_bs1 rfl Try.underlying90 ti83 rfl rfl rfl rfl rfl rfl) ?_
                    rintro _ _ _ ⟨b171, hb171, rfl, rfl, rfl⟩
                    refine ⟨⟨(by first | exact Sub.refl _ | (first | assumption | (refine Sub.trans (by assumption) ?_; first | assumption | (refine Sub.trans (by assumption) ?_; first | assumption | (refine Sub.trans (by assumption) ?_; first | assumption | (refine Sub.trans (by assumption) ?_; first | assumption | (refine Sub.trans (by assumption) ?_; first | assumption | (refine Sub.trans (by assumption) ?_; first | assumption)))))))), (by repeat (first | exact SubB.nil | exact Pick.here | apply Pick.there | apply SubB.emp | apply SubB.cons))⟩, ?_⟩
                    refine VD_eff rfl rfl (X_append rfl Try.underlying90 Try.underlying90 rfl tx83 rfl rfl rfl rfl hBk (by repeat (first | exact Pick.here | apply Pick.there)) (Buf.reads (G := [(b171, .cells (List.toArray [ptr b170]) 83 (0, 0))]) (Buf.lit (n := 1) (by rfl) (by omega)) (fun q hq => by simp at hq ⊢; try simp [hq])) rfl (by omega)) ?_
                    rintro _ _ _ ⟨v172, G172, hB172, rfl, rfl, rfl⟩
                    replace hB172 := Buf.snoc (enc := pc) hB172
                    obtain ⟨A172, c172, rfl, _, _⟩ := Buf.form hB172
                    refine ⟨⟨(by first | exact Sub.refl _ | (first | assumption | (refine Sub.trans (by assumption) ?_; first | assumption | (refine Sub.trans (by assumption) ?_; first | assumption | (refine Sub.trans (by assumption) ?_; first | assumption | (refine Sub.trans (by assumption) ?_; first | assumption | (refine Sub.trans (by assumption) ?_; first | assumption | (refine Sub.trans (by assumption) ?_; first | assumption)))))))), (by repeat (first | exact SubB.nil | exact Pick.here | apply Pick.there | apply SubB.emp | apply SubB.cons))⟩, ?_⟩
                    refine VD_still rfl rfl rfl rfl (S_nil rfl) ?_
                    refine VD_still rfl rfl rfl rfl (S_field (k := 2) Try.underlying92 rfl rfl ti90 rfl rfl) ?_
                    refine VD_last rfl rfl (E_store ti90 rfl rfl rfl rfl rfl (by repeat (first | exact Has.here | apply Has.there)) (by repeat (first | exact PutR.nil | exact SetL.here | apply SetL.there | apply PutR.cons)) (by repeat (first | exact UpdG.here | apply UpdG.there))) ?_
                    rintro _ _ _ ⟨rfl, rfl, rfl⟩
                    refine VQ_block_normal ?_
                    refine VQ_then ?_
                    refine V_region ?_
                    first | refine VL_still rfl rfl rfl (S_addi rfl rfl (by omega) (by omega)) ?_ | refine VL_still rfl rfl rfl (S_add rfl rfl) ?_
                    refine VL_still rfl rfl rfl (S_move rfl) ?_
                    refine VL_nil ?_
                    refine VQ_mid (i + 1, hh170, .slice A172 (bs ++ [b170]).length c172, G172, bs ++ [b170], nx2, dp2, ct2, bad2) ⟨⟨by dsimp only; omega, hs1.trans hs170, hB172, by rw [List.length_append, hbl]; rfl, hst2⟩, by simp only; omega⟩ (by repeat (first | exact trivial | refine ⟨rfl, ?_⟩)) rfl (by repeat (first | exact SubB.nil | exact Pick.here | apply Pick.there | apply SubB.emp | apply SubB.cons))
                  · skip
                    have hhi : hiB u bu = highK x.keys (hiB u bu) i := by
                      have := of_decide_eq_false hc152
                      unfold highK; rw [if_pos (by omega)]
                    refine V_skip ?_
                    refine VQ_then ?_
                    refine V_drawL _ [GN b75 (.slice A70 x.keys.length c70) (.slice A73 x.vals.length c73) vk, [(b13, .cells (List.toArray [.int .u64 x.keys[i - 1], .int .u64 u, .bool true, .bool bu]) 106 (0, 0))]] 39936 Try.mixed (by kernel_rfl) (by kernel_rfl) (Sub.refl _) (by repeat (first | exact SubB.nil | exact Pick.here | apply Pick.there | apply SubB.emp | apply SubB.cons)) ?_
                    refine VD_still rfl rfl rfl rfl (S_move rfl) ?_
                    refine VD_still rfl rfl rfl rfl (S_move rfl) ?_
                    refine VD_still rfl rfl rfl rfl (S_nil rfl) ?_
                    refine VD_still rfl rfl rfl rfl (S_field (k := 2) Try.underlying92 rfl rfl ti90 rfl rfl) ?_
                    first | refine VD_still rfl rfl rfl rfl (S_load Try.underlying90 rfl rfl (Cell.trk (by repeat (first | exact Has.here | apply Has.there)) rfl)) ?_ | refine VD_still rfl rfl rfl rfl (S_load Try.underlying90 rfl rfl (Cell.known (by first | assumption | exact (by assumption : Sub _ _) _ _ (by assumption) | exact (Sub.trans (by assumption) (by assumption)) _ _ (by assumption)) rfl)) ?_
                    refine VD_still rfl rfl rfl rfl (S_move rfl) ?_
                    refine VD_still rfl rfl rfl rfl (S_move rfl) ?_
                    refine VD_still rfl rfl rfl rfl (S_move rfl) ?_
                    first | refine VD_still rfl rfl rfl rfl (S_addi rfl rfl (by omega) (by omega)) ?_ | refine VD_still rfl rfl rfl rfl (S_add rfl rfl) ?_
                    first | refine VD_still rfl rfl rfl rfl (S_loads Try.underlying106 rfl ti106 rfl rfl (Cells.known (by first | assumption | exact (by assumption : Sub _ _) _ _ (by assumption) | exact (Sub.trans (by assumption) (by assumption)) _ _ (by assumption)))) ?_ | refine VD_still rfl rfl rfl rfl (S_loads Try.underlying106 rfl ti106 rfl rfl (Cells.all (by repeat (first | exact Has.here | apply Has.there)))) ?_ | refine VD_still rfl rfl rfl rfl (S_loads Try.underlying106 rfl ti106 rfl rfl (Cells.trk (by repeat (first | exact Has.here | apply Has.there)) (by repeat (first | exact TakeR.here (by repeat (first | exact HeadR.nil | apply HeadR.cons)) | apply TakeR.there)))) ?_
                    refine VD_eff rfl rfl (E_call rfl rfl rfl Try.call46 (hkid x.keys[i - 1] u true bu hlo hhi) (by repeat (first | exact Split.nil | exact Pick.here | apply Pick.there | apply Split.cons))) ?_
                    rintro _ hh170 _ ⟨v170, nb170, ⟨b170, nx2, dp2, ct2, bad2, rfl, rfl, hst2⟩, hs170, rfl, rfl⟩
                    replace hst2 := hst2 hs170
                    refine ⟨⟨(by first | exact Sub.refl _ | (first | assumption | (refine Sub.trans (by assumption) ?_; first | assumption | (refine Sub.trans (by assumption) ?_; first | assumption | (refine Sub.trans (by assumption) ?_; first | assumption | (refine Sub.trans (by assumption) ?_; first | assumption | (refine Sub.trans (by assumption) ?_; first | assumption | (refine Sub.trans (by assumption) ?_; first | assumption)))))))), (by repeat (first | exact SubB.nil | exact Pick.here | apply Pick.there | apply SubB.emp | apply SubB.cons))⟩, ?_⟩
                    refine VD_eff rfl rfl (E_bs1 rfl Try.underlying90 ti83 rfl rfl rfl rfl rfl rfl) ?_
                    rintro _ _ _ ⟨b171, hb171, rfl, rfl, rfl⟩
                    refine ⟨⟨(by first | exact Sub.refl _ | (first | assumption | (refine Sub.trans (by assumption) ?_; first | assumption | (refine Sub.trans (by assumption) ?_; first | assumption | (refine Sub.trans (by assumption) ?_; first | assumption | (refine Sub.trans (by assumption) ?_; first | assumption | (refine Sub.trans (by assumption) ?_; first | assumption | (refine Sub.trans (by assumption) ?_; first | assumption)))))))), (by repeat (first | exact SubB.nil | exact Pick.here | apply Pick.there | apply SubB.emp | apply SubB.cons))⟩, ?_⟩
                    refine VD_eff rfl rfl (X_append rfl Try.underlying90 Try.underlying90 rfl tx83 rfl rfl rfl rfl hBk (by repeat (first | exact Pick.here | apply Pick.there)) (Buf.reads (G := [(b171, .cells (List.toArray [ptr b170]) 83 (0, 0))]) (Buf.lit (n := 1) (by rfl) (by omega)) (fun q hq => by simp at hq ⊢; try simp [hq])) rfl (by omega)) ?_
                    rintro _ _ _ ⟨v172, G172, hB172, rfl, rfl, rfl⟩
                    replace hB172 := Buf.snoc (enc := pc) hB172
                    obtain ⟨A172, c172, rfl, _, _⟩ := Buf.form hB172
                    refine ⟨⟨(by first | exact Sub.refl _ | (first | assumption | (refine Sub.trans (by assumption) ?_; first | assumption | (refine Sub.trans (by assumption) ?_; first | assumption | (refine Sub.trans (by assumption) ?_; first | assumption | (refine Sub.trans (by assumption) ?_; first | assumption | (refine Sub.trans (by assumption) ?_; first | assumption | (refine Sub.trans (by assumption) ?_; first | assumption)))))))), (by repeat (first | exact SubB.nil | exact Pick.here | apply Pick.there | apply SubB.emp | apply SubB.cons))⟩, ?_⟩
                    refine VD_still rfl rfl rfl rfl (S_nil rfl) ?_
                    refine VD_still rfl rfl rfl rfl (S_field (k := 2) Try.underlying92 rfl rfl ti90 rfl rfl) ?_
                    refine VD_last rfl rfl (E_store ti90 rfl rfl rfl rfl rfl (by repeat (first | exact Has.here | apply Has.there)) (by repeat (first | exact PutR.nil | exact SetL.here | apply SetL.there | apply PutR.cons)) (by repeat (first | exact UpdG.here | apply UpdG.there))) ?_
                    rintro _ _ _ ⟨rfl, rfl, rfl⟩
                    refine VQ_block_normal ?_
                    refine VQ_then ?_
                    refine V_region ?_
                    first | refine VL_still rfl rfl rfl (S_addi rfl rfl (by omega) (by omega)) ?_ | refine VL_still rfl rfl rfl (S_add rfl rfl) ?_
                    refine VL_still rfl rfl rfl (S_move rfl) ?_
                    refine VL_nil ?_
                    refine VQ_mid (i + 1, hh170, .slice A172 (bs ++ [b170]).length c172, G172, bs ++ [b170], nx2, dp2, ct2, bad2) ⟨⟨by dsimp only; omega, hs1.trans hs170, hB172, by rw [List.length_append, hbl]; rfl, hst2⟩, by simp only; omega⟩ (by repeat (first | exact trivial | refine ⟨rfl, ?_⟩)) rfl (by repeat (first | exact SubB.nil | exact Pick.here | apply Pick.there | apply SubB.emp | apply SubB.cons))
                · skip
                  have hi0 : i = 0 := by
                    have := of_decide_eq_false hc139
                    omega
                  have hlo : loB l bl = lowK x.keys (loB l bl) i := by
                    unfold lowK; rw [if_pos hi0]
                  refine V_skip ?_
                  refine VQ_then ?_
                  refine V_seq ?_
                  refine V_seq ?_
                  refine V_region ?_
                  refine VL_still rfl rfl rfl (S_move rfl) ?_
                  refine VL_still rfl rfl rfl (S_field (k := 0) Try.underlying108 rfl rfl ti88 rfl rfl) ?_
                  first | refine VL_still rfl rfl rfl (S_load Try.underlying88 rfl rfl (Cell.trk (by repeat (first | exact Has.here | apply Has.there)) rfl)) ?_ | refine VL_still rfl rfl rfl (S_load Try.underlying88 rfl rfl (Cell.known (by first | assumption | exact (by assumption : Sub _ _) _ _ (by assumption) | exact (Sub.trans (by assumption) (by assumption)) _ _ (by assumption)) rfl)) ?_
                  refine VL_still rfl rfl rfl (S_len Try.underlying88 rfl) ?_
                  refine VL_still rfl rfl rfl (S_lss rfl rfl) ?_
                  refine VL_nil ?_
                  refine VQ_then ?_
                  refine V_cond rfl (fun hc152 => ?_) (fun hc152 => ?_)
                  · skip
                    have hlt2 : i < x.keys.length := by
                      have := of_decide_eq_true hc152
                      omega
                    obtain ⟨bb2, off2, cap2', e1, hcc2⟩ := SlR.at_ kcE hk rfl hlt2
                    simp only [sv, Value.slice.injEq] at e1
                    obtain ⟨rfl, _, rfl⟩ := e1
                    replace hcc2 := hcc2.mono (bl' := []) hs1 (fun q hq => by simp at hq)
                    have hhi : hiB x.keys[i] true = highK x.keys (hiB u bu) i := by
                      unfold highK; rw [if_neg (by omega), getD_at hlt2]; rfl
                    refine V_region ?_
                    refine VL_still rfl rfl rfl (S_field (k := 0) Try.underlying108 rfl rfl ti88 rfl rfl) ?_
                    first | refine VL_still rfl rfl rfl (S_load Try.underlying88 rfl rfl (Cell.trk (by repeat (first | exact Has.here | apply Has.there)) rfl)) ?_ | refine VL_still rfl rfl rfl (S_load Try.underlying88 rfl rfl (Cell.known (by first | assumption | exact (by assumption : Sub _ _) _ _ (by assumption) | exact (Sub.trans (by assumption) (by assumption)) _ _ (by assumption)) rfl)) ?_
                    refine VL_still rfl rfl rfl (S_move rfl) ?_
                    refine VL_still rfl rfl rfl (X_at i Try.underlying88 tx23 rfl rfl hlt2) ?_
                    refine VL_still rfl rfl rfl (S_load Try.underlying23 rfl rfl hcc2.1.mem) ?_
                    refine VL_still rfl rfl rfl (S_field (k := 1) Try.underlying106 rfl rfl ti23 rfl rfl) ?_
                    refine VL_eff rfl (E_store ti23 rfl rfl rfl rfl rfl (by repeat (first | exact Has.here | apply Has.there)) (by repeat (first | exact PutR.nil | exact SetL.here | apply SetL.there | apply PutR.cons)) (by repeat (first | exact UpdG.here | apply UpdG.there))) ?_
                    rintro _ _ _ ⟨rfl, rfl, rfl⟩
                    refine VL_still rfl rfl rfl (S_field (k := 3) Try.underlying106 rfl rfl ti4 rfl rfl) ?_
                    refine VL_eff rfl (E_store ti4 rfl rfl rfl rfl rfl (by repeat (first | exact Has.here | apply Has.there)) (by repeat (first | exact PutR.nil | exact SetL.here | apply SetL.there | apply PutR.cons)) (by repeat (first | exact UpdG.here | apply UpdG.there))) ?_
                    rintro _ _ _ ⟨rfl, rfl, rfl⟩
                    refine VL_nil ?_
                    refine VQ_then ?_
                    refine V_drawL _ [GN b75 (.slice A70 x.keys.length c70) (.slice A73 x.vals.length c73) vk, [(b13, .cells (List.toArray [.int .u64 l, .int .u64 x.keys[i], .bool bl, .bool true]) 106 (0, 0))]] 39936 Try.mixed (by kernel_rfl) (by kernel_rfl) (Sub.refl _) (by repeat (first | exact SubB.nil | exact Pick.here | apply Pick.there | apply SubB.emp | apply SubB.cons)) ?_
                    refine VD_still rfl rfl rfl rfl (S_move rfl) ?_
                    refine VD_still rfl rfl rfl rfl (S_move rfl) ?_
                    refine VD_still rfl rfl rfl rfl (S_nil rfl) ?_
                    refine VD_still rfl rfl rfl rfl (S_field (k := 2) Try.underlying92 rfl rfl ti90 rfl rfl) ?_
                    first | refine VD_still rfl rfl rfl rfl (S_load Try.underlying90 rfl rfl (Cell.trk (by repeat (first | exact Has.here | apply Has.there)) rfl)) ?_ | refine VD_still rfl rfl rfl rfl (S_load Try.underlying90 rfl rfl (Cell.known (by first | assumption | exact (by assumption : Sub _ _) _ _ (by assumption) | exact (Sub.trans (by assumption) (by assumption)) _ _ (by assumption)) rfl)) ?_
                    refine VD_still rfl rfl rfl rfl (S_move rfl) ?_
                    refine VD_still rfl rfl rfl rfl (S_move rfl) ?_
                    refine VD_still rfl rfl rfl rfl (S_move rfl) ?_
                    first | refine VD_still rfl rfl rfl rfl (S_addi rfl rfl (by omega) (by omega)) ?_ | refine VD_still rfl rfl rfl rfl (S_add rfl rfl) ?_
                    first | refine VD_still rfl rfl rfl rfl (S_loads Try.underlying106 rfl ti106 rfl rfl (Cells.known (by first | assumption | exact (by assumption : Sub _ _) _ _ (by assumption) | exact (Sub.trans (by assumption) (by assumption)) _ _ (by assumption)))) ?_ | refine VD_still rfl rfl rfl rfl (S_loads Try.underlying106 rfl ti106 rfl rfl (Cells.all (by repeat (first | exact Has.here | apply Has.there)))) ?_ | refine VD_still rfl rfl rfl rfl (S_loads Try.underlying106 rfl ti106 rfl rfl (Cells.trk (by repeat (first | exact Has.here | apply Has.there)) (by repeat (first | exact TakeR.here (by repeat (first | exact HeadR.nil | apply HeadR.cons)) | apply TakeR.there)))) ?_
                    refine VD_eff rfl rfl (E_call rfl rfl rfl Try.call46 (hkid l x.keys[i] bl true hlo hhi) (by repeat (first | exact Split.nil | exact Pick.here | apply Pick.there | apply Split.cons))) ?_
                    rintro _ hh170 _ ⟨v170, nb170, ⟨b170, nx2, dp2, ct2, bad2, rfl, rfl, hst2⟩, hs170, rfl, rfl⟩
                    replace hst2 := hst2 hs170
                    refine ⟨⟨(by first | exact Sub.refl _ | (first | assumption | (refine Sub.trans (by assumption) ?_; first | assumption | (refine Sub.trans (by assumption) ?_; first | assumption | (refine Sub.trans (by assumption) ?_; first | assumption | (refine Sub.trans (by assumption) ?_; first | assumption | (refine Sub.trans (by assumption) ?_; first | assumption | (refine Sub.trans (by assumption) ?_; first | assumption)))))))), (by repeat (first | exact SubB.nil | exact Pick.here | apply Pick.there | apply SubB.emp | apply SubB.cons))⟩, ?_⟩
                    refine VD_eff rfl rfl (E_bs1 rfl Try.underlying90 ti83 rfl rfl rfl rfl rfl rfl) ?_
                    rintro _ _ _ ⟨b171, hb171, rfl, rfl, rfl⟩
                    refine ⟨⟨(by first | exact Sub.refl _ | (first | assumption | (refine Sub.trans (by assumption) ?_; first | assumption | (refine Sub.trans (by assumption) ?_; first | assumption | (refine Sub.trans (by assumption) ?_; first | assumption | (refine Sub.trans (by assumption) ?_; first | assumption | (refine Sub.trans (by assumption) ?_; first | assumption | (refine Sub.trans (by assumption) ?_; first | assumption)))))))), (by repeat (first | exact SubB.nil | exact Pick.here | apply Pick.there | apply SubB.emp | apply SubB.cons))⟩, ?_⟩
                    refine VD_eff rfl rfl (X_append rfl Try.underlying90 Try.underlying90 rfl tx83 rfl rfl rfl rfl hBk (by repeat (first | exact Pick.here | apply Pick.there)) (Buf.reads (G := [(b171, .cells (List.toArray [ptr b170]) 83 (0, 0))]) (Buf.lit (n := 1) (by rfl) (by omega)) (fun q hq => by simp at hq ⊢; try simp [hq])) rfl (by omega)) ?_
                    rintro _ _ _ ⟨v172, G172, hB172, rfl, rfl, rfl⟩
                    replace hB172 := Buf.snoc (enc := pc) hB172
                    obtain ⟨A172, c172, rfl, _, _⟩ := Buf.form hB172
                    refine ⟨⟨(by first | exact Sub.refl _ | (first | assumption | (refine Sub.trans (by assumption) ?_; first | assumption | (refine Sub.trans (by assumption) ?_; first | assumption | (refine Sub.trans (by assumption) ?_; first | assumption | (refine Sub.trans (by assumption) ?_; first | assumption | (refine Sub.trans (by assumption) ?_; first | assumption | (refine Sub.trans (by assumption) ?_; first | assumption)))))))), (by repeat (first | exact SubB.nil | exact Pick.here | apply Pick.there | apply SubB.emp | apply SubB.cons))⟩, ?_⟩
                    refine VD_still rfl rfl rfl rfl (S_nil rfl) ?_
                    refine VD_still rfl rfl rfl rfl (S_field (k := 2) Try.underlying92 rfl rfl ti90 rfl rfl) ?_
                    refine VD_last rfl rfl (E_store ti90 rfl rfl rfl rfl rfl (by repeat (first | exact Has.here | apply Has.there)) (by repeat (first | exact PutR.nil | exact SetL.here | apply SetL.there | apply PutR.cons)) (by repeat (first | exact UpdG.here | apply UpdG.there))) ?_
                    rintro _ _ _ ⟨rfl, rfl, rfl⟩
                    refine VQ_block_normal ?_
                    refine VQ_then ?_
                    refine V_region ?_
                    first | refine VL_still rfl rfl rfl (S_addi rfl rfl (by omega) (by omega)) ?_ | refine VL_still rfl rfl rfl (S_add rfl rfl) ?_
                    refine VL_still rfl rfl rfl (S_move rfl) ?_
                    refine VL_nil ?_
                    refine VQ_mid (i + 1, hh170, .slice A172 (bs ++ [b170]).length c172, G172, bs ++ [b170], nx2, dp2, ct2, bad2) ⟨⟨by dsimp only; omega, hs1.trans hs170, hB172, by rw [List.length_append, hbl]; rfl, hst2⟩, by simp only; omega⟩ (by repeat (first | exact trivial | refine ⟨rfl, ?_⟩)) rfl (by repeat (first | exact SubB.nil | exact Pick.here | apply Pick.there | apply SubB.emp | apply SubB.cons))
                  · skip
                    have hhi : hiB u bu = highK x.keys (hiB u bu) i := by
                      have := of_decide_eq_false hc152
                      unfold highK; rw [if_pos (by omega)]
                    refine V_skip ?_
                    refine VQ_then ?_
                    refine V_drawL _ [GN b75 (.slice A70 x.keys.length c70) (.slice A73 x.vals.length c73) vk, [(b13, .cells (List.toArray [.int .u64 l, .int .u64 u, .bool bl, .bool bu]) 106 (0, 0))]] 39936 Try.mixed (by kernel_rfl) (by kernel_rfl) (Sub.refl _) (by repeat (first | exact SubB.nil | exact Pick.here | apply Pick.there | apply SubB.emp | apply SubB.cons)) ?_
                    refine VD_still rfl rfl rfl rfl (S_move rfl) ?_
                    refine VD_still rfl rfl rfl rfl (S_move rfl) ?_
                    refine VD_still rfl rfl rfl rfl (S_nil rfl) ?_
                    refine VD_still rfl rfl rfl rfl (S_field (k := 2) Try.underlying92 rfl rfl ti90 rfl rfl) ?_
                    first | refine VD_still rfl rfl rfl rfl (S_load Try.underlying90 rfl rfl (Cell.trk (by repeat (first | exact Has.here | apply Has.there)) rfl)) ?_ | refine VD_still rfl rfl rfl rfl (S_load Try.underlying90 rfl rfl (Cell.known (by first | assumption | exact (by assumption : Sub _ _) _ _ (by assumption) | exact (Sub.trans (by assumption) (by assumption)) _ _ (by assumption)) rfl)) ?_
                    refine VD_still rfl rfl rfl rfl (S_move rfl) ?_
                    refine VD_still rfl rfl rfl rfl (S_move rfl) ?_
                    refine VD_still rfl rfl rfl rfl (S_move rfl) ?_
                    first | refine VD_still rfl rfl rfl rfl (S_addi rfl rfl (by omega) (by omega)) ?_ | refine VD_still rfl rfl rfl rfl (S_add rfl rfl) ?_
                    first | refine VD_still rfl rfl rfl rfl (S_loads Try.underlying106 rfl ti106 rfl rfl (Cells.known (by first | assumption | exact (by assumption : Sub _ _) _ _ (by assumption) | exact (Sub.trans (by assumption) (by assumption)) _ _ (by assumption)))) ?_ | refine VD_still rfl rfl rfl rfl (S_loads Try.underlying106 rfl ti106 rfl rfl (Cells.all (by repeat (first | exact Has.here | apply Has.there)))) ?_ | refine VD_still rfl rfl rfl rfl (S_loads Try.underlying106 rfl ti106 rfl rfl (Cells.trk (by repeat (first | exact Has.here | apply Has.there)) (by repeat (first | exact TakeR.here (by repeat (first | exact HeadR.nil | apply HeadR.cons)) | apply TakeR.there)))) ?_
                    refine VD_eff rfl rfl (E_call rfl rfl rfl Try.call46 (hkid l u bl bu hlo hhi) (by repeat (first | exact Split.nil | exact Pick.here | apply Pick.there | apply Split.cons))) ?_
                    rintro _ hh170 _ ⟨v170, nb170, ⟨b170, nx2, dp2, ct2, bad2, rfl, rfl, hst2⟩, hs170, rfl, rfl⟩
                    replace hst2 := hst2 hs170
                    refine ⟨⟨(by first | exact Sub.refl _ | (first | assumption | (refine Sub.trans (by assumption) ?_; first | assumption | (refine Sub.trans (by assumption) ?_; first | assumption | (refine Sub.trans (by assumption) ?_; first | assumption | (refine Sub.trans (by assumption) ?_; first | assumption | (refine Sub.trans (by assumption) ?_; first | assumption | (refine Sub.trans (by assumption) ?_; first | assumption)))))))), (by repeat (first | exact SubB.nil | exact Pick.here | apply Pick.there | apply SubB.emp | apply SubB.cons))⟩, ?_⟩
                    refine VD_eff rfl rfl (E_bs1 rfl Try.underlying90 ti83 rfl rfl rfl rfl rfl rfl) ?_
                    rintro _ _ _ ⟨b171, hb171, rfl, rfl, rfl⟩
                    refine ⟨⟨(by first | exact Sub.refl _ | (first | assumption | (refine Sub.trans (by assumption) ?_; first | assumption | (refine Sub.trans (by assumption) ?_; first | assumption | (refine Sub.trans (by assumption) ?_; first | assumption | (refine Sub.trans (by assumption) ?_; first | assumption | (refine Sub.trans (by assumption) ?_; first | assumption | (refine Sub.trans (by assumption) ?_; first | assumption)))))))), (by repeat (first | exact SubB.nil | exact Pick.here | apply Pick.there | apply SubB.emp | apply SubB.cons))⟩, ?_⟩
                    refine VD_eff rfl rfl (X_append rfl Try.underlying90 Try.underlying90 rfl tx83 rfl rfl rfl rfl hBk (by repeat (first | exact Pick.here | apply Pick.there)) (Buf.reads (G := [(b171, .cells (List.toArray [ptr b170]) 83 (0, 0))]) (Buf.lit (n := 1) (by rfl) (by omega)) (fun q hq => by simp at hq ⊢; try simp [hq])) rfl (by omega)) ?_
                    rintro _ _ _ ⟨v172, G172, hB172, rfl, rfl, rfl⟩
                    replace hB172 := Buf.snoc (enc := pc) hB172
                    obtain ⟨A172, c172, rfl, _, _⟩ := Buf.form hB172
                    refine ⟨⟨(by first | exact Sub.refl _ | (first | assumption | (refine Sub.trans (by assumption) ?_; first | assumption | (refine Sub.trans (by assumption) ?_; first | assumption | (refine Sub.trans (by assumption) ?_; first | assumption | (refine Sub.trans (by assumption) ?_; first | assumption | (refine Sub.trans (by assumption) ?_; first | assumption | (refine Sub.trans (by assumption) ?_; first | assumption)))))))), (by repeat (first | exact SubB.nil | exact Pick.here | apply Pick.there | apply SubB.emp | apply SubB.cons))⟩, ?_⟩
                    refine VD_still rfl rfl rfl rfl (S_nil rfl) ?_
                    refine VD_still rfl rfl rfl rfl (S_field (k := 2) Try.underlying92 rfl rfl ti90 rfl rfl) ?_
                    refine VD_last rfl rfl (E_store ti90 rfl rfl rfl rfl rfl (by repeat (first | exact Has.here | apply Has.there)) (by repeat (first | exact PutR.nil | exact SetL.here | apply SetL.there | apply PutR.cons)) (by repeat (first | exact UpdG.here | apply UpdG.there))) ?_
                    rintro _ _ _ ⟨rfl, rfl, rfl⟩
                    refine VQ_block_normal ?_
                    refine VQ_then ?_
                    refine V_region ?_
                    first | refine VL_still rfl rfl rfl (S_addi rfl rfl (by omega) (by omega)) ?_ | refine VL_still rfl rfl rfl (S_add rfl rfl) ?_
                    refine VL_still rfl rfl rfl (S_move rfl) ?_
                    refine VL_nil ?_
                    refine VQ_mid (i + 1, hh170, .slice A172 (bs ++ [b170]).length c172, G172, bs ++ [b170], nx2, dp2, ct2, bad2) ⟨⟨by dsimp only; omega, hs1.trans hs170, hB172, by rw [List.length_append, hbl]; rfl, hst2⟩, by simp only; omega⟩ (by repeat (first | exact trivial | refine ⟨rfl, ?_⟩)) rfl (by repeat (first | exact SubB.nil | exact Pick.here | apply Pick.there | apply SubB.emp | apply SubB.cons))
              · skip
                have hge : i = x.kids.length := by
                  have := of_decide_eq_false hc133
                  omega
                subst hge
                refine V_exit ?_
                refine VQ_then_exit ?_
                refine VQ_then_exit ?_
                refine VQ_block_exit ?_
                refine VQ_then ?_
                refine V_seq ?_
                refine V_region ?_
                refine VL_still rfl rfl rfl (S_move rfl) ?_
                refine VL_still rfl rfl rfl (S_assign rfl) ?_
                refine VL_nil ?_
                refine VQ_then ?_
                refine V_ret ?_
                refine VQ_keeps (blA := [GN b75 (.slice A70 x.keys.length c70) (.slice A73 x.vals.length c73) vk, G70, G73, Gk]) (by repeat (first | exact Split.nil | exact Pick.here | apply Pick.there | apply Split.cons)) (fun h2 sh2 kh2 => ?_)
                obtain ⟨q1, q2, q3, q4, _⟩ := kh2
                refine VQ_fin1 (nb := [GRd br (.slice (some ⟨bN, offN, none⟩) L.length cap0) qx qd qc qb]) (by first | exact .inl rfl | exact .inr rfl) rfl (RV_tmp rfl) ?sb ?po
                case po =>
                  rcases hst.done hk0 with ⟨rfl, ho⟩ | ⟨m, ts, d, rfl, ho, rfl, rfl, rfl, hA⟩
                  · exact ⟨_, _, _, _, _, rfl, rfl, .inl ⟨rfl, (if_pos (by first | rfl | trivial)).trans ho⟩⟩
                  · refine ⟨_, _, _, _, _, rfl, rfl, .inr ⟨m, _, _, d + 1, rfl, (if_pos (by first | rfl | trivial)).trans ho, rfl, rfl, rfl, rfl, bs, ?_, hA.mono fun _ _ r => Rp.sub sh2 r⟩⟩
                    have hv0 : x.vals = [] := List.eq_nil_of_length_eq_zero g1
                    rw [hv0] at hB73 q1
                    exact NodeAt.own q1 q2 q3 q4 hB70 hB73 hBk
                case sb => exact (by repeat (first | exact SubB.nil | exact Pick.here | apply Pick.there | apply SubB.emp | apply SubB.cons))

theorem node_con (v : Value) (L : List Nd) (br : Nat) (nL : L.length ≤ 10000) (hkeys : ∀ x ∈ L, ∀ k ∈ x.keys, 0 ≤ k ∧ k < top) : ∀ (n : Nat) (kid : Int) (depth nx ct : Nat) (l u : Int) (bl bu : Bool) (dpo : Option Nat) (h : Hp), NL h v L → nx ≤ L.length → L.length ≤ n + nx → depth ≤ nx → ct ≤ 7 * nx → Con Try.prog 46 [ptr br, .int .i64 kid, .int .i64 (depth : Nat), bdv l u bl bu] h [GRd br v (nx : Int) (dv dpo) (ct : Int) false] (fun r h' nb => NdO h' r nb br v (if kid = (nx : Int) then gdT n L depth nx dpo (loB l bl) (hiB u bu) else none) nx ct depth)
  | 0, kid, depth, nx, ct, l, u, bl, bu, dpo, h, hL, n1, n2, n3, n4 => by
    refine (node_bad v L br kid _ _ _ _ l u bl bu false h hL (by by_cases e : kid = (nx : Int); · exact .inr (.inr (by omega))
                                                                 · exact .inr (.inl e))).conv rfl (fun w h' nb q => ⟨nb, rfl, ?_⟩)
    obtain ⟨b, r1, r2⟩ := q
    exact ⟨b, _, _, _, _, r1, r2, .inl ⟨rfl, by split <;> rfl⟩⟩
  | n + 1, kid, depth, nx, ct, l, u, bl, bu, dpo, h, hL, n1, n2, n3, n4 => node_step n v L br nL hkeys (fun kid depth nx ct l u bl bu dpo h a b c d e => node_con v L br nL hkeys n kid depth nx ct l u bl bu dpo h a b c d e) kid depth nx ct l u bl bu dpo h hL n1 n2 n3 n4

end Go.Proofs.Ytdglignjoojimaa

/- Of: a tree of nodes, or none. No conditions. -/
set_option linter.unusedVariables false
set_option linter.unusedSimpArgs false
namespace Go.Proofs.Ytdglignjoojimaa

/-- What Of hands back. -/
def OfO (h : Hp) (r : Value) (L : List Nd) : Prop :=
  (∃ d t b, rdT (L.length + 1) L 0 = some (L.length, d, t) ∧ r = .tuple #[ptr b, .int .i64 0] ∧ TreeAt h b (flat d t)) ∨ ((∀ d t, rdT (L.length + 1) L 0 ≠ some (L.length, d, t)) ∧ r = .tuple #[.pointer none, .int .i64 81])
theorem gd_all {L : List Nd} (hkeys : ∀ x ∈ L, ∀ k ∈ x.keys, 0 ≤ k ∧ k < top) {m d : Nat} {t : Tr} (h : rdT (L.length + 1) L 0 = some (m, d, t)) : gdT (L.length + 1) L 0 0 none 0 top = some (m, t, 0 + d) :=
  rd_gd h (.inl rfl) (fun x hx k hk => hkeys x (List.mem_of_mem_drop (List.mem_of_mem_take hx)) k hk)

set_option maxRecDepth 100000 in
theorem of_con (v : Value) (L : List Nd) (h : Hp) (hL : NL h v L) (nL : L.length ≤ 10000) (hkeys : ∀ x ∈ L, ∀ k ∈ x.keys, 0 ≤ k ∧ k < top) : Con Try.prog 23 [v] h [] (fun r h' nb => nb = [] ∧ OfO h' r L) := by
  obtain ⟨A0, cap0, rfl, hle0, hmx0⟩ := hL.form
  refine Con_of Try.func23 rfl Try.ntmps23 (Nat.le_of_ble_eq_true rfl) (fun w0 => ?_)
  refine V_seq ?_
  refine V_region ?_
  refine VL_still rfl rfl rfl (S_assign rfl) ?_
  refine VL_still rfl rfl rfl (S_assign rfl) ?_
  refine VL_nil ?_
  refine VQ_then ?_
  refine V_seq ?_
  refine V_region ?_
  refine VL_still rfl rfl rfl (S_move rfl) ?_
  refine VL_still rfl rfl rfl (S_struct Try.underlying103 to103 tz103 rfl (by repeat (first | exact BuildR.nil | exact PutR.nil | exact SetL.here | apply SetL.there | apply PutR.cons | apply BuildR.cons rfl (by first | exact ti3 | exact ti4 | exact ti41) rfl rfl rfl))) ?_
  refine VL_eff rfl (E_box rfl rfl rfl) ?_
  rintro _ _ _ ⟨b8, hb8, rfl, rfl, rfl⟩
  refine VL_still rfl rfl rfl (S_assign rfl) ?_
  refine VL_nil ?_
  refine VQ_then ?_
  refine V_seq ?_
  refine V_region ?_
  refine VL_still rfl rfl rfl (S_move rfl) ?_
  refine VL_still rfl rfl rfl (S_struct Try.underlying106 to106 tz106 rfl (by repeat (first | exact BuildR.nil | exact PutR.nil | exact SetL.here | apply SetL.there | apply PutR.cons | apply BuildR.cons rfl (by first | exact ti4 | exact ti23) rfl rfl rfl))) ?_
  refine VL_eff rfl (E_call rfl rfl rfl Try.call46 (node_con (.slice A0 L.length cap0) L b8 nL hkeys (L.length + 1) 0 0 0 0 0 0 false false none h hL (by omega) (by omega) (by omega) (by omega)) (by repeat (first | exact Split.nil | exact Pick.here | apply Pick.there | apply Split.cons))) ?_
  rintro _ hh11 _ ⟨v11, nb11, ⟨b11, qx, qd, qc, qb, rfl, rfl, hq⟩, hs11, rfl, rfl⟩
  rw [if_pos (by rfl)] at hq
  change (qb = true ∧ gdT (L.length + 1) L 0 0 none 0 top = none) ∨ _ at hq
  refine VL_still rfl rfl rfl (S_assign rfl) ?_
  refine VL_nil ?_
  refine VQ_then ?_
  refine V_seq ?_
  refine V_seq ?_
  refine V_region ?_
  refine VL_still rfl rfl rfl (S_move rfl) ?_
  refine VL_still rfl rfl rfl (S_nil rfl) ?_
  refine VL_still rfl rfl rfl (S_field (k := 4) Try.underlying103 rfl rfl ti4 rfl rfl) ?_
  first | refine VL_still rfl rfl rfl (S_load Try.underlying4 rfl rfl (Cell.trk (by repeat (first | exact Has.here | apply Has.there)) rfl)) ?_ | refine VL_still rfl rfl rfl (S_load Try.underlying4 rfl rfl (Cell.known (by first | assumption | exact (by assumption : Sub _ _) _ _ (by assumption) | exact (Sub.trans (by assumption) (by assumption)) _ _ (by assumption)) rfl)) ?_
  refine VL_still rfl rfl rfl (S_move rfl) ?_
  refine VL_bool 16 rfl (fun hc16 => ?_) (fun hc16 => ?_)
  · skip
    have hno : gdT (L.length + 1) L 0 0 none 0 top = none := by
      rcases hq with ⟨_, e⟩ | ⟨m, t, D, d, e, _⟩
      · exact e
      · rw [e] at hc16; cases hc16
    refine VL_skip rfl rfl rfl ?_
    refine VL_skip rfl rfl rfl ?_
    refine VL_skip rfl rfl rfl ?_
    refine VL_skip rfl rfl rfl ?_
    refine VL_skip rfl rfl rfl ?_
    refine VL_skip rfl rfl rfl ?_
    refine VL_skip rfl rfl rfl ?_
    first | refine VL_still rfl rfl rfl (S_pick_t rfl rfl) ?_ | refine VL_still rfl rfl rfl (S_pick_f rfl rfl) ?_
    refine VL_nil ?_
    refine VQ_then ?_
    refine V_cond_true rfl ?_
    refine V_seq ?_
    refine V_region ?_
    refine VL_still rfl rfl rfl (S_assign rfl) ?_
    refine VL_still rfl rfl rfl (S_assign rfl) ?_
    refine VL_nil ?_
    refine VQ_then ?_
    refine V_ret ?_
    refine VQ_then_ret ?_
    refine VQ_fin2 (nb := []) (by first | exact .inl rfl | exact .inr rfl) rfl (RV_tmp rfl) (RV_tmp rfl) ?sb ?po
    case po =>
      exact ⟨rfl, .inr ⟨(fun d t e => by rw [gd_all hkeys e] at hno; cases hno), rfl⟩⟩
    case sb => exact (by repeat (first | exact SubB.nil | exact Pick.here | apply Pick.there | apply SubB.emp | apply SubB.cons))
  · skip
    obtain ⟨m, t, D, d, ho, rfl, rfl, rfl, rfl, hR⟩ : ∃ m t D d, gdT (L.length + 1) L 0 0 none 0 top = some (m, t, D) ∧ qx = ((0 + m : Nat) : Int) ∧ qd = (D : Nat) ∧ D = 0 + d ∧ qc = ((0 + (flat d t).length : Nat) : Int) ∧ Rp hh11 d b11 t := by
      rcases hq with ⟨e, _⟩ | ⟨m, t, D, d, _, e1, e2, e3, e4, e5, e6⟩
      · rw [e] at hc16; cases hc16
      · exact ⟨m, t, D, d, e1, e2, e3, e4, e5, e6⟩
    obtain ⟨d2, r1, r2, _, _⟩ := gd_rd ho
    obtain rfl : d2 = d := by omega
    refine VL_still rfl rfl rfl (S_move rfl) ?_
    refine VL_still rfl rfl rfl (S_nil rfl) ?_
    refine VL_still rfl rfl rfl (S_field (k := 1) Try.underlying103 rfl rfl ti3 rfl rfl) ?_
    first | refine VL_still rfl rfl rfl (S_load Try.underlying3 rfl rfl (Cell.trk (by repeat (first | exact Has.here | apply Has.there)) rfl)) ?_ | refine VL_still rfl rfl rfl (S_load Try.underlying3 rfl rfl (Cell.known (by first | assumption | exact (by assumption : Sub _ _) _ _ (by assumption) | exact (Sub.trans (by assumption) (by assumption)) _ _ (by assumption)) rfl)) ?_
    refine VL_still rfl rfl rfl (S_move rfl) ?_
    refine VL_still rfl rfl rfl (S_len Try.underlying41 rfl) ?_
    refine VL_still rfl rfl rfl (S_neq rfl rfl) ?_
    first | refine VL_still rfl rfl rfl (S_pick_t rfl rfl) ?_ | refine VL_still rfl rfl rfl (S_pick_f rfl rfl) ?_
    refine VL_nil ?_
    refine VQ_then ?_
    refine V_cond rfl (fun hc24 => ?_) (fun hc24 => ?_)
    · skip
      have hne : ¬ m = L.length := by
        simp only [Bool.not_eq_true', decide_eq_false_iff_not] at hc24
        omega
      refine V_seq ?_
      refine V_region ?_
      refine VL_still rfl rfl rfl (S_assign rfl) ?_
      refine VL_still rfl rfl rfl (S_assign rfl) ?_
      refine VL_nil ?_
      refine VQ_then ?_
      refine V_ret ?_
      refine VQ_then_ret ?_
      refine VQ_fin2 (nb := []) (by first | exact .inl rfl | exact .inr rfl) rfl (RV_tmp rfl) (RV_tmp rfl) ?sb ?po
      case po =>
        exact ⟨rfl, .inr ⟨(fun d t e => by rw [r1] at e; cases e; exact hne rfl), rfl⟩⟩
      case sb => exact (by repeat (first | exact SubB.nil | exact Pick.here | apply Pick.there | apply SubB.emp | apply SubB.cons))
    · skip
      have hme : m = L.length := by
        simp only [Bool.not_eq_false', decide_eq_true_eq] at hc24
        omega
      refine V_skip ?_
      refine VQ_then ?_
      refine V_seq ?_
      refine V_region ?_
      refine VL_still rfl rfl rfl (S_move rfl) ?_
      refine VL_still rfl rfl rfl (S_move rfl) ?_
      refine VL_still rfl rfl rfl (S_nil rfl) ?_
      refine VL_still rfl rfl rfl (S_field (k := 3) Try.underlying103 rfl rfl ti3 rfl rfl) ?_
      first | refine VL_still rfl rfl rfl (S_load Try.underlying3 rfl rfl (Cell.trk (by repeat (first | exact Has.here | apply Has.there)) rfl)) ?_ | refine VL_still rfl rfl rfl (S_load Try.underlying3 rfl rfl (Cell.known (by first | assumption | exact (by assumption : Sub _ _) _ _ (by assumption) | exact (Sub.trans (by assumption) (by assumption)) _ _ (by assumption)) rfl)) ?_
      refine VL_still rfl rfl rfl (S_struct Try.underlying85 to85 tz85 rfl (by repeat (first | exact BuildR.nil | exact PutR.nil | exact SetL.here | apply SetL.there | apply PutR.cons | apply BuildR.cons rfl (by first | exact ti3 | exact ti83) rfl rfl rfl))) ?_
      refine VL_eff rfl (E_box rfl rfl rfl) ?_
      rintro _ _ _ ⟨b31, hb31, rfl, rfl, rfl⟩
      refine VL_still rfl rfl rfl (S_assign rfl) ?_
      refine VL_still rfl rfl rfl (S_assign rfl) ?_
      refine VL_nil ?_
      refine VQ_then ?_
      refine V_ret ?_
      refine VQ_keeps (blA := [[(b31, .cells (List.toArray [ptr b11, .int .i64 ((0 + (flat d2 t).length : Nat) : Int)]) 85 (0, 0))]]) (by repeat (first | exact Split.nil | exact Pick.here | apply Pick.there | apply Split.cons)) (fun h2 sh2 kh2 => ?_)
      obtain ⟨q1, _⟩ := kh2
      refine VQ_fin2 (nb := []) (by first | exact .inl rfl | exact .inr rfl) rfl (RV_tmp rfl) (RV_tmp rfl) ?sb ?po
      case po =>
        refine ⟨rfl, .inl ⟨d2, t, b31, by rw [r1, hme], rfl, d2, t, b11, ?_, Rp.sub sh2 hR, rd_tok r1 hkeys⟩⟩
        have := q1 _ (List.mem_singleton.2 rfl)
        rwa [Nat.zero_add] at this
      case sb => exact (by repeat (first | exact SubB.nil | exact Pick.here | apply Pick.there | apply SubB.emp | apply SubB.cons))

end Go.Proofs.Ytdglignjoojimaa

/- The law TreeShapes: what is grown is right, and read again. No conditions. -/
set_option linter.unusedVariables false
set_option linter.unusedSimpArgs false
namespace Go.Proofs.Ytdglignjoojimaa

theorem TOk.keys {d : Nat} {t : Tr} {l : List Pr} (h : TOk d t l) : ∀ x ∈ listT d t 0, ∀ k ∈ x.keys, 0 ≤ k ∧ k < top := keys_in h.in_
theorem RdO.tok {h : Hp} {r : Value} {d : Nat} {t : Tr} {l : List Pr} (o : RdO h r (listT d t 0)) (k : TOk d t l) : ∃ A c, r = .tuple #[.slice A l.length c, .bool true] ∧ PL h (.slice A l.length c) l := by
  rcases o with ⟨d', t', v, e, rfl, p⟩ | ⟨hn, _⟩
  · rw [k.back] at e
    cases e
    rw [k.flat_] at p
    obtain ⟨A, c, rfl, _, _⟩ := SlR.form p
    exact ⟨A, c, rfl, p⟩
  · exact absurd k.back (hn _ _)
theorem OfO.tok {h : Hp} {r : Value} {d : Nat} {t : Tr} {l : List Pr} (o : OfO h r (listT d t 0)) (k : TOk d t l) : ∃ b, r = .tuple #[ptr b, .int .i64 0] ∧ TreeAt h b l := by
  rcases o with ⟨d', t', b, e, rfl, p⟩ | ⟨hn, _⟩
  · rw [k.back] at e
    cases e
    rw [k.flat_] at p
    exact ⟨b, rfl, p⟩
  · exact absurd k.back (hn _ _)
theorem nodes_k (d b rb : Nat) (t : Tr) (l : List Pr) (h : Hp) (hb : h b = some (.cells (List.toArray [ptr rb, .int .i64 (l.length : Nat)]) 85 (0, 0))) (hR : Rp h d rb t) (hO : TOk d t l) (hn : l.length ≤ 90000) :
    Con Try.prog 19 [ptr b] h [] (fun r h' nb => nb = [] ∧ NL h' r (listT d t 0)) :=
  (nodes_con d b rb t l h hb hR hO hn).keepAll fun v h' nb h'' ⟨cs, G', B, a, e⟩ s k => ⟨rfl, by subst e; exact BN.kn B k.1 (a.mono fun _ _ r => NdR.sub s r)⟩

set_option maxRecDepth 100000 in
theorem shapes_con (v : Value) (acts : List Ac) (h : Hp) (hs : AL h v acts) (hok : ∀ a ∈ acts, OkA a) : Con Try.prog 6 [v] h [] (fun r h' nb => r = .bool true ∧ nb = []) := by
  obtain ⟨A, cap, rfl, hle, hmx⟩ := SlR.form hs
  refine Con_of Try.func6 rfl Try.ntmps6 (Nat.le_of_ble_eq_true rfl) (fun w0 => ?_)
  refine V_seq ?_
  refine V_region ?_
  refine VL_still rfl rfl rfl (S_assign rfl) ?_
  refine VL_nil ?_
  refine VQ_then ?_
  refine V_seq ?_
  refine V_seq ?_
  refine V_region ?_
  refine VL_eff rfl (E_call rfl rfl rfl Try.call11 (alive_con h) (by repeat (first | exact Split.nil | exact Pick.here | apply Pick.there | apply Split.cons))) ?_
  rintro _ hh9 _ ⟨v9, nb9, ⟨rfl, rfl⟩, hs9, rfl, rfl⟩
  refine VL_still rfl rfl rfl (S_not rfl) ?_
  refine VL_nil ?_
  refine VQ_then ?_
  refine V_cond rfl (fun hc10 => ?_) (fun hc10 => ?_)
  · skip
    simp at hc10
  · skip
    refine V_skip ?_
    refine VQ_then ?_
    refine V_seq ?_
    refine V_seq ?_
    refine V_region ?_
    refine VL_still rfl rfl rfl (S_move rfl) ?_
    refine VL_still rfl rfl rfl (S_len Try.underlying22 rfl) ?_
    refine VL_still rfl rfl rfl (S_gtr rfl rfl) ?_
    refine VL_nil ?_
    refine VQ_then ?_
    refine V_cond rfl (fun hc13 => ?_) (fun hc13 => ?_)
    · skip
      refine V_seq ?_
      refine V_region ?_
      refine VL_still rfl rfl rfl (S_assign rfl) ?_
      refine VL_nil ?_
      refine VQ_then ?_
      refine V_ret ?_
      refine VQ_then_ret ?_
      refine VQ_fin1 (nb := []) (by first | exact .inl rfl | exact .inr rfl) rfl (RV_tmp rfl) ?sb ?po
      case po =>
        exact ⟨rfl, rfl⟩
      case sb => exact (by repeat (first | exact SubB.nil | exact Pick.here | apply Pick.there | apply SubB.emp | apply SubB.cons))
    · skip
      have hlen : acts.length ≤ 300 := by
        have := of_decide_eq_false hc13
        omega
      refine V_skip ?_
      refine VQ_then ?_
      refine V_seq ?_
      refine V_region ?_
      refine VL_still rfl rfl rfl (S_move rfl) ?_
      refine VL_eff rfl (E_call rfl rfl rfl Try.call12 (grown_con _ acts hh9 (hs.sub hs9) hok (by omega)) (by repeat (first | exact Split.nil | exact Pick.here | apply Pick.there | apply Split.cons))) ?_
      rintro _ hh16 _ ⟨v16, nb16, ⟨rfl, b, vl, rfl, hT, hL⟩, hs16, rfl, rfl⟩
      obtain ⟨hgu, hgl⟩ := growP_ok acts.length hok (Nat.le_refl _)
      rw [List.take_length] at hgu hgl
      obtain ⟨Al, cl, rfl, _, _⟩ := SlR.form hL
      obtain ⟨d, t, rb, hb, hR, hO⟩ := hT
      have hcnt := hO.count 0
      refine VL_still rfl rfl rfl (S_move rfl) ?_
      refine VL_still rfl rfl rfl (S_extract rfl rfl) ?_
      refine VL_still rfl rfl rfl (S_extract rfl rfl) ?_
      refine VL_still rfl rfl rfl (S_assign rfl) ?_
      refine VL_still rfl rfl rfl (S_assign rfl) ?_
      refine VL_nil ?_
      refine VQ_then ?_
      refine V_seq ?_
      refine V_seq ?_
      refine V_region ?_
      refine VL_still rfl rfl rfl (S_move rfl) ?_
      refine VL_still rfl rfl rfl (S_peqnil Try.underlying25 rfl rfl) ?_
      refine VL_nil ?_
      refine VQ_then ?_
      refine V_cond rfl (fun hc20 => ?_) (fun hc20 => ?_)
      · skip
        simp at hc20
      · skip
        refine V_skip ?_
        refine VQ_then ?_
        refine V_seq ?_
        refine V_region ?_
        refine VL_still rfl rfl rfl (S_move rfl) ?_
        refine VL_eff rfl (E_call rfl rfl rfl Try.call19 (nodes_k d b rb t _ hh16 hb hR hO (by omega)) (by repeat (first | exact Split.nil | exact Pick.here | apply Pick.there | apply Split.cons))) ?_
        rintro _ hh23 _ ⟨v23, nb23, ⟨rfl, hN1⟩, hs23, rfl, rfl⟩
        obtain ⟨AN, cN, rfl, _, _⟩ := hN1.form
        refine VL_eff rfl (E_call rfl rfl rfl Try.call22 (rread_con _ _ hh23 hN1 (by omega)) (by repeat (first | exact Split.nil | exact Pick.here | apply Pick.there | apply Split.cons))) ?_
        rintro _ hh24 _ ⟨v24, nb24, ⟨rfl, hRd⟩, hs24, rfl, rfl⟩
        obtain ⟨Ar, cr, rfl, hL2⟩ := hRd.tok hO
        refine VL_still rfl rfl rfl (S_move rfl) ?_
        refine VL_still rfl rfl rfl (S_extract rfl rfl) ?_
        refine VL_still rfl rfl rfl (S_extract rfl rfl) ?_
        refine VL_still rfl rfl rfl (S_assign rfl) ?_
        refine VL_still rfl rfl rfl (S_assign rfl) ?_
        refine VL_nil ?_
        refine VQ_then ?_
        refine V_seq ?_
        refine V_seq ?_
        refine V_region ?_
        refine VL_still rfl rfl rfl (S_move rfl) ?_
        refine VL_still rfl rfl rfl (S_not rfl) ?_
        refine VL_still rfl rfl rfl (S_move rfl) ?_
        refine VL_bool 29 rfl (fun hc29 => ?_) (fun hc29 => ?_)
        · skip
          simp at hc29
        · skip
          refine VL_still rfl rfl rfl (S_move rfl) ?_
          refine VL_still rfl rfl rfl (S_move rfl) ?_
          refine VL_eff rfl (E_call rfl rfl rfl Try.call14 (same_con _ _ _ _ hh24 hL2 (hL.sub (hs23.trans hs24)) (by omega) (by omega)) (by repeat (first | exact Split.nil | exact Pick.here | apply Pick.there | apply Split.cons))) ?_
          rintro _ hh32 _ ⟨v32, nb32, ⟨rfl, rfl, rfl⟩, hs32, rfl, rfl⟩
          rw [show decide (growP acts = growP acts) = true from decide_eq_true rfl]
          refine VL_still rfl rfl rfl (S_not rfl) ?_
          first | refine VL_still rfl rfl rfl (S_pick_t rfl rfl) ?_ | refine VL_still rfl rfl rfl (S_pick_f rfl rfl) ?_
          refine VL_nil ?_
          refine VQ_then ?_
          refine V_cond rfl (fun hc34 => ?_) (fun hc34 => ?_)
          · skip
            simp at hc34
          · skip
            refine V_skip ?_
            refine VQ_then ?_
            refine V_seq ?_
            refine V_region ?_
            refine VL_still rfl rfl rfl (S_move rfl) ?_
            refine VL_eff rfl (E_call rfl rfl rfl Try.call19 (nodes_k d b rb t _ hh24 (hs24 _ _ (hs23 _ _ hb)) (Rp.sub (hs23.trans hs24) hR) hO (by omega)) (by repeat (first | exact Split.nil | exact Pick.here | apply Pick.there | apply Split.cons))) ?_
            rintro _ hh37 _ ⟨v37, nb37, ⟨rfl, hN2⟩, hs37, rfl, rfl⟩
            obtain ⟨AM, cM, rfl, _, _⟩ := hN2.form
            refine VL_eff rfl (E_call rfl rfl rfl Try.call23 (of_con _ _ hh37 hN2 (by omega) hO.keys) (by repeat (first | exact Split.nil | exact Pick.here | apply Pick.there | apply Split.cons))) ?_
            rintro _ hh38 _ ⟨v38, nb38, ⟨rfl, hOf⟩, hs38, rfl, rfl⟩
            obtain ⟨b2, rfl, hT2⟩ := hOf.tok hO
            refine VL_still rfl rfl rfl (S_move rfl) ?_
            refine VL_still rfl rfl rfl (S_extract rfl rfl) ?_
            refine VL_still rfl rfl rfl (S_extract rfl rfl) ?_
            refine VL_still rfl rfl rfl (S_assign rfl) ?_
            refine VL_still rfl rfl rfl (S_assign rfl) ?_
            refine VL_nil ?_
            refine VQ_then ?_
            refine V_seq ?_
            refine V_region ?_
            refine VL_still rfl rfl rfl (S_move rfl) ?_
            refine VL_still rfl rfl rfl (S_eql rfl rfl) ?_
            refine VL_still rfl rfl rfl (S_move rfl) ?_
            refine VL_bool 43 rfl (fun hc43 => ?_) (fun hc43 => ?_)
            · skip
              refine VL_still rfl rfl rfl (S_move rfl) ?_
              refine VL_still rfl rfl rfl (S_pnenil Try.underlying25 rfl rfl) ?_
              first | refine VL_still rfl rfl rfl (S_pick_t rfl rfl) ?_ | refine VL_still rfl rfl rfl (S_pick_f rfl rfl) ?_
              refine VL_still rfl rfl rfl (S_move rfl) ?_
              refine VL_bool 47 rfl (fun hc47 => ?_) (fun hc47 => ?_)
              · skip
                refine VL_still rfl rfl rfl (S_move rfl) ?_
                refine VL_eff rfl (E_call rfl rfl rfl Try.call15 (range_k b2 _ 0 18446744073709551615 hh38 hT2 (by omega)) (by repeat (first | exact Split.nil | exact Pick.here | apply Pick.there | apply Split.cons))) ?_
                rintro _ hh49 _ ⟨v49, nb49, ⟨rfl, hR3⟩, hs49, rfl, rfl⟩
                rw [rangeP_all hgu] at hR3
                refine VL_still rfl rfl rfl (S_move rfl) ?_
                refine VL_eff rfl (E_call rfl rfl rfl Try.call14 (same_con _ _ _ _ hh49 hR3 (hL.sub (hs23.trans (hs24.trans (hs37.trans (hs38.trans hs49))))) (by omega) (by omega)) (by repeat (first | exact Split.nil | exact Pick.here | apply Pick.there | apply Split.cons))) ?_
                rintro _ hh51 _ ⟨v51, nb51, ⟨rfl, rfl, rfl⟩, hs51, rfl, rfl⟩
                rw [show decide (growP acts = growP acts) = true from decide_eq_true rfl]
                first | refine VL_still rfl rfl rfl (S_pick_t rfl rfl) ?_ | refine VL_still rfl rfl rfl (S_pick_f rfl rfl) ?_
                refine VL_still rfl rfl rfl (S_move rfl) ?_
                refine VL_bool 53 rfl (fun hc53 => ?_) (fun hc53 => ?_)
                · skip
                  refine VL_still rfl rfl rfl (S_move rfl) ?_
                  refine VL_eff rfl (E_call rfl rfl rfl Try.call13 (len_con b2 _ hh49 (hT2.sub hs49)) (by repeat (first | exact Split.nil | exact Pick.here | apply Pick.there | apply Split.cons))) ?_
                  rintro _ hh55 _ ⟨v55, nb55, ⟨rfl, rfl, rfl⟩, hs55, rfl, rfl⟩
                  refine VL_still rfl rfl rfl (S_move rfl) ?_
                  refine VL_still rfl rfl rfl (S_len Try.underlying26 rfl) ?_
                  refine VL_still rfl rfl rfl (S_eql rfl rfl) ?_
                  first | refine VL_still rfl rfl rfl (S_pick_t rfl rfl) ?_ | refine VL_still rfl rfl rfl (S_pick_f rfl rfl) ?_
                  refine VL_still rfl rfl rfl (S_assign rfl) ?_
                  refine VL_nil ?_
                  refine VQ_then ?_
                  refine V_ret ?_
                  refine VQ_fin1 (nb := []) (by first | exact .inl rfl | exact .inr rfl) rfl (RV_tmp rfl) ?sb ?po
                  case po =>
                    exact ⟨by simp, rfl⟩
                  case sb => exact (by repeat (first | exact SubB.nil | exact Pick.here | apply Pick.there | apply SubB.emp | apply SubB.cons))
                · skip
                  simp at hc53
              · skip
                simp at hc47
            · skip
              simp at hc43

end Go.Proofs.Ytdglignjoojimaa

/- Joins in a region that draws its order: a state that several orders reach is walked once. No conditions. -/
set_option linter.unusedVariables false
set_option linter.unusedSimpArgs false
namespace Go.Proofs.Ytdglignjoojimaa
section
variable {X : Cx} {P : Program} {N : Nat} {ops : Array Oper} {hS h : Hp} {blS bl : Bl} {B : List Nat} {E M F n i : Nat} {Z : Act → World → Prop} {on : Bool} {l : List Nat} {σ σ' : List (Nat × Value)} {bl' : Bl}
theorem VB_weak (hs : SubF σ σ') (hb : SubB bl bl') (k : VB X P N ops hS blS B E M F Z on n l σ' h bl') : VB X P N ops hS blS B E M F Z on n l σ h bl :=
  fun a w ha hr hk => k a w (ha.sub hs) (hr.sub hb) hk
theorem VB_join {ι : Type} (pre : ι → Prop) (S : ι → List (Nat × Value)) (B' : ι → Bl) (on' : Bool) (n' : Nat) (l' : List Nat) (k' : ∀ j, pre j → VB X P N ops hS blS B E M F Z on' n' l' (S j) h (B' j))
    (k : (∀ j, pre j → VB X P N ops hS blS B E M F Z on' n' l' (S j) h (B' j)) → VB X P N ops hS blS B E M F Z on n l σ h bl) : VB X P N ops hS blS B E M F Z on n l σ h bl := k k'
end
end Go.Proofs.Ytdglignjoojimaa
