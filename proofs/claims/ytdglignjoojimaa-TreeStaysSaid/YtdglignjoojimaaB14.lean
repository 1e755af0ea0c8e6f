/- The laws' common parts: the example, what is grown. No conditions. -/
import Derived.Test.YtdglignjoojimaaB13
set_option linter.unusedVariables false
set_option linter.unusedSimpArgs false
namespace Go.Proofs.Ytdglignjoojimaa

theorem TOk.flat0 {d : Nat} {t : Tr} {l : List Pr} (h : TOk d t l) (hl : l.length < 6) : (listT d t 0).length = 1 := by
  cases d with
  | zero =>
    cases t with
    | node ks ts => exact absurd h.in_ (by simp [In])
    | leaf l => rfl
  | succ d =>
    exfalso
    cases t with
    | leaf l => exact absurd h.in_ (by simp [In])
    | node ks ts =>
      have hs := h.in_.shA
      obtain ⟨hsl, hs⟩ := hs
      have hk : ∀ x ∈ ts, 3 ≤ nk x ∧ nk x ≤ 7 ∧ Kd d x := h.kids
      have h1 : 1 ≤ ks.length := h.some_ (by omega)
      have hc := kids_count (d := d) (ts := ts) 0 (fun x hx a => node_count a (hs x hx) (hk x hx))
      have hf := h.flat_
      rw [flat_s] at hf
      rw [hf] at hc
      have hpos : ts.length ≤ (kidsT (listT d) ts 0).2.length := by
        have : ∀ (ts : List Tr) (a : Nat), (∀ x ∈ ts, ShA d x) → ts.length ≤ (kidsT (listT d) ts a).2.length := by
          intro ts
          induction ts with
          | nil => intro a _; simp [kidsT]
          | cons x ts ih =>
            intro a hx
            have h1 : 1 ≤ (listT d x a).length := by
              have := hx x (by simp)
              cases d with
              | zero => cases x with
                | leaf l => simp [listT]
                | node ks ts => exact this.elim
              | succ d => cases x with
                | leaf l => exact this.elim
                | node ks ts => rw [listT_s]; simp
            have := ih (a + (listT d x a).length) (fun y hy => hx y (List.mem_cons_of_mem _ hy))
            simp only [kidsT, List.length_append, List.length_cons]; omega
        exact this ts 0 hs
      omega
/-- What is done, laid in cells. -/
def ac (a : Ac) : List Value := [.int .i64 a.k, .int .u64 a.key, .int .i64 a.s, .int .i64 a.l]
theorem acE : Enc ac 4 := ⟨fun _ => rfl, fun _ => rfl⟩
abbrev acs (l : List Ac) : List Value := l.flatMap ac
abbrev AL (h : Hp) (v : Value) (l : List Ac) : Prop := SlR h [] v l.length (acs l) 4
def OkA (a : Ac) : Prop := 0 ≤ a.key ∧ a.key < top
theorem PL.sub {h h' : Hp} {v : Value} {l : List Pr} (p : PL h v l) (s : Sub h h') : PL h' v l := SlR.sub p s
theorem AL.sub {h h' : Hp} {v : Value} {l : List Ac} (p : AL h v l) (s : Sub h h') : AL h' v l := SlR.sub p s

theorem rput_k (v : Value) (l : List Pr) (h : Hp) (hs : PL h v l) (hn : l.length ≤ 100000) (k s n lo hi : Int) (hu : Up lo hi (keysP l)) : Con Try.prog 25 [v, .int .u64 k, .agg #[.int .i64 s, .int .i64 n]] h [] (fun r h' nb => nb = [] ∧ PL h' r (insP l k (s, n))) :=
  (rput_con v l h hs hn k s n lo hi hu).keepAll fun v h' nb h'' ⟨_, G', B, e⟩ s k => ⟨rfl, by subst e; exact B.kn k.1⟩

theorem rdel_k (v : Value) (l : List Pr) (h : Hp) (hs : PL h v l) (hn : l.length ≤ 100000) (k : Int) : Con Try.prog 26 [v, .int .u64 k] h [] (fun r h' nb => nb = [] ∧ PL h' r (delP l k)) :=
  (rdel_con v l h hs hn k).keepAll fun v h' nb h'' ⟨_, G', B, e⟩ s k => ⟨rfl, by subst e; exact B.kn k.1⟩

theorem rrange_k (v : Value) (l : List Pr) (h : Hp) (hs : PL h v l) (hn : l.length ≤ 100000) (k to : Int) : Con Try.prog 16 [v, .int .u64 k, .int .u64 to] h [] (fun r h' nb => nb = [] ∧ PL h' r (rangeP k to l)) :=
  (rrange_con v l h hs hn k to).keepAll fun v h' nb h'' ⟨_, G', B, e⟩ s k => ⟨rfl, by subst e; exact B.kn k.1⟩

theorem range_k (b : Nat) (l : List Pr) (k to : Int) (h : Hp) (hT : TreeAt h b l) (hn : l.length ≤ 900000) : Con Try.prog 15 [ptr b, .int .u64 k, .int .u64 to] h [] (fun r h' nb => nb = [] ∧ PL h' r (rangeP k to l)) :=
  (range_con b l k to h hT hn).keepAll fun v h' nb h'' ⟨G', B, e⟩ s k => ⟨rfl, by subst e; exact B.kn k.1⟩

set_option maxRecDepth 100000 in
theorem alive_con (h : Hp) : Con Try.prog 11 [] h [] (fun r h' nb => r = .bool true ∧ nb = []) := by
  refine Con_of Try.func11 rfl Try.ntmps11 (Nat.le_of_ble_eq_true rfl) (fun w0 => ?_)
  refine V_seq ?_
  refine V_region ?_
  refine VL_still rfl rfl rfl (S_assign rfl) ?_
  refine VL_nil ?_
  refine VQ_then ?_
  refine V_seq ?_
  refine V_region ?_
  refine VL_eff rfl (E_call rfl rfl rfl Try.call36 (new_con h) (by repeat (first | exact Split.nil | exact Pick.here | apply Pick.there | apply Split.cons))) ?_
  rintro _ hh4 _ ⟨v4, nb4, ⟨rfl, b, rfl, hT⟩, hs4, rfl, rfl⟩
  refine VL_still rfl rfl rfl (S_assign rfl) ?_
  refine VL_nil ?_
  refine VQ_then ?_
  refine V_seq ?_
  refine V_seq ?_
  refine V_region ?_
  refine VL_still rfl rfl rfl (S_move rfl) ?_
  refine VL_still rfl rfl rfl (S_peqnil Try.underlying25 rfl rfl) ?_
  refine VL_still rfl rfl rfl (S_move rfl) ?_
  refine VL_bool 7 rfl (fun hc7 => ?_) (fun hc7 => ?_)
  · skip
    simp at hc7
  · skip
    refine VL_still rfl rfl rfl (S_move rfl) ?_
    refine VL_eff rfl (E_call rfl rfl rfl Try.call13 (len_con b [] hh4 hT) (by repeat (first | exact Split.nil | exact Pick.here | apply Pick.there | apply Split.cons))) ?_
    rintro _ hh9 _ ⟨v9, nb9, ⟨rfl, rfl, rfl⟩, hs9, rfl, rfl⟩
    refine VL_still rfl rfl rfl (S_neq rfl rfl) ?_
    first | refine VL_still rfl rfl rfl (S_pick_t rfl rfl) ?_ | refine VL_still rfl rfl rfl (S_pick_f rfl rfl) ?_
    refine VL_nil ?_
    refine VQ_then ?_
    refine V_cond rfl (fun hc11 => ?_) (fun hc11 => ?_)
    · skip
      simp at hc11
    · skip
      refine V_skip ?_
      refine VQ_then ?_
      refine V_seq ?_
      refine V_region ?_
      refine VL_still rfl rfl rfl (S_move rfl) ?_
      refine VL_still rfl rfl rfl (S_struct Try.underlying34 to34 tz34 rfl (by repeat (first | exact BuildR.nil | exact PutR.nil | exact SetL.here | apply SetL.there | apply PutR.cons | apply BuildR.cons rfl (by first | exact ti3) rfl rfl rfl))) ?_
      refine VL_eff rfl (E_call rfl rfl rfl Try.call20 (tput_con b [] hh4 hT 5 1 1 (by omega) (by decide) (by simp)) (by repeat (first | exact Split.nil | exact Pick.here | apply Pick.there | apply Split.cons))) ?_
      rintro _ hh14 _ ⟨v14, nb14, ⟨rfl, b1, rfl, hT1⟩, hs14, rfl, rfl⟩
      refine VL_still rfl rfl rfl (S_struct Try.underlying34 to34 tz34 rfl (by repeat (first | exact BuildR.nil | exact PutR.nil | exact SetL.here | apply SetL.there | apply PutR.cons | apply BuildR.cons rfl (by first | exact ti3) rfl rfl rfl))) ?_
      refine VL_eff rfl (E_call rfl rfl rfl Try.call20 (tput_con b1 _ hh14 hT1 3 2 1 (by omega) (by decide) (by decide)) (by repeat (first | exact Split.nil | exact Pick.here | apply Pick.there | apply Split.cons))) ?_
      rintro _ hh16 _ ⟨v16, nb16, ⟨rfl, b2, rfl, hT2⟩, hs16, rfl, rfl⟩
      rw [show insP (insP [] 5 (1, 1)) 3 (2, 1) = [((3 : Int), (2 : Int), (1 : Int)), (5, 1, 1)] by decide] at hT2
      refine VL_still rfl rfl rfl (S_assign rfl) ?_
      refine VL_nil ?_
      refine VQ_then ?_
      refine V_seq ?_
      refine V_seq ?_
      refine V_region ?_
      refine VL_still rfl rfl rfl (S_move rfl) ?_
      refine VL_still rfl rfl rfl (S_peqnil Try.underlying25 rfl rfl) ?_
      refine VL_nil ?_
      refine VQ_then ?_
      refine V_cond rfl (fun hc18 => ?_) (fun hc18 => ?_)
      · skip
        simp at hc18
      · skip
        refine V_skip ?_
        refine VQ_then ?_
        refine V_seq ?_
        refine V_region ?_
        refine VL_still rfl rfl rfl (S_move rfl) ?_
        refine VL_eff rfl (E_call rfl rfl rfl Try.call15 (range_con b2 _ 0 9 hh16 hT2 (by decide)) (by repeat (first | exact Split.nil | exact Pick.here | apply Pick.there | apply Split.cons))) ?_
        rintro _ hh20 _ ⟨v20, nb20, ⟨G, hB, rfl⟩, hs20, rfl, rfl⟩
        rw [show rangeP 0 9 [((3 : Int), (2 : Int), (1 : Int)), (5, 1, 1)] = [((3 : Int), (2 : Int), (1 : Int)), (5, 1, 1)] by decide] at hB
        obtain ⟨bo, co, sp, rfl, rfl, _, _, _, _⟩ := Buf.blk hB (by decide)
        refine VL_still rfl rfl rfl (S_assign rfl) ?_
        refine VL_nil ?_
        refine VQ_then ?_
        refine V_seq ?_
        refine V_region ?_
        refine VL_still rfl rfl rfl (S_move rfl) ?_
        refine VL_still rfl rfl rfl (S_len Try.underlying26 rfl) ?_
        refine VL_still rfl rfl rfl (S_eql rfl rfl) ?_
        refine VL_still rfl rfl rfl (S_move rfl) ?_
        refine VL_bool 24 rfl (fun hc24 => ?_) (fun hc24 => ?_)
        · skip
          refine VL_still rfl rfl rfl (S_move rfl) ?_
          refine VL_still rfl rfl rfl (X_at 0 Try.underlying26 tx47 rfl rfl (by decide)) ?_
          refine VL_still rfl rfl rfl (S_field (k := 0) Try.underlying47 rfl rfl ti23 rfl rfl) ?_
          first | refine VL_still rfl rfl rfl (S_load Try.underlying23 rfl rfl (Cell.trk (by repeat (first | exact Has.here | apply Has.there)) rfl)) ?_ | refine VL_still rfl rfl rfl (S_load Try.underlying23 rfl rfl (Cell.known (by first | assumption | exact (by assumption : Sub _ _) _ _ (by assumption) | exact (Sub.trans (by assumption) (by assumption)) _ _ (by assumption)) rfl)) ?_
          refine VL_still rfl rfl rfl (S_eql rfl rfl) ?_
          first | refine VL_still rfl rfl rfl (S_pick_t rfl rfl) ?_ | refine VL_still rfl rfl rfl (S_pick_f rfl rfl) ?_
          refine VL_still rfl rfl rfl (S_move rfl) ?_
          refine VL_bool 31 rfl (fun hc31 => ?_) (fun hc31 => ?_)
          · skip
            refine VL_still rfl rfl rfl (S_move rfl) ?_
            refine VL_still rfl rfl rfl (X_at 1 Try.underlying26 tx47 rfl rfl (by decide)) ?_
            refine VL_still rfl rfl rfl (S_field (k := 0) Try.underlying47 rfl rfl ti23 rfl rfl) ?_
            first | refine VL_still rfl rfl rfl (S_load Try.underlying23 rfl rfl (Cell.trk (by repeat (first | exact Has.here | apply Has.there)) rfl)) ?_ | refine VL_still rfl rfl rfl (S_load Try.underlying23 rfl rfl (Cell.known (by first | assumption | exact (by assumption : Sub _ _) _ _ (by assumption) | exact (Sub.trans (by assumption) (by assumption)) _ _ (by assumption)) rfl)) ?_
            refine VL_still rfl rfl rfl (S_eql rfl rfl) ?_
            first | refine VL_still rfl rfl rfl (S_pick_t rfl rfl) ?_ | refine VL_still rfl rfl rfl (S_pick_f rfl rfl) ?_
            refine VL_still rfl rfl rfl (S_move rfl) ?_
            refine VL_bool 38 rfl (fun hc38 => ?_) (fun hc38 => ?_)
            · skip
              obtain ⟨d2, t2, rb2, hb2, hR2, hO2⟩ := hT2
              refine VL_still rfl rfl rfl (S_move rfl) ?_
              refine VL_eff rfl (E_call rfl rfl rfl Try.call19 (nodes_con d2 b2 rb2 t2 _ hh20 (hs20 _ _ hb2) (Rp.sub hs20 hR2) hO2 (by decide)) (by repeat (first | exact Split.nil | exact Pick.here | apply Pick.there | apply Split.cons))) ?_
              rintro _ hh40 _ ⟨v40, nb40, ⟨cs, G40, hB40, hA40, rfl⟩, hs40, rfl, rfl⟩
              have hcl := hA40.len
              rw [hO2.flat0 (by decide)] at hcl
              obtain ⟨A40, c40, rfl, _, _⟩ := Buf.form hB40
              refine VL_still rfl rfl rfl (S_len Try.underlying41 rfl) ?_
              refine VL_still rfl rfl rfl (S_eql rfl rfl) ?_
              first | refine VL_still rfl rfl rfl (S_pick_t rfl rfl) ?_ | refine VL_still rfl rfl rfl (S_pick_f rfl rfl) ?_
              refine VL_still rfl rfl rfl (S_move rfl) ?_
              refine VL_bool 44 rfl (fun hc44 => ?_) (fun hc44 => ?_)
              · skip
                refine VL_still rfl rfl rfl (S_move rfl) ?_
                refine VL_eff rfl (E_call rfl rfl rfl Try.call13 (len_con b2 _ hh40 ⟨d2, t2, rb2, hs40 _ _ (hs20 _ _ hb2), Rp.sub (hs20.trans hs40) hR2, hO2⟩) (by repeat (first | exact Split.nil | exact Pick.here | apply Pick.there | apply Split.cons))) ?_
                rintro _ hh46 _ ⟨v46, nb46, ⟨rfl, rfl, rfl⟩, hs46, rfl, rfl⟩
                refine VL_still rfl rfl rfl (S_eql rfl rfl) ?_
                first | refine VL_still rfl rfl rfl (S_pick_t rfl rfl) ?_ | refine VL_still rfl rfl rfl (S_pick_f rfl rfl) ?_
                refine VL_still rfl rfl rfl (S_move rfl) ?_
                refine VL_bool 49 rfl (fun hc49 => ?_) (fun hc49 => ?_)
                · skip
                  refine VL_still rfl rfl rfl (S_move rfl) ?_
                  refine VL_eff rfl (E_call rfl rfl rfl Try.call13 (len_con b [] hh40 (hT.sub (hs14.trans (hs16.trans (hs20.trans hs40))))) (by repeat (first | exact Split.nil | exact Pick.here | apply Pick.there | apply Split.cons))) ?_
                  rintro _ hh51 _ ⟨v51, nb51, ⟨rfl, rfl, rfl⟩, hs51, rfl, rfl⟩
                  refine VL_still rfl rfl rfl (S_eql rfl rfl) ?_
                  first | refine VL_still rfl rfl rfl (S_pick_t rfl rfl) ?_ | refine VL_still rfl rfl rfl (S_pick_f rfl rfl) ?_
                  refine VL_still rfl rfl rfl (S_assign rfl) ?_
                  refine VL_nil ?_
                  refine VQ_then ?_
                  refine V_ret ?_
                  refine VQ_fin1 (nb := []) (by first | exact .inl rfl | exact .inr rfl) rfl (RV_tmp rfl) ?sb ?po
                  case po =>
                    exact ⟨rfl, rfl⟩
                  case sb => exact (by repeat (first | exact SubB.nil | exact Pick.here | apply Pick.there | apply SubB.emp | apply SubB.cons))
                · skip
                  simp at hc49
              · skip
                simp [hcl] at hc44
            · skip
              simp at hc38
          · skip
            simp at hc31
        · skip
          simp at hc24

set_option maxRecDepth 100000 in
theorem grown_con (v : Value) (acts : List Ac) (h : Hp) (hs : AL h v acts) (hok : ∀ a ∈ acts, OkA a) (hn : acts.length ≤ 10000) : Con Try.prog 12 [v] h [] (fun r h' nb => nb = [] ∧ ∃ b vl, r = .tuple #[ptr b, vl] ∧ TreeAt h' b (growP acts) ∧ PL h' vl (growP acts)) := by
  obtain ⟨A, cap, rfl, hle, hmx⟩ := SlR.form hs
  refine Con_of Try.func12 rfl Try.ntmps12 (Nat.le_of_ble_eq_true rfl) (fun w0 => ?_)
  refine V_seq ?_
  refine V_region ?_
  refine VL_still rfl rfl rfl (S_assign rfl) ?_
  refine VL_still rfl rfl rfl (S_assign rfl) ?_
  refine VL_nil ?_
  refine VQ_then ?_
  refine V_seq ?_
  refine V_region ?_
  refine VL_eff rfl (E_call rfl rfl rfl Try.call36 (new_con h) (by repeat (first | exact Split.nil | exact Pick.here | apply Pick.there | apply Split.cons))) ?_
  rintro _ hh8 _ ⟨v8, nb8, ⟨rfl, b0, rfl, hT0⟩, hs8, rfl, rfl⟩
  refine VL_still rfl rfl rfl (S_assign rfl) ?_
  refine VL_nil ?_
  refine VQ_then ?_
  refine V_seq ?_
  refine V_region ?_
  refine VL_eff rfl (E_bs0 rfl Try.underlying26 ti47) ?_
  rintro _ _ _ ⟨b9, hb9, rfl, rfl, rfl⟩
  refine VL_still rfl rfl rfl (S_assign rfl) ?_
  refine VL_nil ?_
  refine VQ_then ?_
  refine V_seq ?_
  refine V_seq ?_
  refine V_keeps (blA := [[(b9, .cells (List.toArray []) 47 (0, 0))]]) (by repeat (first | exact Split.nil | exact Pick.here | apply Pick.there | apply Split.cons)) (fun h1 sh1 kh1 => ?_)
  refine V_region ?_
  refine VL_still rfl rfl rfl (S_move rfl) ?_
  refine VL_still rfl rfl rfl (S_len Try.underlying22 rfl) ?_
  refine VL_still rfl rfl rfl (S_move rfl) ?_
  refine VL_nil ?_
  refine VQ_then ?_
  refine V_block ?_
  refine V_loop (ι := Nat × Hp × Nat × Value) (fun x => acts.length - x.1) (fun (i, hh, b, vl) => i ≤ acts.length ∧ Sub h1 hh ∧ TreeAt hh b (growP (acts.take i)) ∧ PL hh vl (growP (acts.take i))) (fun (i, hh, b, vl) => [(0, (.slice A acts.length cap)), (4, ptr b), (5, vl), (10, (.slice A acts.length cap)), (11, .int .i64 acts.length), (12, .int .i64 i)]) (fun (i, hh, b, vl) => hh) (fun _ => []) (0, h1, b0, .slice (some ⟨b9, 0, none⟩) 0 0) ⟨Nat.zero_le _, Sub.refl _, hT0.sub sh1, (Buf.lit (n := 0) (cs := []) (e := 47) rfl (by omega)).known kh1.1⟩ (by repeat (first | exact trivial | refine ⟨rfl, ?_⟩)) rfl (by repeat (first | exact SubB.nil | exact Pick.here | apply Pick.there | apply SubB.emp | apply SubB.cons)) (fun ⟨i, hh, b, vl⟩ hi => ?_)
  obtain ⟨hi1, hs1, hT, hL⟩ := hi
  simp only at hi1 hs1 hT hL ⊢
  obtain ⟨hgu, hgl⟩ := growP_ok i hok hi1
  have hs' := hs.sub ((hs8.trans sh1).trans hs1)
  refine V_seq ?_
  refine V_region ?_
  refine VL_still rfl rfl rfl (S_lss rfl rfl) ?_
  refine VL_nil ?_
  refine VQ_then ?_
  refine V_seq ?_
  refine V_cond rfl (fun hc13 => ?_) (fun hc13 => ?_)
  · skip
    have hlt : i < acts.length := by
      have := of_decide_eq_true hc13
      omega
    obtain ⟨bb, off, cap', e1, hcc⟩ := SlR.at_ acE hs' rfl hlt
    simp only [Value.slice.injEq] at e1
    obtain ⟨rfl, _, rfl⟩ := e1
    have hsn := growP_snoc acts i hlt
    obtain ⟨k0, k1⟩ := hok acts[i] (List.getElem_mem hlt)
    refine V_skip ?_
    refine VQ_then ?_
    refine V_seq ?_
    refine V_block ?_
    refine V_seq ?_
    refine V_region ?_
    refine VL_still rfl rfl rfl (X_at i Try.underlying22 tx36 rfl rfl hlt) ?_
    refine VL_still rfl rfl rfl (S_loads (vs := ac acts[i]) Try.underlying36 rfl ti36 rfl rfl (hcc.mono (Sub.refl _) (fun q hq => by simp at hq))) ?_
    refine VL_eff rfl (E_alloc rfl tz36) ?_
    rintro _ _ _ ⟨b7, hb7, rfl, rfl, rfl⟩
    refine VL_eff rfl (E_store ti36 rfl rfl rfl rfl rfl (by repeat (first | exact Has.here | apply Has.there)) (by repeat (first | exact PutR.nil | exact SetL.here | apply SetL.there | apply PutR.cons)) (by repeat (first | exact UpdG.here | apply UpdG.there))) ?_
    rintro _ _ _ ⟨rfl, rfl, rfl⟩
    refine VL_nil ?_
    refine VQ_then ?_
    refine V_seq ?_
    refine V_region ?_
    refine VL_still rfl rfl rfl (S_field (k := 0) Try.underlying36 rfl rfl ti3 rfl rfl) ?_
    first | refine VL_still rfl rfl rfl (S_load Try.underlying3 rfl rfl (Cell.trk (by repeat (first | exact Has.here | apply Has.there)) rfl)) ?_ | refine VL_still rfl rfl rfl (S_load Try.underlying3 rfl rfl (Cell.known (by first | assumption | exact (by assumption : Sub _ _) _ _ (by assumption) | exact (Sub.trans (by assumption) (by assumption)) _ _ (by assumption)) rfl)) ?_
    refine VL_still rfl rfl rfl (S_eql rfl rfl) ?_
    refine VL_nil ?_
    refine VQ_then ?_
    refine V_cond rfl (fun hc18 => ?_) (fun hc18 => ?_)
    · skip
      have hk : acts[i].k = 0 := of_decide_eq_true hc18
      have hst : stepP (growP (acts.take i)) acts[i] = insP (growP (acts.take i)) acts[i].key (acts[i].s, acts[i].l) := if_pos hk
      refine V_seq ?_
      refine V_region ?_
      refine VL_still rfl rfl rfl (S_move rfl) ?_
      refine VL_still rfl rfl rfl (S_field (k := 1) Try.underlying36 rfl rfl ti23 rfl rfl) ?_
      first | refine VL_still rfl rfl rfl (S_load Try.underlying23 rfl rfl (Cell.trk (by repeat (first | exact Has.here | apply Has.there)) rfl)) ?_ | refine VL_still rfl rfl rfl (S_load Try.underlying23 rfl rfl (Cell.known (by first | assumption | exact (by assumption : Sub _ _) _ _ (by assumption) | exact (Sub.trans (by assumption) (by assumption)) _ _ (by assumption)) rfl)) ?_
      refine VL_still rfl rfl rfl (S_field (k := 2) Try.underlying36 rfl rfl ti34 rfl rfl) ?_
      refine VL_still rfl rfl rfl (S_loads (vs := [.int .i64 acts[i].s, .int .i64 acts[i].l]) Try.underlying34 rfl ti34 rfl rfl (Cells.trk (by repeat (first | exact Has.here | apply Has.there)) (by repeat (first | exact TakeR.here (by repeat (first | exact HeadR.nil | apply HeadR.cons)) | apply TakeR.there)))) ?_
      refine VL_eff rfl (E_call rfl rfl rfl Try.call20 (tput_con b _ hh hT acts[i].key acts[i].s acts[i].l k0 k1 (by omega)) (by repeat (first | exact Split.nil | exact Pick.here | apply Pick.there | apply Split.cons))) ?_
      rintro _ hh24 _ ⟨v24, nb24, ⟨rfl, b2, rfl, hT2⟩, hs24, rfl, rfl⟩
      refine VL_still rfl rfl rfl (S_assign rfl) ?_
      refine VL_nil ?_
      refine VQ_then ?_
      refine V_region ?_
      refine VL_still rfl rfl rfl (S_move rfl) ?_
      refine VL_still rfl rfl rfl (S_field (k := 1) Try.underlying36 rfl rfl ti23 rfl rfl) ?_
      first | refine VL_still rfl rfl rfl (S_load Try.underlying23 rfl rfl (Cell.trk (by repeat (first | exact Has.here | apply Has.there)) rfl)) ?_ | refine VL_still rfl rfl rfl (S_load Try.underlying23 rfl rfl (Cell.known (by first | assumption | exact (by assumption : Sub _ _) _ _ (by assumption) | exact (Sub.trans (by assumption) (by assumption)) _ _ (by assumption)) rfl)) ?_
      refine VL_still rfl rfl rfl (S_field (k := 2) Try.underlying36 rfl rfl ti34 rfl rfl) ?_
      refine VL_still rfl rfl rfl (S_loads (vs := [.int .i64 acts[i].s, .int .i64 acts[i].l]) Try.underlying34 rfl ti34 rfl rfl (Cells.trk (by repeat (first | exact Has.here | apply Has.there)) (by repeat (first | exact TakeR.here (by repeat (first | exact HeadR.nil | apply HeadR.cons)) | apply TakeR.there)))) ?_
      refine VL_eff rfl (E_call rfl rfl rfl Try.call25 (rput_k vl _ hh24 (hL.sub hs24) (by omega) acts[i].key acts[i].s acts[i].l 0 top hgu) (by repeat (first | exact Split.nil | exact Pick.here | apply Pick.there | apply Split.cons))) ?_
      rintro _ hh30 _ ⟨v30, nb30, ⟨rfl, hL2⟩, hs30, rfl, rfl⟩
      refine VL_still rfl rfl rfl (S_assign rfl) ?_
      refine VL_nil ?_
      refine VQ_block_normal ?_
      refine VQ_then ?_
      refine V_region ?_
      first | refine VL_still rfl rfl rfl (S_addi rfl rfl (by omega) (by omega)) ?_ | refine VL_still rfl rfl rfl (S_add rfl rfl) ?_
      refine VL_still rfl rfl rfl (S_move rfl) ?_
      refine VL_nil ?_
      refine VQ_mid (i + 1, hh30, b2, v30) ⟨⟨by omega, hs1.trans (hs24.trans hs30), by rw [hsn, hst]; exact hT2.sub hs30, by rw [hsn, hst]; exact hL2⟩, by simp only; omega⟩ (by repeat (first | exact trivial | refine ⟨rfl, ?_⟩)) rfl (by repeat (first | exact SubB.nil | exact Pick.here | apply Pick.there | apply SubB.emp | apply SubB.cons))
    · skip
      have hk : ¬ acts[i].k = 0 := of_decide_eq_false hc18
      have hst : stepP (growP (acts.take i)) acts[i] = delP (growP (acts.take i)) acts[i].key := if_neg hk
      refine V_seq ?_
      refine V_region ?_
      refine VL_still rfl rfl rfl (S_move rfl) ?_
      refine VL_still rfl rfl rfl (S_field (k := 1) Try.underlying36 rfl rfl ti23 rfl rfl) ?_
      first | refine VL_still rfl rfl rfl (S_load Try.underlying23 rfl rfl (Cell.trk (by repeat (first | exact Has.here | apply Has.there)) rfl)) ?_ | refine VL_still rfl rfl rfl (S_load Try.underlying23 rfl rfl (Cell.known (by first | assumption | exact (by assumption : Sub _ _) _ _ (by assumption) | exact (Sub.trans (by assumption) (by assumption)) _ _ (by assumption)) rfl)) ?_
      refine VL_eff rfl (E_call rfl rfl rfl Try.call21 (tdel_con b _ hh hT acts[i].key k0 k1 (by omega)) (by repeat (first | exact Split.nil | exact Pick.here | apply Pick.there | apply Split.cons))) ?_
      rintro _ hh34 _ ⟨v34, nb34, ⟨rfl, b2, rfl, hT2⟩, hs34, rfl, rfl⟩
      refine VL_still rfl rfl rfl (S_assign rfl) ?_
      refine VL_nil ?_
      refine VQ_then ?_
      refine V_region ?_
      refine VL_still rfl rfl rfl (S_move rfl) ?_
      refine VL_still rfl rfl rfl (S_field (k := 1) Try.underlying36 rfl rfl ti23 rfl rfl) ?_
      first | refine VL_still rfl rfl rfl (S_load Try.underlying23 rfl rfl (Cell.trk (by repeat (first | exact Has.here | apply Has.there)) rfl)) ?_ | refine VL_still rfl rfl rfl (S_load Try.underlying23 rfl rfl (Cell.known (by first | assumption | exact (by assumption : Sub _ _) _ _ (by assumption) | exact (Sub.trans (by assumption) (by assumption)) _ _ (by assumption)) rfl)) ?_
      refine VL_eff rfl (E_call rfl rfl rfl Try.call26 (rdel_k vl _ hh34 (hL.sub hs34) (by omega) acts[i].key) (by repeat (first | exact Split.nil | exact Pick.here | apply Pick.there | apply Split.cons))) ?_
      rintro _ hh38 _ ⟨v38, nb38, ⟨rfl, hL2⟩, hs38, rfl, rfl⟩
      refine VL_still rfl rfl rfl (S_assign rfl) ?_
      refine VL_nil ?_
      refine VQ_block_normal ?_
      refine VQ_then ?_
      refine V_region ?_
      first | refine VL_still rfl rfl rfl (S_addi rfl rfl (by omega) (by omega)) ?_ | refine VL_still rfl rfl rfl (S_add rfl rfl) ?_
      refine VL_still rfl rfl rfl (S_move rfl) ?_
      refine VL_nil ?_
      refine VQ_mid (i + 1, hh38, b2, v38) ⟨⟨by omega, hs1.trans (hs34.trans hs38), by rw [hsn, hst]; exact hT2.sub hs38, by rw [hsn, hst]; exact hL2⟩, by simp only; omega⟩ (by repeat (first | exact trivial | refine ⟨rfl, ?_⟩)) rfl (by repeat (first | exact SubB.nil | exact Pick.here | apply Pick.there | apply SubB.emp | apply SubB.cons))
  · skip
    have hge : i = acts.length := by
      have := of_decide_eq_false hc13
      omega
    subst hge
    rw [List.take_length] at hT hL
    refine V_exit ?_
    refine VQ_then_exit ?_
    refine VQ_then_exit ?_
    refine VQ_block_exit ?_
    refine VQ_then ?_
    refine V_seq ?_
    refine V_region ?_
    refine VL_still rfl rfl rfl (S_move rfl) ?_
    refine VL_still rfl rfl rfl (S_move rfl) ?_
    refine VL_still rfl rfl rfl (S_assign rfl) ?_
    refine VL_still rfl rfl rfl (S_assign rfl) ?_
    refine VL_nil ?_
    refine VQ_then ?_
    refine V_ret ?_
    refine VQ_fin2 (nb := []) (by first | exact .inl rfl | exact .inr rfl) rfl (RV_tmp rfl) (RV_tmp rfl) ?sb ?po
    case po =>
      exact ⟨rfl, b, vl, rfl, hT, hL⟩
    case sb => exact (by repeat (first | exact SubB.nil | exact Pick.here | apply Pick.there | apply SubB.emp | apply SubB.cons))

end Go.Proofs.Ytdglignjoojimaa
