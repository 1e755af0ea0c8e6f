/- A node's copy, and its split. No conditions. -/
import Derived.Test.YtdglignjoojimaaB5
set_option linter.unusedVariables false
set_option linter.unusedSimpArgs false
namespace Go.Proofs.Ytdglignjoojimaa

theorem k_clone0 (v : Value) (n : Nat) (cs : List Value) (h : Hp) (hs : SlR h [] v n cs 1) (ho : ones cs = true) (hn : n ≤ 1000000) : Con Try.prog 58 [v] h [] (fun r h' nb => h = h' ∧ ∃ G', Buf 23 1 r n cs G' ∧ nb = [G']) :=
  (k_clone v n cs h [] (hs.sub (Sub.refl _)) ho hn).conv rfl fun v h' nb ⟨a, G', b, e⟩ => ⟨[G'], by rw [e]; rfl, a, G', b, rfl⟩

theorem x_clone0 (v : Value) (n : Nat) (cs : List Value) (h : Hp) (hs : SlR h [] v n cs 2) (ho : ones cs = true) (hn : n ≤ 1000000) : Con Try.prog 59 [v] h [] (fun r h' nb => h = h' ∧ ∃ G', Buf 34 2 r n cs G' ∧ nb = [G']) :=
  (x_clone v n cs h [] (hs.sub (Sub.refl _)) ho hn).conv rfl fun v h' nb ⟨a, G', b, e⟩ => ⟨[G'], by rw [e]; rfl, a, G', b, rfl⟩

theorem n_clone0 (v : Value) (n : Nat) (cs : List Value) (h : Hp) (hs : SlR h [] v n cs 1) (ho : ones cs = true) (hn : n ≤ 1000000) : Con Try.prog 80 [v] h [] (fun r h' nb => h = h' ∧ ∃ G', Buf 83 1 r n cs G' ∧ nb = [G']) :=
  (n_clone v n cs h [] (hs.sub (Sub.refl _)) ho hn).conv rfl fun v h' nb ⟨a, G', b, e⟩ => ⟨[G'], by rw [e]; rfl, a, G', b, rfl⟩

set_option maxRecDepth 100000 in
theorem clone_con (b : Nat) (ks : List Int) (vs : List Ext) (bs : List Nat) (h : Hp) (hN : NodeAt h b ks vs bs) (n1 : ks.length ≤ 1000) (n2 : vs.length ≤ 1000) (n3 : bs.length ≤ 1001) : Con Try.prog 60 [ptr b] h [] (fun r h' nb => h = h' ∧ ∃ b' kv vv cv Gk Gv Gc, r = ptr b' ∧ BK kv ks Gk ∧ BV vv vs Gv ∧ BC cv bs Gc ∧ nb = [GN b' kv vv cv, Gk, Gv, Gc]) := by
  obtain ⟨kv, vv, cv, hb, hk, hv, hc⟩ := hN
  obtain ⟨A, cap, rfl, hle, hmx⟩ := hk.form
  obtain ⟨Av, capv, rfl, hlev, hmxv⟩ := hv.form
  obtain ⟨Ac, capc, rfl, hlec, hmxc⟩ := hc.form
  refine Con_of Try.func60 rfl Try.ntmps60 (Nat.le_of_ble_eq_true rfl) (fun w0 => ?_)
  refine V_seq ?_
  refine V_region ?_
  refine VL_still rfl rfl rfl (S_assign rfl) ?_
  refine VL_nil ?_
  refine VQ_then ?_
  refine V_seq ?_
  refine V_draw _ [] 82448 Try.mixed (by kernel_rfl) (Sub.refl _) SubB.nil ?_
  refine VD_still rfl rfl rfl rfl (S_move rfl) ?_
  refine VD_still rfl rfl rfl rfl (S_nil rfl) ?_
  refine VD_still rfl rfl rfl rfl (S_field (k := 0) Try.underlying92 rfl rfl ti88 rfl rfl) ?_
  first | refine VD_still rfl rfl rfl rfl (S_load Try.underlying88 rfl rfl (Cell.trk (by repeat (first | exact Has.here | apply Has.there)) rfl)) ?_ | refine VD_still rfl rfl rfl rfl (S_load Try.underlying88 rfl rfl (Cell.known (by first | assumption | exact (by assumption : Sub _ _) _ _ (by assumption) | exact (Sub.trans (by assumption) (by assumption)) _ _ (by assumption)) rfl)) ?_
  refine VD_eff rfl rfl (E_call rfl rfl rfl Try.call58 (k_clone0 _ ks.length (kcs ks) h hk (kcE.flat_one _) (by omega)) (by repeat (first | exact Split.nil | exact Pick.here | apply Pick.there | apply Split.cons))) ?_
  rintro _ hh7 _ ⟨v7, nb7, ⟨rfl, G7, hB7, rfl⟩, hs7, rfl, rfl⟩
  obtain ⟨A7, c7, rfl, _, _⟩ := Buf.form hB7
  refine ⟨⟨(by first | exact Sub.refl _ | assumption | exact Sub.trans (by assumption) (by assumption)), (by repeat (first | exact SubB.nil | exact Pick.here | apply Pick.there | apply SubB.emp | apply SubB.cons))⟩, ?_⟩
  refine VD_still rfl rfl rfl rfl (S_move rfl) ?_
  refine VD_still rfl rfl rfl rfl (S_nil rfl) ?_
  refine VD_still rfl rfl rfl rfl (S_field (k := 1) Try.underlying92 rfl rfl ti89 rfl rfl) ?_
  first | refine VD_still rfl rfl rfl rfl (S_load Try.underlying89 rfl rfl (Cell.trk (by repeat (first | exact Has.here | apply Has.there)) rfl)) ?_ | refine VD_still rfl rfl rfl rfl (S_load Try.underlying89 rfl rfl (Cell.known (by first | assumption | exact (by assumption : Sub _ _) _ _ (by assumption) | exact (Sub.trans (by assumption) (by assumption)) _ _ (by assumption)) rfl)) ?_
  refine VD_eff rfl rfl (E_call rfl rfl rfl Try.call59 (x_clone0 _ vs.length (xcs vs) h hv (xcE.flat_one _) (by omega)) (by repeat (first | exact Split.nil | exact Pick.here | apply Pick.there | apply Split.cons))) ?_
  rintro _ hh12 _ ⟨v12, nb12, ⟨rfl, G12, hB12, rfl⟩, hs12, rfl, rfl⟩
  obtain ⟨A12, c12, rfl, _, _⟩ := Buf.form hB12
  refine ⟨⟨(by first | exact Sub.refl _ | assumption | exact Sub.trans (by assumption) (by assumption)), (by repeat (first | exact SubB.nil | exact Pick.here | apply Pick.there | apply SubB.emp | apply SubB.cons))⟩, ?_⟩
  refine VD_still rfl rfl rfl rfl (S_move rfl) ?_
  refine VD_still rfl rfl rfl rfl (S_nil rfl) ?_
  refine VD_still rfl rfl rfl rfl (S_field (k := 2) Try.underlying92 rfl rfl ti90 rfl rfl) ?_
  first | refine VD_still rfl rfl rfl rfl (S_load Try.underlying90 rfl rfl (Cell.trk (by repeat (first | exact Has.here | apply Has.there)) rfl)) ?_ | refine VD_still rfl rfl rfl rfl (S_load Try.underlying90 rfl rfl (Cell.known (by first | assumption | exact (by assumption : Sub _ _) _ _ (by assumption) | exact (Sub.trans (by assumption) (by assumption)) _ _ (by assumption)) rfl)) ?_
  refine VD_eff rfl rfl (E_call rfl rfl rfl Try.call80 (n_clone0 _ bs.length (pcs bs) h hc (pcE.flat_one _) (by omega)) (by repeat (first | exact Split.nil | exact Pick.here | apply Pick.there | apply Split.cons))) ?_
  rintro _ hh17 _ ⟨v17, nb17, ⟨rfl, G17, hB17, rfl⟩, hs17, rfl, rfl⟩
  obtain ⟨A17, c17, rfl, _, _⟩ := Buf.form hB17
  refine ⟨⟨(by first | exact Sub.refl _ | assumption | exact Sub.trans (by assumption) (by assumption)), (by repeat (first | exact SubB.nil | exact Pick.here | apply Pick.there | apply SubB.emp | apply SubB.cons))⟩, ?_⟩
  refine VD_still rfl rfl rfl rfl (S_struct Try.underlying92 to92 tz92 rfl (by repeat (first | exact BuildR.nil | exact PutR.nil | exact SetL.here | apply SetL.there | apply PutR.cons | apply BuildR.cons rfl (by first | exact ti88 | exact ti89 | exact ti90) rfl rfl rfl))) ?_
  refine VD_eff rfl rfl (E_box rfl rfl rfl) ?_
  rintro _ _ _ ⟨b19, hb19, rfl, rfl, rfl⟩
  refine ⟨⟨(by first | exact Sub.refl _ | assumption | exact Sub.trans (by assumption) (by assumption)), (by repeat (first | exact SubB.nil | exact Pick.here | apply Pick.there | apply SubB.emp | apply SubB.cons))⟩, ?_⟩
  refine VD_still rfl rfl rfl rfl (S_assign rfl) ?_
  refine VD_nil ?_
  refine VQ_then ?_
  refine V_ret ?_
  refine VQ_fin1 (nb := [GN b19 (.slice A7 ks.length c7) (.slice A12 vs.length c12) (.slice A17 bs.length c17), G7, G12, G17]) (by first | exact .inl rfl | exact .inr rfl) rfl (RV_tmp rfl) ?sb ?po
  case po =>
    exact ⟨rfl, b19, _, _, _, _, _, _, rfl, hB7, hB12, hB17, rfl⟩
  case sb => exact (by repeat (first | exact SubB.nil | exact Pick.here | apply Pick.there | apply SubB.emp | apply SubB.cons))

/-- What a split hands back. -/
def SplitP (h : Hp) (b : Nat) (ks : List Int) (vs : List Ext) (bs : List Nat) (r : Value) : Prop :=
  (ks.length ≤ 7 ∧ r = .tuple #[ptr b, .int .u64 0, .pointer none]) ∨
  (¬ ks.length ≤ 7 ∧ ∃ b1 b2, r = .tuple #[ptr b1, .int .u64 (ks.getD (ks.length / 2) 0), ptr b2] ∧
    (bs = [] → NodeAt h b1 (ks.take (ks.length / 2)) (vs.take (ks.length / 2)) [] ∧ NodeAt h b2 (ks.drop (ks.length / 2)) (vs.drop (ks.length / 2)) []) ∧
    (bs ≠ [] → NodeAt h b1 (ks.take (ks.length / 2)) [] (bs.take (ks.length / 2 + 1)) ∧ NodeAt h b2 (ks.drop (ks.length / 2 + 1)) [] (bs.drop (ks.length / 2 + 1))))

set_option maxRecDepth 100000 in
theorem split_con (b : Nat) (ks : List Int) (vs : List Ext) (bs : List Nat) (h : Hp) (hN : NodeAt h b ks vs bs) (n1 : ks.length ≤ 1000) (hsh : (bs = [] ∧ vs.length = ks.length) ∨ (vs = [] ∧ bs.length = ks.length + 1)) : Con Try.prog 63 [ptr b] h [] (fun r h' nb => nb = [] ∧ SplitP h' b ks vs bs r) := by
  obtain ⟨kv, vv, cv, hb, hk, hv, hc⟩ := hN
  obtain ⟨A, cap, rfl, hle, hmx⟩ := hk.form
  obtain ⟨Av, capv, rfl, hlev, hmxv⟩ := hv.form
  obtain ⟨Ac, capc, rfl, hlec, hmxc⟩ := hc.form
  refine Con_of Try.func63 rfl Try.ntmps63 (Nat.le_of_ble_eq_true rfl) (fun w0 => ?_)
  refine V_seq ?_
  refine V_region ?_
  refine VL_still rfl rfl rfl (S_assign rfl) ?_
  refine VL_still rfl rfl rfl (S_assign rfl) ?_
  refine VL_still rfl rfl rfl (S_assign rfl) ?_
  refine VL_nil ?_
  refine VQ_then ?_
  refine V_seq ?_
  refine V_seq ?_
  refine V_region ?_
  refine VL_still rfl rfl rfl (S_move rfl) ?_
  refine VL_still rfl rfl rfl (S_nil rfl) ?_
  refine VL_still rfl rfl rfl (S_field (k := 0) Try.underlying92 rfl rfl ti88 rfl rfl) ?_
  first | refine VL_still rfl rfl rfl (S_load Try.underlying88 rfl rfl (Cell.trk (by repeat (first | exact Has.here | apply Has.there)) rfl)) ?_ | refine VL_still rfl rfl rfl (S_load Try.underlying88 rfl rfl (Cell.known (by first | assumption | exact (by assumption : Sub _ _) _ _ (by assumption) | exact (Sub.trans (by assumption) (by assumption)) _ _ (by assumption)) rfl)) ?_
  refine VL_still rfl rfl rfl (S_len Try.underlying88 rfl) ?_
  refine VL_still rfl rfl rfl (S_leq rfl rfl) ?_
  refine VL_nil ?_
  refine VQ_then ?_
  refine V_cond rfl (fun hc14 => ?_) (fun hc14 => ?_)
  · skip
    have h7 : ks.length ≤ 7 := by
      have := of_decide_eq_true hc14
      omega
    refine V_seq ?_
    refine V_region ?_
    refine VL_still rfl rfl rfl (S_move rfl) ?_
    refine VL_still rfl rfl rfl (S_assign rfl) ?_
    refine VL_still rfl rfl rfl (S_assign rfl) ?_
    refine VL_still rfl rfl rfl (S_assign rfl) ?_
    refine VL_nil ?_
    refine VQ_then ?_
    refine V_ret ?_
    refine VQ_then_ret ?_
    refine VQ_fin3 (nb := []) (by first | exact .inl rfl | exact .inr rfl) rfl (RV_tmp rfl) (RV_tmp rfl) (RV_tmp rfl) ?sb ?po
    case po =>
      exact ⟨rfl, .inl ⟨h7, rfl⟩⟩
    case sb => exact (by repeat (first | exact SubB.nil | exact Pick.here | apply Pick.there | apply SubB.emp | apply SubB.cons))
  · skip
    have h7 : ¬ ks.length ≤ 7 := by
      have := of_decide_eq_false hc14
      omega
    have hlt : ks.length / 2 < ks.length := by omega
    obtain ⟨bb, off, cap', e1, hc4⟩ := hk.at_ kcE rfl hlt
    cases e1
    refine V_skip ?_
    refine VQ_then ?_
    refine V_seq ?_
    refine V_region ?_
    refine VL_still rfl rfl rfl (S_move rfl) ?_
    refine VL_still rfl rfl rfl (S_nil rfl) ?_
    refine VL_still rfl rfl rfl (S_field (k := 0) Try.underlying92 rfl rfl ti88 rfl rfl) ?_
    first | refine VL_still rfl rfl rfl (S_load Try.underlying88 rfl rfl (Cell.trk (by repeat (first | exact Has.here | apply Has.there)) rfl)) ?_ | refine VL_still rfl rfl rfl (S_load Try.underlying88 rfl rfl (Cell.known (by first | assumption | exact (by assumption : Sub _ _) _ _ (by assumption) | exact (Sub.trans (by assumption) (by assumption)) _ _ (by assumption)) rfl)) ?_
    refine VL_still rfl rfl rfl (S_len Try.underlying88 rfl) ?_
    refine VL_still rfl rfl rfl (S_quon ks.length 2 rfl rfl rfl (by omega)) ?_
    refine VL_still rfl rfl rfl (S_assign rfl) ?_
    refine VL_nil ?_
    refine VQ_then ?_
    refine V_seq ?_
    refine V_region ?_
    refine VL_still rfl rfl rfl (S_move rfl) ?_
    refine VL_still rfl rfl rfl (S_nil rfl) ?_
    refine VL_still rfl rfl rfl (S_field (k := 0) Try.underlying92 rfl rfl ti88 rfl rfl) ?_
    first | refine VL_still rfl rfl rfl (S_load Try.underlying88 rfl rfl (Cell.trk (by repeat (first | exact Has.here | apply Has.there)) rfl)) ?_ | refine VL_still rfl rfl rfl (S_load Try.underlying88 rfl rfl (Cell.known (by first | assumption | exact (by assumption : Sub _ _) _ _ (by assumption) | exact (Sub.trans (by assumption) (by assumption)) _ _ (by assumption)) rfl)) ?_
    refine VL_still rfl rfl rfl (S_move rfl) ?_
    refine VL_still rfl rfl rfl (X_at (ks.length / 2) Try.underlying88 tx23 rfl rfl hlt) ?_
    refine VL_still rfl rfl rfl (S_load Try.underlying23 rfl rfl hc4.1) ?_
    refine VL_still rfl rfl rfl (S_assign rfl) ?_
    refine VL_nil ?_
    refine VQ_then ?_
    refine V_seq ?_
    refine V_seq ?_
    refine V_region ?_
    refine VL_still rfl rfl rfl (S_move rfl) ?_
    refine VL_eff rfl (E_call rfl rfl rfl Try.call39 (leaf_con b ks vs bs h ⟨_, _, _, hb, hk, hv, hc⟩) (by repeat (first | exact Split.nil | exact Pick.here | apply Pick.there | apply Split.cons))) ?_
    rintro _ hh30 _ ⟨v30, nb30, ⟨rfl, rfl, rfl⟩, hs30, rfl, rfl⟩
    refine VL_nil ?_
    refine VQ_then ?_
    refine V_cond rfl (fun hc30 => ?_) (fun hc30 => ?_)
    · skip
      have hbs : bs = [] := of_decide_eq_true hc30
      subst hbs
      have hvl : vs.length = ks.length := by
        rcases hsh with ⟨_, e⟩ | ⟨_, e⟩
        · exact e
        · simp at e
      refine V_seq ?_
      refine V_draw _ [] 41024 Try.mixed (by kernel_rfl) (Sub.refl _) SubB.nil ?_
      refine VD_still rfl rfl rfl rfl (S_move rfl) ?_
      refine VD_still rfl rfl rfl rfl (S_nil rfl) ?_
      refine VD_still rfl rfl rfl rfl (S_field (k := 0) Try.underlying92 rfl rfl ti88 rfl rfl) ?_
      first | refine VD_still rfl rfl rfl rfl (S_load Try.underlying88 rfl rfl (Cell.trk (by repeat (first | exact Has.here | apply Has.there)) rfl)) ?_ | refine VD_still rfl rfl rfl rfl (S_load Try.underlying88 rfl rfl (Cell.known (by first | assumption | exact (by assumption : Sub _ _) _ _ (by assumption) | exact (Sub.trans (by assumption) (by assumption)) _ _ (by assumption)) rfl)) ?_
      refine VD_still rfl rfl rfl rfl (S_move rfl) ?_
      refine VD_still rfl rfl rfl rfl (X_cut (ks.length / 2) ks.length Try.underlying88 tx23 rfl rfl rfl (by omega) (by omega)) ?_
      refine VD_eff rfl rfl (E_call rfl rfl rfl Try.call58 (k_clone0 _ (ks.drop (ks.length / 2)).length (kcs (ks.drop (ks.length / 2))) h (SlR.dropE kcE hk (by omega)) (kcE.flat_one _) (by simp; omega)) (by repeat (first | exact Split.nil | exact Pick.here | apply Pick.there | apply Split.cons))) ?_
      rintro _ hh37 _ ⟨v37, nb37, ⟨rfl, G37, hB37, rfl⟩, hs37, rfl, rfl⟩
      obtain ⟨A37, c37, rfl, _, _⟩ := Buf.form hB37
      refine ⟨⟨(by first | exact Sub.refl _ | assumption | exact Sub.trans (by assumption) (by assumption)), (by repeat (first | exact SubB.nil | exact Pick.here | apply Pick.there | apply SubB.emp | apply SubB.cons))⟩, ?_⟩
      refine VD_still rfl rfl rfl rfl (S_move rfl) ?_
      refine VD_still rfl rfl rfl rfl (S_nil rfl) ?_
      refine VD_still rfl rfl rfl rfl (S_field (k := 1) Try.underlying92 rfl rfl ti89 rfl rfl) ?_
      first | refine VD_still rfl rfl rfl rfl (S_load Try.underlying89 rfl rfl (Cell.trk (by repeat (first | exact Has.here | apply Has.there)) rfl)) ?_ | refine VD_still rfl rfl rfl rfl (S_load Try.underlying89 rfl rfl (Cell.known (by first | assumption | exact (by assumption : Sub _ _) _ _ (by assumption) | exact (Sub.trans (by assumption) (by assumption)) _ _ (by assumption)) rfl)) ?_
      refine VD_still rfl rfl rfl rfl (S_move rfl) ?_
      refine VD_still rfl rfl rfl rfl (X_cut (ks.length / 2) vs.length Try.underlying89 tx34 rfl rfl rfl (by omega) (by omega)) ?_
      refine VD_eff rfl rfl (E_call rfl rfl rfl Try.call59 (x_clone0 _ (vs.drop (ks.length / 2)).length (xcs (vs.drop (ks.length / 2))) h (SlR.dropE xcE hv (by omega)) (xcE.flat_one _) (by simp; omega)) (by repeat (first | exact Split.nil | exact Pick.here | apply Pick.there | apply Split.cons))) ?_
      rintro _ hh44 _ ⟨v44, nb44, ⟨rfl, G44, hB44, rfl⟩, hs44, rfl, rfl⟩
      obtain ⟨A44, c44, rfl, _, _⟩ := Buf.form hB44
      refine ⟨⟨(by first | exact Sub.refl _ | assumption | exact Sub.trans (by assumption) (by assumption)), (by repeat (first | exact SubB.nil | exact Pick.here | apply Pick.there | apply SubB.emp | apply SubB.cons))⟩, ?_⟩
      refine VD_still rfl rfl rfl rfl (S_struct Try.underlying92 to92 tz92 rfl (by repeat (first | exact BuildR.nil | exact PutR.nil | exact SetL.here | apply SetL.there | apply PutR.cons | apply BuildR.cons rfl (by first | exact ti88 | exact ti89 | exact ti90) rfl rfl rfl))) ?_
      refine VD_eff rfl rfl (E_box rfl rfl rfl) ?_
      rintro _ _ _ ⟨b46, hb46, rfl, rfl, rfl⟩
      refine ⟨⟨(by first | exact Sub.refl _ | assumption | exact Sub.trans (by assumption) (by assumption)), (by repeat (first | exact SubB.nil | exact Pick.here | apply Pick.there | apply SubB.emp | apply SubB.cons))⟩, ?_⟩
      refine VD_still rfl rfl rfl rfl (S_assign rfl) ?_
      refine VD_nil ?_
      refine VQ_then ?_
      refine V_seq ?_
      refine V_draw _ [] 41024 Try.mixed (by kernel_rfl) (Sub.refl _) SubB.nil ?_
      refine VD_still rfl rfl rfl rfl (S_move rfl) ?_
      refine VD_still rfl rfl rfl rfl (S_nil rfl) ?_
      refine VD_still rfl rfl rfl rfl (S_field (k := 0) Try.underlying92 rfl rfl ti88 rfl rfl) ?_
      first | refine VD_still rfl rfl rfl rfl (S_load Try.underlying88 rfl rfl (Cell.trk (by repeat (first | exact Has.here | apply Has.there)) rfl)) ?_ | refine VD_still rfl rfl rfl rfl (S_load Try.underlying88 rfl rfl (Cell.known (by first | assumption | exact (by assumption : Sub _ _) _ _ (by assumption) | exact (Sub.trans (by assumption) (by assumption)) _ _ (by assumption)) rfl)) ?_
      refine VD_still rfl rfl rfl rfl (S_move rfl) ?_
      refine VD_still rfl rfl rfl rfl (X_cut 0 (ks.length / 2) Try.underlying88 tx23 rfl rfl rfl (by omega) (by omega)) ?_
      refine VD_eff rfl rfl (E_call rfl rfl rfl Try.call58 (k_clone0 _ (ks.take (ks.length / 2)).length (kcs (ks.take (ks.length / 2))) h (SlR.takeE kcE hk (by omega)) (kcE.flat_one _) (by simp; omega)) (by repeat (first | exact Split.nil | exact Pick.here | apply Pick.there | apply Split.cons))) ?_
      rintro _ hh53 _ ⟨v53, nb53, ⟨rfl, G53, hB53, rfl⟩, hs53, rfl, rfl⟩
      obtain ⟨A53, c53, rfl, _, _⟩ := Buf.form hB53
      refine ⟨⟨(by first | exact Sub.refl _ | assumption | exact Sub.trans (by assumption) (by assumption)), (by repeat (first | exact SubB.nil | exact Pick.here | apply Pick.there | apply SubB.emp | apply SubB.cons))⟩, ?_⟩
      refine VD_still rfl rfl rfl rfl (S_move rfl) ?_
      refine VD_still rfl rfl rfl rfl (S_nil rfl) ?_
      refine VD_still rfl rfl rfl rfl (S_field (k := 1) Try.underlying92 rfl rfl ti89 rfl rfl) ?_
      first | refine VD_still rfl rfl rfl rfl (S_load Try.underlying89 rfl rfl (Cell.trk (by repeat (first | exact Has.here | apply Has.there)) rfl)) ?_ | refine VD_still rfl rfl rfl rfl (S_load Try.underlying89 rfl rfl (Cell.known (by first | assumption | exact (by assumption : Sub _ _) _ _ (by assumption) | exact (Sub.trans (by assumption) (by assumption)) _ _ (by assumption)) rfl)) ?_
      refine VD_still rfl rfl rfl rfl (S_move rfl) ?_
      refine VD_still rfl rfl rfl rfl (X_cut 0 (ks.length / 2) Try.underlying89 tx34 rfl rfl rfl (by omega) (by omega)) ?_
      refine VD_eff rfl rfl (E_call rfl rfl rfl Try.call59 (x_clone0 _ (vs.take (ks.length / 2)).length (xcs (vs.take (ks.length / 2))) h (SlR.takeE xcE hv (by omega)) (xcE.flat_one _) (by simp; omega)) (by repeat (first | exact Split.nil | exact Pick.here | apply Pick.there | apply Split.cons))) ?_
      rintro _ hh60 _ ⟨v60, nb60, ⟨rfl, G60, hB60, rfl⟩, hs60, rfl, rfl⟩
      obtain ⟨A60, c60, rfl, _, _⟩ := Buf.form hB60
      refine ⟨⟨(by first | exact Sub.refl _ | assumption | exact Sub.trans (by assumption) (by assumption)), (by repeat (first | exact SubB.nil | exact Pick.here | apply Pick.there | apply SubB.emp | apply SubB.cons))⟩, ?_⟩
      refine VD_still rfl rfl rfl rfl (S_struct Try.underlying92 to92 tz92 rfl (by repeat (first | exact BuildR.nil | exact PutR.nil | exact SetL.here | apply SetL.there | apply PutR.cons | apply BuildR.cons rfl (by first | exact ti88 | exact ti89 | exact ti90) rfl rfl rfl))) ?_
      refine VD_eff rfl rfl (E_box rfl rfl rfl) ?_
      rintro _ _ _ ⟨b62, hb62, rfl, rfl, rfl⟩
      refine ⟨⟨(by first | exact Sub.refl _ | assumption | exact Sub.trans (by assumption) (by assumption)), (by repeat (first | exact SubB.nil | exact Pick.here | apply Pick.there | apply SubB.emp | apply SubB.cons))⟩, ?_⟩
      refine VD_still rfl rfl rfl rfl (S_move rfl) ?_
      refine VD_still rfl rfl rfl rfl (S_move rfl) ?_
      refine VD_still rfl rfl rfl rfl (S_assign rfl) ?_
      refine VD_still rfl rfl rfl rfl (S_assign rfl) ?_
      refine VD_still rfl rfl rfl rfl (S_assign rfl) ?_
      refine VD_nil ?_
      refine VQ_then ?_
      refine V_ret ?_
      refine VQ_then_ret ?_
      refine VQ_keeps (blA := [GN b46 (.slice A37 (ks.drop (ks.length / 2)).length c37) (.slice A44 (vs.drop (ks.length / 2)).length c44) (.slice none 0 0), G37, G44, GN b62 (.slice A53 (ks.take (ks.length / 2)).length c53) (.slice A60 (vs.take (ks.length / 2)).length c60) (.slice none 0 0), G53, G60]) (by repeat (first | exact Split.nil | exact Pick.here | apply Pick.there | apply Split.cons)) (fun h1 sh1 kh1 => ?_)
      obtain ⟨q1, q2, q3, q4, q5, q6, _⟩ := kh1
      refine VQ_fin3 (nb := []) (by first | exact .inl rfl | exact .inr rfl) rfl (RV_tmp rfl) (RV_tmp rfl) (RV_tmp rfl) ?sb ?po
      case po =>
        refine ⟨rfl, .inr ⟨h7, b62, b46, by rw [getD_at hlt], fun _ => ⟨?_, ?_⟩, fun e => absurd rfl e⟩⟩
        · exact NodeAt.own q4 q5 q6 (Gc := []) (fun q hq => by simp at hq) hB53 hB60 (Buf.nil _ _)
        · exact NodeAt.own q1 q2 q3 (Gc := []) (fun q hq => by simp at hq) hB37 hB44 (Buf.nil _ _)
      case sb => exact (by repeat (first | exact SubB.nil | exact Pick.here | apply Pick.there | apply SubB.emp | apply SubB.cons))
    · skip
      have hbs : bs ≠ [] := of_decide_eq_false hc30
      obtain ⟨rfl, hbl⟩ : vs = [] ∧ bs.length = ks.length + 1 := by
        rcases hsh with ⟨e, _⟩ | e
        · exact absurd e hbs
        · exact e
      refine V_skip ?_
      refine VQ_then ?_
      refine V_seq ?_
      refine V_draw _ [] 163968 Try.mixed (by kernel_rfl) (Sub.refl _) SubB.nil ?_
      refine VD_still rfl rfl rfl rfl (S_move rfl) ?_
      refine VD_still rfl rfl rfl rfl (S_nil rfl) ?_
      refine VD_still rfl rfl rfl rfl (S_field (k := 0) Try.underlying92 rfl rfl ti88 rfl rfl) ?_
      first | refine VD_still rfl rfl rfl rfl (S_load Try.underlying88 rfl rfl (Cell.trk (by repeat (first | exact Has.here | apply Has.there)) rfl)) ?_ | refine VD_still rfl rfl rfl rfl (S_load Try.underlying88 rfl rfl (Cell.known (by first | assumption | exact (by assumption : Sub _ _) _ _ (by assumption) | exact (Sub.trans (by assumption) (by assumption)) _ _ (by assumption)) rfl)) ?_
      refine VD_still rfl rfl rfl rfl (S_move rfl) ?_
      refine VD_still rfl rfl rfl rfl (S_addn (ks.length / 2) 1 rfl rfl (by omega)) ?_
      refine VD_still rfl rfl rfl rfl (X_cut (ks.length / 2 + 1) ks.length Try.underlying88 tx23 rfl rfl rfl (by omega) (by omega)) ?_
      refine VD_eff rfl rfl (E_call rfl rfl rfl Try.call58 (k_clone0 _ (ks.drop (ks.length / 2 + 1)).length (kcs (ks.drop (ks.length / 2 + 1))) h (SlR.dropE kcE hk (by omega)) (kcE.flat_one _) (by simp; omega)) (by repeat (first | exact Split.nil | exact Pick.here | apply Pick.there | apply Split.cons))) ?_
      rintro _ hh72 _ ⟨v72, nb72, ⟨rfl, G72, hB72, rfl⟩, hs72, rfl, rfl⟩
      obtain ⟨A72, c72, rfl, _, _⟩ := Buf.form hB72
      refine ⟨⟨(by first | exact Sub.refl _ | assumption | exact Sub.trans (by assumption) (by assumption)), (by repeat (first | exact SubB.nil | exact Pick.here | apply Pick.there | apply SubB.emp | apply SubB.cons))⟩, ?_⟩
      refine VD_still rfl rfl rfl rfl (S_move rfl) ?_
      refine VD_still rfl rfl rfl rfl (S_nil rfl) ?_
      refine VD_still rfl rfl rfl rfl (S_field (k := 2) Try.underlying92 rfl rfl ti90 rfl rfl) ?_
      first | refine VD_still rfl rfl rfl rfl (S_load Try.underlying90 rfl rfl (Cell.trk (by repeat (first | exact Has.here | apply Has.there)) rfl)) ?_ | refine VD_still rfl rfl rfl rfl (S_load Try.underlying90 rfl rfl (Cell.known (by first | assumption | exact (by assumption : Sub _ _) _ _ (by assumption) | exact (Sub.trans (by assumption) (by assumption)) _ _ (by assumption)) rfl)) ?_
      refine VD_still rfl rfl rfl rfl (S_move rfl) ?_
      refine VD_still rfl rfl rfl rfl (S_addn (ks.length / 2) 1 rfl rfl (by omega)) ?_
      refine VD_still rfl rfl rfl rfl (X_cut (ks.length / 2 + 1) bs.length Try.underlying90 tx83 rfl rfl rfl (by omega) (by omega)) ?_
      refine VD_eff rfl rfl (E_call rfl rfl rfl Try.call80 (n_clone0 _ (bs.drop (ks.length / 2 + 1)).length (pcs (bs.drop (ks.length / 2 + 1))) h (SlR.dropE pcE hc (by omega)) (pcE.flat_one _) (by simp; omega)) (by repeat (first | exact Split.nil | exact Pick.here | apply Pick.there | apply Split.cons))) ?_
      rintro _ hh80 _ ⟨v80, nb80, ⟨rfl, G80, hB80, rfl⟩, hs80, rfl, rfl⟩
      obtain ⟨A80, c80, rfl, _, _⟩ := Buf.form hB80
      refine ⟨⟨(by first | exact Sub.refl _ | assumption | exact Sub.trans (by assumption) (by assumption)), (by repeat (first | exact SubB.nil | exact Pick.here | apply Pick.there | apply SubB.emp | apply SubB.cons))⟩, ?_⟩
      refine VD_still rfl rfl rfl rfl (S_struct Try.underlying92 to92 tz92 rfl (by repeat (first | exact BuildR.nil | exact PutR.nil | exact SetL.here | apply SetL.there | apply PutR.cons | apply BuildR.cons rfl (by first | exact ti88 | exact ti89 | exact ti90) rfl rfl rfl))) ?_
      refine VD_eff rfl rfl (E_box rfl rfl rfl) ?_
      rintro _ _ _ ⟨b82, hb82, rfl, rfl, rfl⟩
      refine ⟨⟨(by first | exact Sub.refl _ | assumption | exact Sub.trans (by assumption) (by assumption)), (by repeat (first | exact SubB.nil | exact Pick.here | apply Pick.there | apply SubB.emp | apply SubB.cons))⟩, ?_⟩
      refine VD_still rfl rfl rfl rfl (S_assign rfl) ?_
      refine VD_nil ?_
      refine VQ_then ?_
      refine V_seq ?_
      refine V_draw _ [] 81984 Try.mixed (by kernel_rfl) (Sub.refl _) SubB.nil ?_
      refine VD_still rfl rfl rfl rfl (S_move rfl) ?_
      refine VD_still rfl rfl rfl rfl (S_nil rfl) ?_
      refine VD_still rfl rfl rfl rfl (S_field (k := 0) Try.underlying92 rfl rfl ti88 rfl rfl) ?_
      first | refine VD_still rfl rfl rfl rfl (S_load Try.underlying88 rfl rfl (Cell.trk (by repeat (first | exact Has.here | apply Has.there)) rfl)) ?_ | refine VD_still rfl rfl rfl rfl (S_load Try.underlying88 rfl rfl (Cell.known (by first | assumption | exact (by assumption : Sub _ _) _ _ (by assumption) | exact (Sub.trans (by assumption) (by assumption)) _ _ (by assumption)) rfl)) ?_
      refine VD_still rfl rfl rfl rfl (S_move rfl) ?_
      refine VD_still rfl rfl rfl rfl (X_cut 0 (ks.length / 2) Try.underlying88 tx23 rfl rfl rfl (by omega) (by omega)) ?_
      refine VD_eff rfl rfl (E_call rfl rfl rfl Try.call58 (k_clone0 _ (ks.take (ks.length / 2)).length (kcs (ks.take (ks.length / 2))) h (SlR.takeE kcE hk (by omega)) (kcE.flat_one _) (by simp; omega)) (by repeat (first | exact Split.nil | exact Pick.here | apply Pick.there | apply Split.cons))) ?_
      rintro _ hh89 _ ⟨v89, nb89, ⟨rfl, G89, hB89, rfl⟩, hs89, rfl, rfl⟩
      obtain ⟨A89, c89, rfl, _, _⟩ := Buf.form hB89
      refine ⟨⟨(by first | exact Sub.refl _ | assumption | exact Sub.trans (by assumption) (by assumption)), (by repeat (first | exact SubB.nil | exact Pick.here | apply Pick.there | apply SubB.emp | apply SubB.cons))⟩, ?_⟩
      refine VD_still rfl rfl rfl rfl (S_move rfl) ?_
      refine VD_still rfl rfl rfl rfl (S_nil rfl) ?_
      refine VD_still rfl rfl rfl rfl (S_field (k := 2) Try.underlying92 rfl rfl ti90 rfl rfl) ?_
      first | refine VD_still rfl rfl rfl rfl (S_load Try.underlying90 rfl rfl (Cell.trk (by repeat (first | exact Has.here | apply Has.there)) rfl)) ?_ | refine VD_still rfl rfl rfl rfl (S_load Try.underlying90 rfl rfl (Cell.known (by first | assumption | exact (by assumption : Sub _ _) _ _ (by assumption) | exact (Sub.trans (by assumption) (by assumption)) _ _ (by assumption)) rfl)) ?_
      refine VD_still rfl rfl rfl rfl (S_move rfl) ?_
      refine VD_still rfl rfl rfl rfl (S_addn (ks.length / 2) 1 rfl rfl (by omega)) ?_
      refine VD_still rfl rfl rfl rfl (X_cut 0 (ks.length / 2 + 1) Try.underlying90 tx83 rfl rfl rfl (by omega) (by omega)) ?_
      refine VD_eff rfl rfl (E_call rfl rfl rfl Try.call80 (n_clone0 _ (bs.take (ks.length / 2 + 1)).length (pcs (bs.take (ks.length / 2 + 1))) h (SlR.takeE pcE hc (by omega)) (pcE.flat_one _) (by simp; omega)) (by repeat (first | exact Split.nil | exact Pick.here | apply Pick.there | apply Split.cons))) ?_
      rintro _ hh97 _ ⟨v97, nb97, ⟨rfl, G97, hB97, rfl⟩, hs97, rfl, rfl⟩
      obtain ⟨A97, c97, rfl, _, _⟩ := Buf.form hB97
      refine ⟨⟨(by first | exact Sub.refl _ | assumption | exact Sub.trans (by assumption) (by assumption)), (by repeat (first | exact SubB.nil | exact Pick.here | apply Pick.there | apply SubB.emp | apply SubB.cons))⟩, ?_⟩
      refine VD_still rfl rfl rfl rfl (S_struct Try.underlying92 to92 tz92 rfl (by repeat (first | exact BuildR.nil | exact PutR.nil | exact SetL.here | apply SetL.there | apply PutR.cons | apply BuildR.cons rfl (by first | exact ti88 | exact ti89 | exact ti90) rfl rfl rfl))) ?_
      refine VD_eff rfl rfl (E_box rfl rfl rfl) ?_
      rintro _ _ _ ⟨b99, hb99, rfl, rfl, rfl⟩
      refine ⟨⟨(by first | exact Sub.refl _ | assumption | exact Sub.trans (by assumption) (by assumption)), (by repeat (first | exact SubB.nil | exact Pick.here | apply Pick.there | apply SubB.emp | apply SubB.cons))⟩, ?_⟩
      refine VD_still rfl rfl rfl rfl (S_move rfl) ?_
      refine VD_still rfl rfl rfl rfl (S_move rfl) ?_
      refine VD_still rfl rfl rfl rfl (S_assign rfl) ?_
      refine VD_still rfl rfl rfl rfl (S_assign rfl) ?_
      refine VD_still rfl rfl rfl rfl (S_assign rfl) ?_
      refine VD_nil ?_
      refine VQ_then ?_
      refine V_ret ?_
      refine VQ_keeps (blA := [GN b82 (.slice A72 (ks.drop (ks.length / 2 + 1)).length c72) (.slice none 0 0) (.slice A80 (bs.drop (ks.length / 2 + 1)).length c80), G72, G80, GN b99 (.slice A89 (ks.take (ks.length / 2)).length c89) (.slice none 0 0) (.slice A97 (bs.take (ks.length / 2 + 1)).length c97), G89, G97]) (by repeat (first | exact Split.nil | exact Pick.here | apply Pick.there | apply Split.cons)) (fun h1 sh1 kh1 => ?_)
      obtain ⟨q1, q2, q3, q4, q5, q6, _⟩ := kh1
      refine VQ_fin3 (nb := []) (by first | exact .inl rfl | exact .inr rfl) rfl (RV_tmp rfl) (RV_tmp rfl) (RV_tmp rfl) ?sb ?po
      case po =>
        refine ⟨rfl, .inr ⟨h7, b99, b82, by rw [getD_at hlt], fun e => absurd e hbs, fun _ => ⟨?_, ?_⟩⟩⟩
        · exact NodeAt.own q4 q5 (Gv := []) (fun q hq => by simp at hq) q6 hB89 (Buf.nil _ _) hB97
        · exact NodeAt.own q1 q2 (Gv := []) (fun q hq => by simp at hq) q3 hB72 (Buf.nil _ _) hB80
      case sb => exact (by repeat (first | exact SubB.nil | exact Pick.here | apply Pick.there | apply SubB.emp | apply SubB.cons))

/-- One tree, or two with a separator, as a put hands it back. -/
def PutO (h : Hp) (d : Nat) (r : Value) : Tr × Option (Int × Tr) → Prop
  | (t, none) => ∃ b, r = .tuple #[ptr b, .int .u64 0, .pointer none] ∧ Rp h d b t
  | (t, some (s, m)) => ∃ b1 b2, r = .tuple #[ptr b1, .int .u64 s, ptr b2] ∧ Rp h d b1 t ∧ Rp h d b2 m
theorem keysP_take (l : List Pr) (i : Nat) : keysP (l.take i) = (keysP l).take i := by simp [keysP, List.map_take]
theorem keysP_drop (l : List Pr) (i : Nat) : keysP (l.drop i) = (keysP l).drop i := by simp [keysP, List.map_drop]
/-- The split of a whole tree. -/
theorem splitT_con : ∀ (d b : Nat) (t : Tr) (h : Hp), Rp h d b t → nk t ≤ 1000 → (∀ d' ks ts, d = d' + 1 → t = .node ks ts → ts.length = ks.length + 1) →
    Con Try.prog 63 [ptr b] h [] (fun r h' nb => nb = [] ∧ (Sub h h' → PutO h' d r (cutT t)))
  | 0, b, .leaf l, h, hr, hn, _ => by
    have hn : (keysP l).length ≤ 1000 := hn
    refine (split_con b (keysP l) (l.map (fun (p : Pr) => p.2)) [] h hr hn (.inl ⟨rfl, by simp [keysP]⟩)).mono fun r h' nb ⟨e, hp⟩ => ⟨e, fun hs => ?_⟩
    rw [cutT_0]
    rw [keysP_len] at hn
    rcases hp with ⟨h7, rfl⟩ | ⟨h7, b1, b2, rfl, k1, _⟩
    · rw [keysP_len] at h7
      rw [if_pos h7]
      exact ⟨b, rfl, Rp.sub hs hr⟩
    · rw [keysP_len] at h7 k1 ⊢
      rw [if_neg h7]
      obtain ⟨a1, a2⟩ := k1 rfl
      rw [← keysP_take, ← List.map_take] at a1
      rw [← keysP_drop, ← List.map_drop] at a2
      exact ⟨b1, b2, rfl, a1, a2⟩
  | d + 1, b, .node ks ts, h, ⟨bs, hN, hA⟩, hn, hl => by
    have hn : ks.length ≤ 1000 := hn
    have hl : ts.length = ks.length + 1 := hl d ks ts rfl rfl
    have hlb := hA.len
    refine (split_con b ks [] bs h hN hn (.inr ⟨rfl, by omega⟩)).mono fun r h' nb ⟨e, hp⟩ => ⟨e, fun hs => ?_⟩
    have hA' := hA.mono (fun a b r => Rp.sub hs r)
    rw [cutT_s]
    rcases hp with ⟨h7, rfl⟩ | ⟨h7, b1, b2, rfl, _, k1⟩
    · rw [if_pos h7]
      exact ⟨b, rfl, bs, hN.sub hs, hA'⟩
    · rw [if_neg h7]
      obtain ⟨a1, a2⟩ := k1 (by intro e; subst e; simp at hlb; omega)
      exact ⟨b1, b2, rfl, ⟨_, a1, hA'.take _⟩, ⟨_, a2, hA'.drop _⟩⟩

end Go.Proofs.Ytdglignjoojimaa
