/- What is deleted from a tree. No conditions. -/
import Derived.Test.YtdglignjoojimaaB8
import Derived.Test.YtdglignjoojimaaT4
set_option linter.unusedVariables false
set_option linter.unusedSimpArgs false
namespace Go.Proofs.Ytdglignjoojimaa

/-- What a deletion hands back. -/
def DelO (h : Hp) (d : Nat) (r : Value) (t : Tr) : Prop := ∃ b, r = ptr b ∧ Rp h d b t
theorem vals_del (l : List Pr) (i j : Nat) : (l.take i ++ l.drop j).map (fun p => p.2) = (l.map (fun p => p.2)).take i ++ (l.map (fun p => p.2)).drop j := by simp [List.map_take, List.map_drop]
theorem max_pred (i : Nat) : (if ((i : Nat) : Int) - 1 < 0 then (0 : Int) else ((i : Nat) : Int) - 1) = ((i - 1 : Nat) : Int) := by split <;> omega
theorem Kd.get {d : Nat} {ts : List Tr} (hK : ∀ x ∈ ts, 3 ≤ nk x ∧ nk x ≤ 7 ∧ Kd d x) {i : Nat} {x : Tr} (h : ts[i]? = some x) : 3 ≤ nk x ∧ nk x ≤ 7 ∧ Kd d x := hK x (List.mem_of_getElem? h)

set_option maxRecDepth 100000 in
theorem del_leaf (b : Nat) (l : List Pr) (lo hi k : Int) (h : Hp) (hN : NodeAt h b (keysP l) (l.map (fun p => p.2)) []) (hu : Up lo hi (keysP l)) (hn : l.length ≤ 900) : Con Try.prog 44 [ptr b, .int .u64 k] h [] (fun r h' nb => nb = [] ∧ DelO h' 0 r (delT 0 (.leaf l) k)) := by
  obtain ⟨kv, vv, cv, hb, hk, hv, hc⟩ := hN
  obtain ⟨A, cap, rfl, hle, hmx⟩ := hk.form
  obtain ⟨A2, cap2, rfl, hlev, hmxv⟩ := hv.form
  obtain ⟨A3, cap3, rfl, hlec, hmxc⟩ := hc.form
  have hkl := keysP_len l
  have hvl : (l.map (fun p => p.2)).length = l.length := List.length_map _
  have hil := lb_le (keysP l) k
  refine Con_of Try.func44 rfl Try.ntmps44 (Nat.le_of_ble_eq_true rfl) (fun w0 => ?_)
  refine V_seq ?_
  refine V_region ?_
  refine VL_still rfl rfl rfl (S_assign rfl) ?_
  refine VL_nil ?_
  refine VQ_then ?_
  refine V_seq ?_
  refine V_region ?_
  refine VL_still rfl rfl rfl (S_move rfl) ?_
  refine VL_eff rfl (E_call rfl rfl rfl Try.call60 (clone_con b (keysP l) (l.map (fun p => p.2)) [] h ⟨_, _, _, hb, hk, hv, hc⟩ (by omega) (by rw [List.length_map]; omega) (by simp)) (by repeat (first | exact Split.nil | exact Pick.here | apply Pick.there | apply Split.cons))) ?_
  rintro _ hh10 _ ⟨v10, nb10, ⟨rfl, bo, kvo, vvo, cvo, Gk, Gv, Gc, rfl, hBk, hBv, hBc, rfl⟩, hs10, rfl, rfl⟩
  obtain ⟨Ak, ck, rfl, _, _⟩ := Buf.form hBk
  obtain ⟨Av, cvv, rfl, _, _⟩ := Buf.form hBv
  obtain ⟨Ac, cc, rfl, _, _⟩ := Buf.form hBc
  refine VL_still rfl rfl rfl (S_assign rfl) ?_
  refine VL_nil ?_
  refine VQ_then ?_
  refine V_seq ?_
  refine V_seq ?_
  refine V_region ?_
  refine VL_still rfl rfl rfl (S_move rfl) ?_
  refine VL_eff rfl (E_call rfl rfl rfl Try.call39 (leaf_con b _ _ _ h ⟨_, _, _, hb, hk, hv, hc⟩) (by repeat (first | exact Split.nil | exact Pick.here | apply Pick.there | apply Split.cons))) ?_
  rintro _ hh12 _ ⟨v12, nb12, ⟨rfl, rfl, rfl⟩, hs12, rfl, rfl⟩
  refine VL_nil ?_
  refine VQ_then ?_
  refine V_cond rfl (fun hc12 => ?_) (fun hc12 => ?_)
  · skip
    refine V_seq ?_
    refine V_seq ?_
    refine V_region ?_
    refine VL_still rfl rfl rfl (S_move rfl) ?_
    refine VL_still rfl rfl rfl (S_nil rfl) ?_
    refine VL_still rfl rfl rfl (S_field (k := 0) Try.underlying92 rfl rfl ti88 rfl rfl) ?_
    first | refine VL_still rfl rfl rfl (S_load Try.underlying88 rfl rfl (Cell.trk (by repeat (first | exact Has.here | apply Has.there)) rfl)) ?_ | refine VL_still rfl rfl rfl (S_load Try.underlying88 rfl rfl (Cell.known (by first | assumption | exact (by assumption : Sub _ _) _ _ (by assumption) | exact (Sub.trans (by assumption) (by assumption)) _ _ (by assumption)) rfl)) ?_
    refine VL_still rfl rfl rfl (S_move rfl) ?_
    refine VL_eff rfl (E_call rfl rfl rfl Try.call41 (bs_con _ (keysP l) k lo hi h hk hu (by omega)) (by repeat (first | exact Split.nil | exact Pick.here | apply Pick.there | apply Split.cons))) ?_
    rintro _ hh19 _ ⟨v19, nb19, ⟨rfl, rfl, rfl⟩, hs19, rfl, rfl⟩
    refine VL_still rfl rfl rfl (S_move rfl) ?_
    refine VL_still rfl rfl rfl (S_extract rfl rfl) ?_
    refine VL_still rfl rfl rfl (S_extract rfl rfl) ?_
    refine VL_still rfl rfl rfl (S_assign rfl) ?_
    refine VL_still rfl rfl rfl (S_assign rfl) ?_
    refine VL_nil ?_
    refine VQ_then ?_
    refine V_seq ?_
    refine V_region ?_
    refine VL_still rfl rfl rfl (S_move rfl) ?_
    refine VL_nil ?_
    refine VQ_then ?_
    refine V_cond rfl (fun hc22 => ?_) (fun hc22 => ?_)
    · skip
      have hf : (keysP l)[lb (keysP l) k]? = some k := of_decide_eq_true hc22
      have hlt : lb (keysP l) k < (keysP l).length := (List.getElem?_eq_some_iff.1 hf).1
      refine V_drawK _ [GN bo (.slice Ak (keysP l).length ck) (.slice Av (l.map (fun p => p.2)).length cvv) (.slice Ac ([] : List Nat).length cc)] 9568768 8224 20 Try.mixed (by kernel_rfl) (Sub.refl _) (by repeat (first | exact SubB.nil | exact Pick.here | apply Pick.there | apply SubB.emp | apply SubB.cons)) ?_
      refine VK_pure rfl rfl rfl rfl rfl (S_move rfl) ?_
      refine VK_pure rfl rfl rfl rfl rfl (S_move rfl) ?_
      refine VK_pure rfl rfl rfl rfl rfl (S_move rfl) ?_
      refine VK_pure rfl rfl rfl rfl rfl (S_nil rfl) ?_
      refine VK_pure rfl rfl rfl rfl rfl (S_field (k := 0) Try.underlying92 rfl rfl ti88 rfl rfl) ?_
      first | refine VK_still rfl rfl rfl rfl rfl rfl (S_load Try.underlying88 rfl rfl (Cell.trk (by repeat (first | exact Has.here | apply Has.there)) rfl)) ?_ | refine VK_still rfl rfl rfl rfl rfl rfl (S_load Try.underlying88 rfl rfl (Cell.known (by first | assumption | exact (by assumption : Sub _ _) _ _ (by assumption) | exact (Sub.trans (by assumption) (by assumption)) _ _ (by assumption)) rfl)) ?_
      refine VK_pure rfl rfl rfl rfl rfl (S_move rfl) ?_
      refine VK_pure rfl rfl rfl rfl rfl (S_move rfl) ?_
      refine VK_pure rfl rfl rfl rfl rfl (S_addn (lb (keysP l) k) 1 rfl rfl (by omega)) ?_
      refine VK_eff rfl rfl rfl (E_call rfl rfl rfl Try.call65 (k_delete _ (keysP l).length (lb (keysP l) k) (lb (keysP l) k + 1) (kcs (keysP l)) h _ hBk (kcE.flat_one _) (by omega) (by omega) (by omega)) (by repeat (first | exact Split.nil | exact Pick.here | apply Pick.there | apply Split.cons))) ?_
      rintro _ hh32 _ ⟨v32, nb32, ⟨rfl, G32, hB32, rfl⟩, hs32, rfl, rfl⟩
      replace hB32 := hB32.del kcE (by omega) (by omega)
      obtain ⟨A32, c32, rfl, _, _⟩ := Buf.form hB32
      refine ⟨⟨(by first | exact Sub.refl _ | assumption | exact Sub.trans (by assumption) (by assumption)), (by repeat (first | exact SubB.nil | exact Pick.here | apply Pick.there | apply SubB.emp | apply SubB.cons))⟩, ?_⟩
      refine VK_pure rfl rfl rfl rfl rfl (S_move rfl) ?_
      refine VK_pure rfl rfl rfl rfl rfl (S_nil rfl) ?_
      refine VK_pure rfl rfl rfl rfl rfl (S_field (k := 1) Try.underlying92 rfl rfl ti89 rfl rfl) ?_
      first | refine VK_still rfl rfl rfl rfl rfl rfl (S_load Try.underlying89 rfl rfl (Cell.trk (by repeat (first | exact Has.here | apply Has.there)) rfl)) ?_ | refine VK_still rfl rfl rfl rfl rfl rfl (S_load Try.underlying89 rfl rfl (Cell.known (by first | assumption | exact (by assumption : Sub _ _) _ _ (by assumption) | exact (Sub.trans (by assumption) (by assumption)) _ _ (by assumption)) rfl)) ?_
      refine VK_pure rfl rfl rfl rfl rfl (S_move rfl) ?_
      refine VK_pure rfl rfl rfl rfl rfl (S_move rfl) ?_
      refine VK_pure rfl rfl rfl rfl rfl (S_addn (lb (keysP l) k) 1 rfl rfl (by omega)) ?_
      refine VK_eff rfl rfl rfl (E_call rfl rfl rfl Try.call66 (x_delete _ (l.map (fun p => p.2)).length (lb (keysP l) k) (lb (keysP l) k + 1) (xcs (l.map (fun p => p.2))) h _ hBv (xcE.flat_one _) (by omega) (by omega) (by omega)) (by repeat (first | exact Split.nil | exact Pick.here | apply Pick.there | apply Split.cons))) ?_
      rintro _ hh40 _ ⟨v40, nb40, ⟨rfl, G40, hB40, rfl⟩, hs40, rfl, rfl⟩
      replace hB40 := hB40.del xcE (by omega) (by omega)
      obtain ⟨A40, c40, rfl, _, _⟩ := Buf.form hB40
      refine ⟨⟨(by first | exact Sub.refl _ | assumption | exact Sub.trans (by assumption) (by assumption)), (by repeat (first | exact SubB.nil | exact Pick.here | apply Pick.there | apply SubB.emp | apply SubB.cons))⟩, ?_⟩
      refine VK_pure rfl rfl rfl rfl rfl (S_nil rfl) ?_
      refine VK_pure rfl rfl rfl rfl rfl (S_field (k := 0) Try.underlying92 rfl rfl ti88 rfl rfl) ?_
      refine VK_effT rfl rfl rfl rfl (E_store ti88 rfl rfl rfl rfl rfl (by repeat (first | exact Has.here | apply Has.there)) (by repeat (first | exact PutR.nil | exact SetL.here | apply SetL.there | apply PutR.cons)) (by repeat (first | exact UpdG.here | apply UpdG.there))) ?_
      rintro _ _ _ ⟨rfl, rfl, rfl⟩
      refine VK_pure rfl rfl rfl rfl rfl (S_nil rfl) ?_
      refine VK_pure rfl rfl rfl rfl rfl (S_field (k := 1) Try.underlying92 rfl rfl ti89 rfl rfl) ?_
      refine VK_effT rfl rfl rfl rfl (E_store ti89 rfl rfl rfl rfl rfl (by repeat (first | exact Has.here | apply Has.there)) (by repeat (first | exact PutR.nil | exact SetL.here | apply SetL.there | apply PutR.cons)) (by repeat (first | exact UpdG.here | apply UpdG.there))) ?_
      rintro _ _ _ ⟨rfl, rfl, rfl⟩
      refine VK_nil ?_
      refine VQ_then ?_
      refine V_seq ?_
      refine V_region ?_
      refine VL_still rfl rfl rfl (S_move rfl) ?_
      refine VL_still rfl rfl rfl (S_assign rfl) ?_
      refine VL_nil ?_
      refine VQ_then ?_
      refine V_ret ?_
      refine VQ_then_ret ?_
      refine VQ_keeps (blA := [GN bo (.slice A32 ((keysP l).take (lb (keysP l) k) ++ (keysP l).drop (lb (keysP l) k + 1)).length c32) (.slice A40 ((l.map (fun p => p.2)).take (lb (keysP l) k) ++ (l.map (fun p => p.2)).drop (lb (keysP l) k + 1)).length c40) (.slice Ac ([] : List Nat).length cc), G32, G40, Gc]) (by repeat (first | exact Split.nil | exact Pick.here | apply Pick.there | apply Split.cons)) (fun h1 sh1 kh1 => ?_)
      obtain ⟨q1, q2, q3, q4, _⟩ := kh1
      refine VQ_fin1 (nb := []) (by first | exact .inl rfl | exact .inr rfl) rfl (RV_tmp rfl) ?sb ?po
      case po =>
        refine ⟨rfl, bo, rfl, ?_⟩
        rw [delT_0, if_pos hf]
        show NodeAt h1 bo (keysP _) (List.map _ _) []
        rw [keysP_del, vals_del]
        exact NodeAt.own q1 q2 q3 q4 hB32 hB40 hBc
      case sb => exact (by repeat (first | exact SubB.nil | exact Pick.here | apply Pick.there | apply SubB.emp | apply SubB.cons))
    · skip
      have hf : (keysP l)[lb (keysP l) k]? ≠ some k := of_decide_eq_false hc22
      refine V_skip ?_
      refine VQ_then ?_
      refine V_seq ?_
      refine V_region ?_
      refine VL_still rfl rfl rfl (S_move rfl) ?_
      refine VL_still rfl rfl rfl (S_assign rfl) ?_
      refine VL_nil ?_
      refine VQ_then ?_
      refine V_ret ?_
      refine VQ_then_ret ?_
      refine VQ_keeps (blA := [GN bo (.slice Ak (keysP l).length ck) (.slice Av (l.map (fun p => p.2)).length cvv) (.slice Ac ([] : List Nat).length cc), Gk, Gv, Gc]) (by repeat (first | exact Split.nil | exact Pick.here | apply Pick.there | apply Split.cons)) (fun h1 sh1 kh1 => ?_)
      obtain ⟨q1, q2, q3, q4, _⟩ := kh1
      refine VQ_fin1 (nb := []) (by first | exact .inl rfl | exact .inr rfl) rfl (RV_tmp rfl) ?sb ?po
      case po =>
        refine ⟨rfl, bo, rfl, ?_⟩
        rw [delT_0, if_neg hf]
        exact NodeAt.own q1 q2 q3 q4 hBk hBv hBc
      case sb => exact (by repeat (first | exact SubB.nil | exact Pick.here | apply Pick.there | apply SubB.emp | apply SubB.cons))
  · skip
    simp at hc12

theorem Ch.at_key {α : Type} {R : Int → Int → α → Prop} {ks : List Int} {ts : List α} {lo hi k : Int} (h : Ch R lo hi ks ts) (hi' : ub ks k < ts.length) (h0 : lo ≤ k) (h1 : k < hi) : ∃ lo' hi', R lo' hi' ts[ub ks k] ∧ lo' ≤ k ∧ k < hi' := by
  obtain ⟨A, t, B, lo', hi'', e, f⟩ := h.foc (i := ub ks k) (ub_le ks k)
  subst e
  have hat := f.at_
  have : (A ++ t :: B)[ub ks k] = t := by rw [List.getElem_append_right (by omega)]; simp [hat]
  have hk := f.key k rfl h0 h1
  refine ⟨lo', hi'', ?_, hk.1, hk.2⟩
  rw [this]; exact f.one

set_option maxRecDepth 100000 in
theorem del_node (d b : Nat) (ks : List Int) (ts : List Tr) (bs : List Nat) (lo hi k : Int) (h : Hp) (hN : NodeAt h b ks [] bs) (hA : All2 (Rp h d) bs ts) (hI : Ch (In d) lo hi ks ts) (hK : ∀ x ∈ ts, 3 ≤ nk x ∧ nk x ≤ 7 ∧ Kd d x) (hn : ks.length ≤ 7) (hn1 : 1 ≤ ks.length) (hlo : lo ≤ k) (hhi : k < hi)
    (ih : ∀ (b : Nat) (t : Tr) (lo hi : Int) (h : Hp), Rp h d b t → In d lo hi t → Kd d t → nk t ≤ 7 → (d ≠ 0 → 1 ≤ nk t) → lo ≤ k → k < hi → Con Try.prog 44 [ptr b, .int .u64 k] h [] (fun r h' nb => nb = [] ∧ DelO h' d r (delT d t k))) : Con Try.prog 44 [ptr b, .int .u64 k] h [] (fun r h' nb => nb = [] ∧ DelO h' (d + 1) r (delT (d + 1) (.node ks ts) k)) := by
  obtain ⟨kv, vv, cv, hb, hk, hv, hc⟩ := hN
  obtain ⟨A, cap, rfl, hle, hmx⟩ := hk.form
  obtain ⟨A2, cap2, rfl, hlev, hmxv⟩ := hv.form
  obtain ⟨A3, cap3, rfl, hlec, hmxc⟩ := hc.form
  have hlen := hI.len
  have hbl := hA.len
  have hil := ub_le ks k
  have hib : ub ks k < bs.length := by omega
  have hit : ub ks k < ts.length := by omega
  have hbs : bs ≠ [] := by intro e; subst e; simp at hib
  obtain ⟨lo', hi', hIx, hkx⟩ := hI.at_key hit hlo hhi
  have hKx := hK ts[ub ks k] (List.getElem_mem hit)
  obtain ⟨bi, hbi, hRi⟩ := hA.get (List.getElem?_eq_getElem hit)
  have hbi' : bs[ub ks k] = bi := by rw [List.getElem?_eq_getElem hib] at hbi; exact Option.some.inj hbi
  obtain ⟨bb, off, cap', e1, hcc⟩ := hc.at_ pcE rfl hib
  cases e1
  rw [hbi'] at hcc
  obtain ⟨x1, x2, x3, x4, x5⟩ := del_ok hIx hKx.2.2 hKx.2.1 (fun _ => by omega) hkx.1 hkx.2
  have hSx := x1.sh
  generalize hdx : delT d ts[ub ks k] k = dx at *
  refine Con_of Try.func44 rfl Try.ntmps44 (Nat.le_of_ble_eq_true rfl) (fun w0 => ?_)
  refine V_seq ?_
  refine V_region ?_
  refine VL_still rfl rfl rfl (S_assign rfl) ?_
  refine VL_nil ?_
  refine VQ_then ?_
  refine V_seq ?_
  refine V_region ?_
  refine VL_still rfl rfl rfl (S_move rfl) ?_
  refine VL_eff rfl (E_call rfl rfl rfl Try.call60 (clone_con b ks [] bs h ⟨_, _, _, hb, hk, hv, hc⟩ (by omega) (by simp) (by omega)) (by repeat (first | exact Split.nil | exact Pick.here | apply Pick.there | apply Split.cons))) ?_
  rintro _ hh10 _ ⟨v10, nb10, ⟨rfl, bo, kvo, vvo, cvo, Gk, Gv, Gc, rfl, hBk, hBv, hBc, rfl⟩, hs10, rfl, rfl⟩
  obtain ⟨Ak, ck, rfl, _, _⟩ := Buf.form hBk
  obtain ⟨Av, cvv, rfl, _, _⟩ := Buf.form hBv
  obtain ⟨bc, capc, spc, rfl, rfl, l1, l2, hl1, hl2⟩ := Buf.blk hBc (by omega)
  refine VL_still rfl rfl rfl (S_assign rfl) ?_
  refine VL_nil ?_
  refine VQ_then ?_
  refine V_seq ?_
  refine V_seq ?_
  refine V_region ?_
  refine VL_still rfl rfl rfl (S_move rfl) ?_
  refine VL_eff rfl (E_call rfl rfl rfl Try.call39 (leaf_con b _ _ _ h ⟨_, _, _, hb, hk, hv, hc⟩) (by repeat (first | exact Split.nil | exact Pick.here | apply Pick.there | apply Split.cons))) ?_
  rintro _ hh12 _ ⟨v12, nb12, ⟨rfl, rfl, rfl⟩, hs12, rfl, rfl⟩
  refine VL_nil ?_
  refine VQ_then ?_
  refine V_cond rfl (fun hc12 => ?_) (fun hc12 => ?_)
  · skip
    exact absurd (of_decide_eq_true hc12) hbs
  · skip
    refine V_skip ?_
    refine VQ_then ?_
    refine V_seq ?_
    refine V_region ?_
    refine VL_still rfl rfl rfl (S_move rfl) ?_
    refine VL_still rfl rfl rfl (S_move rfl) ?_
    refine VL_eff rfl (E_call rfl rfl rfl Try.call40 (way_con b _ _ _ h ⟨_, _, _, hb, hk, hv, hc⟩ k _ _ hI.seps (by omega)) (by repeat (first | exact Split.nil | exact Pick.here | apply Pick.there | apply Split.cons))) ?_
    rintro _ hh48 _ ⟨v48, nb48, ⟨rfl, rfl, rfl⟩, hs48, rfl, rfl⟩
    refine VL_still rfl rfl rfl (S_assign rfl) ?_
    refine VL_nil ?_
    refine VQ_then ?_
    refine V_seq ?_
    refine V_drawL _ [GN bo (.slice Ak ks.length ck) (.slice Av ([] : List Ext).length cvv) (.slice (some ⟨bc, 0, none⟩) bs.length capc)] 40960 Try.mixed (by kernel_rfl) (by kernel_rfl) (Sub.refl _) (by repeat (first | exact SubB.nil | exact Pick.here | apply Pick.there | apply SubB.emp | apply SubB.cons)) ?_
    refine VD_still rfl rfl rfl rfl (S_move rfl) ?_
    refine VD_still rfl rfl rfl rfl (S_nil rfl) ?_
    refine VD_still rfl rfl rfl rfl (S_field (k := 2) Try.underlying92 rfl rfl ti90 rfl rfl) ?_
    first | refine VD_still rfl rfl rfl rfl (S_load Try.underlying90 rfl rfl (Cell.trk (by repeat (first | exact Has.here | apply Has.there)) rfl)) ?_ | refine VD_still rfl rfl rfl rfl (S_load Try.underlying90 rfl rfl (Cell.known (by first | assumption | exact (by assumption : Sub _ _) _ _ (by assumption) | exact (Sub.trans (by assumption) (by assumption)) _ _ (by assumption)) rfl)) ?_
    refine VD_still rfl rfl rfl rfl (S_move rfl) ?_
    refine VD_still rfl rfl rfl rfl (S_move rfl) ?_
    refine VD_still rfl rfl rfl rfl (S_nil rfl) ?_
    refine VD_still rfl rfl rfl rfl (S_field (k := 2) Try.underlying92 rfl rfl ti90 rfl rfl) ?_
    first | refine VD_still rfl rfl rfl rfl (S_load Try.underlying90 rfl rfl (Cell.trk (by repeat (first | exact Has.here | apply Has.there)) rfl)) ?_ | refine VD_still rfl rfl rfl rfl (S_load Try.underlying90 rfl rfl (Cell.known (by first | assumption | exact (by assumption : Sub _ _) _ _ (by assumption) | exact (Sub.trans (by assumption) (by assumption)) _ _ (by assumption)) rfl)) ?_
    refine VD_still rfl rfl rfl rfl (S_move rfl) ?_
    refine VD_still rfl rfl rfl rfl (X_at (ub ks k) Try.underlying90 tx83 rfl rfl hib) ?_
    refine VD_still rfl rfl rfl rfl (S_load Try.underlying83 rfl rfl hcc.1.mem) ?_
    refine VD_still rfl rfl rfl rfl (S_move rfl) ?_
    refine VD_eff rfl rfl (E_call rfl rfl rfl Try.call44 (ih bi _ _ _ h hRi hIx hKx.2.2 hKx.2.1 (fun _ => by omega) hkx.1 hkx.2) (by repeat (first | exact Split.nil | exact Pick.here | apply Pick.there | apply Split.cons))) ?_
    rintro _ hh62 _ ⟨v62, nb62, ⟨rfl, b1, rfl, hR1⟩, hs62, rfl, rfl⟩
    rw [hdx] at hR1
    have hA1 := (hA.mono (fun a b r => Rp.sub hs62 r)).set (ub ks k) hR1
    obtain ⟨vs1, bs1, hN1, _⟩ := Rp.node hR1 hSx
    obtain ⟨kv1, vv1, cv1, hb1, hk1, hv1, hc1⟩ := hN1
    obtain ⟨A7, c7, rfl, _, _⟩ := hk1.form
    refine ⟨⟨(by first | exact Sub.refl _ | assumption | exact Sub.trans (by assumption) (by assumption)), (by repeat (first | exact SubB.nil | exact Pick.here | apply Pick.there | apply SubB.emp | apply SubB.cons))⟩, ?_⟩
    refine VD_still rfl rfl rfl rfl (X_at (ub ks k) Try.underlying90 tx83 rfl rfl hib) ?_
    refine VD_last rfl rfl (E_store ti83 rfl rfl rfl rfl rfl (by repeat (first | exact Has.here | apply Has.there)) (PutR.encd pcE hib b1 spc) (by repeat (first | exact UpdG.here | apply UpdG.there))) ?_
    rintro _ _ _ ⟨rfl, rfl, rfl⟩
    have hBc' : BC (.slice (some ⟨bc, 0, none⟩) bs.length capc) (bs.set (ub ks k) b1) [(bc, .cells (List.toArray ((bs.set (ub ks k) b1).flatMap pc ++ spc)) 83 (0, 0))] := Buf.set pcE _ b1 rfl l1 l2 hl2
    refine VQ_then ?_
    refine V_seq ?_
    refine V_seq ?_
    refine V_region ?_
    refine VL_still rfl rfl rfl (S_move rfl) ?_
    refine VL_still rfl rfl rfl (S_nil rfl) ?_
    refine VL_still rfl rfl rfl (S_field (k := 2) Try.underlying92 rfl rfl ti90 rfl rfl) ?_
    first | refine VL_still rfl rfl rfl (S_load Try.underlying90 rfl rfl (Cell.trk (by repeat (first | exact Has.here | apply Has.there)) rfl)) ?_ | refine VL_still rfl rfl rfl (S_load Try.underlying90 rfl rfl (Cell.known (by first | assumption | exact (by assumption : Sub _ _) _ _ (by assumption) | exact (Sub.trans (by assumption) (by assumption)) _ _ (by assumption)) rfl)) ?_
    refine VL_still rfl rfl rfl (S_move rfl) ?_
    refine VL_still rfl rfl rfl (X_at (ub ks k) Try.underlying90 tx83 rfl rfl hib) ?_
    refine VL_still rfl rfl rfl (S_load Try.underlying83 rfl rfl (Cell.trk (by repeat (first | exact Has.here | apply Has.there)) (pat (List.getElem?_set_self hib)))) ?_
    refine VL_still rfl rfl rfl (S_nil rfl) ?_
    refine VL_still rfl rfl rfl (S_field (k := 0) Try.underlying92 rfl rfl ti88 rfl rfl) ?_
    refine VL_still rfl rfl rfl (S_load Try.underlying88 rfl rfl (Cell.known hb1 rfl)) ?_
    refine VL_still rfl rfl rfl (S_len Try.underlying88 rfl) ?_
    refine VL_still rfl rfl rfl (S_lss rfl rfl) ?_
    refine VL_nil ?_
    refine VQ_then ?_
    refine V_cond rfl (fun hc75 => ?_) (fun hc75 => ?_)
    · skip
      have h3 : nk dx < 3 := by
        have := of_decide_eq_true hc75
        unfold nk
        omega
      have hlt0 : ub ks k - 1 < ks.length := by omega
      have hset : (ts.set (ub ks k) dx).length = ts.length := List.length_set
      obtain ⟨ta, hta⟩ : ∃ x, (ts.set (ub ks k) dx)[ub ks k - 1]? = some x := ⟨_, List.getElem?_eq_getElem (by omega)⟩
      obtain ⟨tb, htb⟩ : ∃ x, (ts.set (ub ks k) dx)[ub ks k - 1 + 1]? = some x := ⟨_, List.getElem?_eq_getElem (by omega)⟩
      obtain ⟨ba, hba, hra⟩ := hA1.get hta
      obtain ⟨bb', hbb, hrb⟩ := hA1.get htb
      obtain ⟨s, hs⟩ : ∃ s, ks[ub ks k - 1]? = some s := ⟨_, List.getElem?_eq_getElem hlt0⟩
      have hS : ∀ x ∈ ts.set (ub ks k) dx, Sh d x := fun x hx => by
        rcases List.mem_or_eq_of_mem_set hx with hx | rfl
        · obtain ⟨j, hj, rfl⟩ := List.getElem_of_mem hx
          obtain ⟨_, _, hj'⟩ := hI.at_ hj
          exact hj'.sh
        · exact hSx
      have hnk : ∀ x ∈ ts.set (ub ks k) dx, nk x ≤ 100 := fun x hx => by
        rcases List.mem_or_eq_of_mem_set hx with hx | rfl
        · have := hK x hx; omega
        · omega
      refine V_region ?_
      refine VL_still rfl rfl rfl (S_move rfl) ?_
      refine VL_still rfl rfl rfl (S_move rfl) ?_
      first | refine VL_still rfl rfl rfl (S_subi rfl rfl (by omega) (by omega)) ?_ | refine VL_still rfl rfl rfl (S_sub rfl rfl) ?_
      refine VL_still rfl rfl rfl (S_max rfl rfl) ?_
      rw [max_pred]
      refine VL_eff rfl (E_call rfl rfl rfl Try.call67 (mend_con d bo (ub ks k - 1) ba bb' ks (ts.set (ub ks k) dx) (bs.set (ub ks k) b1) ta tb s _ _ _ Gk _ hh62 hBk hBc' hA1 hS (by rw [List.length_set]; omega) (by omega) (by rw [List.length_set]; omega) (by omega) hta htb hba hbb hs hra hrb (hnk _ (List.mem_of_getElem? hta)) (hnk _ (List.mem_of_getElem? htb))) (by repeat (first | exact Split.nil | exact Pick.here | apply Pick.there | apply Split.cons))) ?_
      rintro _ hh80 _ ⟨v80, nb80, ⟨rfl, kv2, cv2, Gk2, Gc2, bs2, hBk2, hBc2, hA2, rfl⟩, hs80, rfl, rfl⟩
      refine VL_nil ?_
      refine VQ_then ?_
      refine V_seq ?_
      refine V_region ?_
      refine VL_still rfl rfl rfl (S_move rfl) ?_
      refine VL_still rfl rfl rfl (S_assign rfl) ?_
      refine VL_nil ?_
      refine VQ_then ?_
      refine V_ret ?_
      refine VQ_keeps (blA := [GN bo kv2 (.slice Av ([] : List Ext).length cvv) cv2, Gk2, Gv, Gc2]) (by repeat (first | exact Split.nil | exact Pick.here | apply Pick.there | apply Split.cons)) (fun h1 sh1 kh1 => ?_)
      obtain ⟨q1, q2, q3, q4, _⟩ := kh1
      refine VQ_fin1 (nb := []) (by first | exact .inl rfl | exact .inr rfl) rfl (RV_tmp rfl) ?sb ?po
      case po =>
        refine ⟨rfl, bo, rfl, ?_⟩
        rw [delT_s]
        simp only [List.getElem?_eq_getElem hit, hdx]
        rw [if_pos h3]
        exact ⟨bs2, NodeAt.own q1 q2 q3 q4 hBk2 hBv hBc2, hA2.mono fun _ _ r => Rp.sub sh1 r⟩
      case sb => exact (by repeat (first | exact SubB.nil | exact Pick.here | apply Pick.there | apply SubB.emp | apply SubB.cons))
    · skip
      have h3 : ¬ nk dx < 3 := by
        have := of_decide_eq_false hc75
        unfold nk
        omega
      refine V_skip ?_
      refine VQ_then ?_
      refine V_seq ?_
      refine V_region ?_
      refine VL_still rfl rfl rfl (S_move rfl) ?_
      refine VL_still rfl rfl rfl (S_assign rfl) ?_
      refine VL_nil ?_
      refine VQ_then ?_
      refine V_ret ?_
      refine VQ_keeps (blA := [GN bo (.slice Ak ks.length ck) (.slice Av ([] : List Ext).length cvv) (.slice (some ⟨bc, 0, none⟩) bs.length capc), Gk, Gv, [(bc, .cells (List.toArray ((bs.set (ub ks k) b1).flatMap pc ++ spc)) 83 (0, 0))]]) (by repeat (first | exact Split.nil | exact Pick.here | apply Pick.there | apply Split.cons)) (fun h1 sh1 kh1 => ?_)
      obtain ⟨q1, q2, q3, q4, _⟩ := kh1
      refine VQ_fin1 (nb := []) (by first | exact .inl rfl | exact .inr rfl) rfl (RV_tmp rfl) ?sb ?po
      case po =>
        refine ⟨rfl, bo, rfl, ?_⟩
        rw [delT_s]
        simp only [List.getElem?_eq_getElem hit, hdx]
        rw [if_neg h3]
        exact ⟨_, NodeAt.own q1 q2 q3 q4 hBk hBv hBc', hA1.mono fun _ _ r => Rp.sub sh1 r⟩
      case sb => exact (by repeat (first | exact SubB.nil | exact Pick.here | apply Pick.there | apply SubB.emp | apply SubB.cons))

theorem del_con : ∀ (d b : Nat) (t : Tr) (lo hi k : Int) (h : Hp), Rp h d b t → In d lo hi t → Kd d t → nk t ≤ 7 → (d ≠ 0 → 1 ≤ nk t) → lo ≤ k → k < hi →
    Con Try.prog 44 [ptr b, .int .u64 k] h [] (fun r h' nb => nb = [] ∧ DelO h' d r (delT d t k))
  | 0, b, .leaf l, lo, hi, k, h, hr, hi', _, hn, _, _, _ => del_leaf b l lo hi k h hr hi' (by rw [← keysP_len]; exact Nat.le_trans hn (by omega))
  | d + 1, b, .node ks ts, lo, hi, k, h, ⟨bs, hN, hA⟩, hi', hk, hn, hn1, h0, h1 => del_node d b ks ts bs lo hi k h hN hA hi' hk hn (hn1 (by omega)) h0 h1 (fun b t lo hi h r i k' n' n1 a0 a1 => del_con d b t lo hi k h r i k' n' n1 a0 a1)

end Go.Proofs.Ytdglignjoojimaa
