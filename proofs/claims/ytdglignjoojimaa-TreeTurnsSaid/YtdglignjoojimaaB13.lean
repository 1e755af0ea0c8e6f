/- A tree's nodes in a list. No conditions. -/
import Derived.Test.YtdglignjoojimaaB12
import Derived.Test.YtdglignjoojimaaT7
import Derived.Test.YtdglignjoojimaaSx22
set_option linter.unusedVariables false
set_option linter.unusedSimpArgs false
namespace Go.Proofs.Ytdglignjoojimaa

/-- A slice's parts; a node's three slices. -/
abbrev Sv := Option Addr × Nat × Nat
def sv (s : Sv) : Value := .slice s.1 s.2.1 s.2.2
def tri (c : Sv × Sv × Sv) : List Value := [sv c.1, sv c.2.1, sv c.2.2]
theorem triE : Enc tri 3 := ⟨fun _ => rfl, fun _ => rfl⟩
abbrev tris (l : List (Sv × Sv × Sv)) : List Value := l.flatMap tri
def ic (k : Int) : List Value := [.int .i64 k]
theorem icE : Enc ic 1 := ⟨fun _ => rfl, fun _ => rfl⟩
abbrev ics (l : List Int) : List Value := l.flatMap ic
abbrev BN (v : Value) (cs : List (Sv × Sv × Sv)) (G : Gr) : Prop := Buf 108 3 v cs.length (tris cs) G
abbrev BI (v : Value) (l : List Int) (G : Gr) : Prop := Buf 3 1 v l.length (ics l) G
/-- A node of a list, known for good. -/
def NdR (h : Hp) (c : Sv × Sv × Sv) (x : Nd) : Prop :=
  SlR h [] (sv c.1) x.keys.length (kcs x.keys) 1 ∧ SlR h [] (sv c.2.1) x.vals.length (xcs x.vals) 2 ∧ SlR h [] (sv c.2.2) x.kids.length (ics x.kids) 1
theorem NdR.sub {h h' : Hp} (s : Sub h h') {c : Sv × Sv × Sv} {x : Nd} (n : NdR h c x) : NdR h' c x := ⟨n.1.sub s, n.2.1.sub s, n.2.2.sub s⟩
theorem Buf.sv {e : TypeId} {sz n : Nat} {v : Value} {cs : List Value} {G : Gr} (B : Buf e sz v n cs G) : ∃ s : Sv, v = Go.Proofs.Ytdglignjoojimaa.sv s ∧ s.2.1 = n := by
  obtain ⟨A, c, rfl, _, _⟩ := B.form
  exact ⟨(A, n, c), rfl, rfl⟩

set_option maxRecDepth 100000 in
theorem list_gen (d b : Nat) (ks : List Int) (vs : List Ext) (bs : List Nat) (ts : List Tr) (vo : Value) (cs : List (Sv × Sv × Sv)) (Go : Gr) (h : Hp) (hN : NodeAt h b ks vs bs) (hA : All2 (Rp h d) bs ts) (hB : BN vo cs Go) (n1 : ks.length ≤ 1000) (n2 : vs.length ≤ 1000) (n3 : bs.length ≤ 1000) (hn : cs.length + 1 + (kidsT (listT d) ts 0).2.length ≤ 100000)
    (ih : ∀ (x : Tr), x ∈ ts → ∀ (b : Nat) (vo : Value) (cs : List (Sv × Sv × Sv)) (Go : Gr) (h : Hp), Rp h d b x → BN vo cs Go → cs.length + (listT d x 0).length ≤ 100000 → Con Try.prog 42 [ptr b, vo] h [Go] (fun r h' nb => ∃ cs' G', BN r (cs ++ cs') G' ∧ All2 (NdR h') cs' (listT d x cs.length) ∧ nb = [G'])) : Con Try.prog 42 [ptr b, vo] h [Go] (fun r h' nb => ∃ cs' G', BN r (cs ++ cs') G' ∧ All2 (NdR h') cs' (⟨ks, vs, (kidsT (listT d) ts (cs.length + 1)).1⟩ :: (kidsT (listT d) ts (cs.length + 1)).2) ∧ nb = [G']) := by
  obtain ⟨kv, vv, cv, hb, hk, hv, hc⟩ := hN
  obtain ⟨A, cap, rfl, hle, hmx⟩ := hk.form
  obtain ⟨A2, cap2, rfl, hlev, hmxv⟩ := hv.form
  obtain ⟨A3, cap3, rfl, hlec, hmxc⟩ := hc.form
  have hbl := hA.len
  obtain ⟨A1, cap1, rfl, hle1, hmx1⟩ := Buf.form hB
  refine Con_of Try.func42 rfl Try.ntmps42 (Nat.le_of_ble_eq_true rfl) (fun w0 => ?_)
  refine V_seq ?_
  refine V_region ?_
  refine VL_still rfl rfl rfl (S_assign rfl) ?_
  refine VL_nil ?_
  refine VQ_then ?_
  refine V_seq ?_
  refine V_region ?_
  refine VL_still rfl rfl rfl (S_move rfl) ?_
  refine VL_still rfl rfl rfl (S_len Try.underlying41 rfl) ?_
  refine VL_still rfl rfl rfl (S_assign rfl) ?_
  refine VL_nil ?_
  refine VQ_then ?_
  refine V_seq ?_
  refine V_draw _ [] 13344 Try.mixed (by kernel_rfl) (Sub.refl _) SubB.nil ?_
  refine VD_still rfl rfl rfl rfl (S_move rfl) ?_
  refine VD_still rfl rfl rfl rfl (S_move rfl) ?_
  refine VD_still rfl rfl rfl rfl (S_nil rfl) ?_
  refine VD_still rfl rfl rfl rfl (S_field (k := 0) Try.underlying92 rfl rfl ti88 rfl rfl) ?_
  first | refine VD_still rfl rfl rfl rfl (S_load Try.underlying88 rfl rfl (Cell.trk (by repeat (first | exact Has.here | apply Has.there)) rfl)) ?_ | refine VD_still rfl rfl rfl rfl (S_load Try.underlying88 rfl rfl (Cell.known (by first | assumption | exact (by assumption : Sub _ _) _ _ (by assumption) | exact (Sub.trans (by assumption) (by assumption)) _ _ (by assumption)) rfl)) ?_
  refine VD_eff rfl rfl (E_call rfl rfl rfl Try.call58 (k_clone0 _ ks.length (kcs ks) h hk (kcE.flat_one _) (by omega)) (by repeat (first | exact Split.nil | exact Pick.here | apply Pick.there | apply Split.cons))) ?_
  rintro _ hh15 _ ⟨v15, nb15, ⟨rfl, G15, hB15, rfl⟩, hs15, rfl, rfl⟩
  obtain ⟨A15, c15, rfl, _, _⟩ := Buf.form hB15
  refine ⟨⟨(by first | exact Sub.refl _ | assumption | exact Sub.trans (by assumption) (by assumption)), (by repeat (first | exact SubB.nil | exact Pick.here | apply Pick.there | apply SubB.emp | apply SubB.cons))⟩, ?_⟩
  refine VD_still rfl rfl rfl rfl (S_move rfl) ?_
  refine VD_still rfl rfl rfl rfl (S_nil rfl) ?_
  refine VD_still rfl rfl rfl rfl (S_field (k := 1) Try.underlying92 rfl rfl ti89 rfl rfl) ?_
  first | refine VD_still rfl rfl rfl rfl (S_load Try.underlying89 rfl rfl (Cell.trk (by repeat (first | exact Has.here | apply Has.there)) rfl)) ?_ | refine VD_still rfl rfl rfl rfl (S_load Try.underlying89 rfl rfl (Cell.known (by first | assumption | exact (by assumption : Sub _ _) _ _ (by assumption) | exact (Sub.trans (by assumption) (by assumption)) _ _ (by assumption)) rfl)) ?_
  refine VD_eff rfl rfl (E_call rfl rfl rfl Try.call59 (x_clone0 _ vs.length (xcs vs) h hv (xcE.flat_one _) (by omega)) (by repeat (first | exact Split.nil | exact Pick.here | apply Pick.there | apply Split.cons))) ?_
  rintro _ hh20 _ ⟨v20, nb20, ⟨rfl, G20, hB20, rfl⟩, hs20, rfl, rfl⟩
  obtain ⟨A20, c20, rfl, _, _⟩ := Buf.form hB20
  refine ⟨⟨(by first | exact Sub.refl _ | assumption | exact Sub.trans (by assumption) (by assumption)), (by repeat (first | exact SubB.nil | exact Pick.here | apply Pick.there | apply SubB.emp | apply SubB.cons))⟩, ?_⟩
  refine VD_still rfl rfl rfl rfl (S_struct Try.underlying108 to108 tz108 rfl (by repeat (first | exact BuildR.nil | exact PutR.nil | exact SetL.here | apply SetL.there | apply PutR.cons | apply BuildR.cons rfl (by first | exact ti71 | exact ti88 | exact ti89) rfl rfl rfl))) ?_
  refine VD_eff rfl rfl (E_bs1 rfl Try.underlying41 ti108 rfl rfl rfl rfl rfl rfl) ?_
  rintro _ _ _ ⟨b22, hb22, rfl, rfl, rfl⟩
  refine ⟨⟨(by first | exact Sub.refl _ | assumption | exact Sub.trans (by assumption) (by assumption)), (by repeat (first | exact SubB.nil | exact Pick.here | apply Pick.there | apply SubB.emp | apply SubB.cons))⟩, ?_⟩
  refine VD_eff rfl rfl (X_append rfl Try.underlying41 Try.underlying41 rfl tx108 rfl rfl rfl rfl hB (by repeat (first | exact Pick.here | apply Pick.there)) (Buf.reads (G := [(b22, .cells (List.toArray [.slice A15 ks.length c15, .slice A20 vs.length c20, .slice none 0 0]) 108 (0, 0))]) (Buf.lit (n := 1) (by rfl) (by omega)) (fun q hq => by simp at hq ⊢; try simp [hq])) rfl (by omega)) ?_
  rintro _ _ _ ⟨v23, G23, hB23, rfl, rfl, rfl⟩
  replace hB23 : BN v23 (cs ++ [((A15, ks.length, c15), (A20, vs.length, c20), ((none : Option Addr), 0, 0))]) G23 := Buf.snoc (enc := tri) hB23
  obtain ⟨A23, c23, rfl, _, _⟩ := Buf.form hB23
  refine ⟨⟨(by first | exact Sub.refl _ | assumption | exact Sub.trans (by assumption) (by assumption)), (by repeat (first | exact SubB.nil | exact Pick.here | apply Pick.there | apply SubB.emp | apply SubB.cons))⟩, ?_⟩
  refine VD_still rfl rfl rfl rfl (S_assign rfl) ?_
  refine VD_nil ?_
  refine VQ_then ?_
  refine V_seq ?_
  refine V_seq ?_
  refine V_keeps (blA := [G15, G20]) (by repeat (first | exact Split.nil | exact Pick.here | apply Pick.there | apply Split.cons)) (fun h1 sh1 kh1 => ?_)
  obtain ⟨q1, q2, _⟩ := kh1
  have sk := hB15.known q1
  have sl := hB20.known q2
  refine V_region ?_
  refine VL_still rfl rfl rfl (S_move rfl) ?_
  refine VL_still rfl rfl rfl (S_nil rfl) ?_
  refine VL_still rfl rfl rfl (S_field (k := 2) Try.underlying92 rfl rfl ti90 rfl rfl) ?_
  refine VL_still rfl rfl rfl (S_load Try.underlying90 rfl rfl (Cell.known (sh1 _ _ hb) rfl)) ?_
  refine VL_still rfl rfl rfl (S_len Try.underlying90 rfl) ?_
  refine VL_still rfl rfl rfl (S_move rfl) ?_
  refine VL_nil ?_
  refine VQ_then ?_
  refine V_block ?_
  refine V_loop (ι := Nat × Hp × Value × Gr × Sv × Gr × List (Sv × Sv × Sv)) (fun x => ts.length - x.1) (fun (i, hh, v, G, vk, Gk, sub) => i ≤ ts.length ∧ Sub h1 hh ∧ BN v (cs ++ ((A15, ks.length, c15), (A20, vs.length, c20), vk) :: sub) G ∧ BI (sv vk) (kidsT (listT d) (ts.take i) (cs.length + 1)).1 Gk ∧ All2 (NdR hh) sub (kidsT (listT d) (ts.take i) (cs.length + 1)).2) (fun (i, hh, v, G, vk, Gk, sub) => [(0, ptr b), (1, v), (5, .int .i64 cs.length), (27, .slice A3 bs.length cap3), (28, .int .i64 bs.length), (29, .int .i64 i)]) (fun (i, hh, v, G, vk, Gk, sub) => hh) (fun (i, hh, v, G, vk, Gk, sub) => [G, Gk]) (0, h1, _, G23, (none, 0, 0), [], []) ⟨Nat.zero_le _, Sub.refl _, hB23, Buf.nil _ _, .nil⟩ (by repeat (first | exact trivial | refine ⟨rfl, ?_⟩)) rfl (by repeat (first | exact SubB.nil | exact Pick.here | apply Pick.there | apply SubB.emp | apply SubB.cons)) (fun ⟨i, hh, v, G, vk, Gk, sub⟩ hi => ?_)
  obtain ⟨hi1, hs1, hB1, hBI, hA1⟩ := hi
  simp only at hi1 hs1 hB1 hBI hA1 ⊢
  have hsub := hA1.len
  have hkl := kidsT_take_le (listT d) ts (cs.length + 1) i
  have hkl2 := kidsT_len2 (d := d) ts (cs.length + 1) 0
  have hlc : (cs ++ ((A15, ks.length, c15), (A20, vs.length, c20), vk) :: sub).length = cs.length + 1 + sub.length := by simp; omega
  have hkn := kidsT_len (listT d) (ts.take i) (cs.length + 1)
  have htl : (ts.take i).length = i := by rw [List.length_take]; omega
  have hc' := hc.sub (bl' := []) (sh1.trans hs1)
  obtain ⟨bo, co, sp, rfl, rfl, l1, l2, hl1, hl2⟩ := Buf.blk hB1 (by omega)
  refine V_seq ?_
  refine V_region ?_
  refine VL_still rfl rfl rfl (S_lss rfl rfl) ?_
  refine VL_nil ?_
  refine VQ_then ?_
  refine V_seq ?_
  refine V_cond rfl (fun hc30 => ?_) (fun hc30 => ?_)
  · skip
    have hlt : i < bs.length := by
      have := of_decide_eq_true hc30
      omega
    have hltt : i < ts.length := by omega
    obtain ⟨bb, off, cap', e1, hcc⟩ := hc'.at_ pcE rfl hlt
    simp only [Value.slice.injEq] at e1
    obtain ⟨rfl, _, rfl⟩ := e1
    obtain ⟨bi, hbi, hRi⟩ := hA.get (List.getElem?_eq_getElem hltt)
    have hbi' : bs[i] = bi := by rw [List.getElem?_eq_getElem hlt] at hbi; exact Option.some.inj hbi
    rw [hbi'] at hcc
    have hsn := kidsT_snoc (listT d) ts[i] (ts.take i) (cs.length + 1)
    rw [← take_snoc ts i hltt, ← hsub] at hsn
    have hnx := kidsT_take_le (listT d) ts (cs.length + 1) (i + 1)
    rw [hsn] at hnx
    simp only [List.length_append] at hnx
    rw [listT_len (d := d) (t := ts[i]) _ 0] at hnx
    have hget := get_mid (A := cs) (B := sub) (a := ((A15, ks.length, c15), (A20, vs.length, c20), vk)) rfl
    refine V_skip ?_
    refine VQ_then ?_
    refine V_seq ?_
    refine V_block ?_
    refine V_seq ?_
    refine V_region ?_
    refine VL_still rfl rfl rfl (X_at i Try.underlying90 tx83 rfl rfl hlt) ?_
    refine VL_still rfl rfl rfl (S_load Try.underlying83 rfl rfl hcc.1.mem) ?_
    refine VL_still rfl rfl rfl (S_assign rfl) ?_
    refine VL_nil ?_
    refine VQ_then ?_
    refine V_seq ?_
    refine V_region ?_
    refine VL_still rfl rfl rfl (S_move rfl) ?_
    refine VL_still rfl rfl rfl (S_move rfl) ?_
    refine VL_still rfl rfl rfl (S_move rfl) ?_
    refine VL_still rfl rfl rfl (S_move rfl) ?_
    refine VL_still rfl rfl rfl (X_at cs.length Try.underlying41 tx108 rfl rfl (by omega)) ?_
    refine VL_still rfl rfl rfl (S_field (k := 2) Try.underlying108 rfl rfl ti71 rfl rfl) ?_
    refine VL_still rfl rfl rfl (S_load Try.underlying71 rfl rfl (Cell.trk (by repeat (first | exact Has.here | apply Has.there)) (part_at (pre := [.slice A15 ks.length c15, .slice A20 vs.length c20]) (post := []) triE hget rfl rfl sp))) ?_
    refine VL_still rfl rfl rfl (S_move rfl) ?_
    refine VL_still rfl rfl rfl (S_len Try.underlying41 rfl) ?_
    refine VL_eff rfl (E_bs1 rfl Try.underlying71 ti3 rfl rfl rfl rfl rfl rfl) ?_
    rintro _ _ _ ⟨b42, hb42, rfl, rfl, rfl⟩
    refine VL_eff rfl (X_append rfl Try.underlying71 Try.underlying71 rfl tx3 rfl rfl rfl rfl hBI (by repeat (first | exact Pick.here | apply Pick.there)) (Buf.reads (G := [(b42, .cells (List.toArray [.int .i64 ((cs ++ ((A15, ks.length, c15), (A20, vs.length, c20), vk) :: sub).length : Nat)]) 3 (0, 0))]) (Buf.lit (n := 1) (by rfl) (by omega)) (fun q hq => by simp at hq ⊢; try simp [hq])) rfl (by omega)) ?_
    rintro _ _ _ ⟨v43, G43, hB43, rfl, rfl, rfl⟩
    replace hB43 := Buf.snoc (enc := ic) (a := (((cs ++ ((A15, ks.length, c15), (A20, vs.length, c20), vk) :: sub).length : Nat) : Int)) hB43
    rw [hlc] at hB43
    obtain ⟨A43, c43, rfl, _, _⟩ := Buf.form hB43
    refine VL_still rfl rfl rfl (X_at cs.length Try.underlying41 tx108 rfl rfl (by omega)) ?_
    refine VL_still rfl rfl rfl (S_field (k := 2) Try.underlying108 rfl rfl ti71 rfl rfl) ?_
    refine VL_eff rfl (E_store ti71 rfl rfl rfl rfl rfl (by repeat (first | exact Has.here | apply Has.there)) (PutR.part (a' := ((A15, ks.length, c15), (A20, vs.length, c20), (A43, ((kidsT (listT d) (ts.take i) (cs.length + 1)).1 ++ [((cs.length + 1 + sub.length : Nat) : Int)]).length, c43))) (pre := [.slice A15 ks.length c15, .slice A20 vs.length c20]) (post := []) triE hget rfl rfl rfl sp) (by repeat (first | exact UpdG.here | apply UpdG.there))) ?_
    rintro _ _ _ ⟨rfl, rfl, rfl⟩
    have hB1' := Buf.set (b := bo) (e := 108) (sp := sp) triE cs.length ((A15, ks.length, c15), (A20, vs.length, c20), (A43, ((kidsT (listT d) (ts.take i) (cs.length + 1)).1 ++ [((cs.length + 1 + sub.length : Nat) : Int)]).length, c43)) rfl l1 l2 hl2
    refine VL_nil ?_
    refine VQ_then ?_
    refine V_region ?_
    refine VL_still rfl rfl rfl (S_move rfl) ?_
    refine VL_still rfl rfl rfl (S_move rfl) ?_
    refine VL_eff rfl (E_call rfl rfl rfl Try.call42 (ih ts[i] (List.getElem_mem hltt) bi _ _ _ hh (Rp.sub (sh1.trans hs1) hRi) hB1' (by rw [List.length_set]; omega)) (by repeat (first | exact Split.nil | exact Pick.here | apply Pick.there | apply Split.cons))) ?_
    rintro _ hh48 _ ⟨v48, nb48, ⟨cs2, G2, hB2, hA2, rfl⟩, hs48, rfl, rfl⟩
    rw [List.length_set, hlc] at hA2
    rw [set_mid rfl, List.append_assoc, List.cons_append] at hB2
    refine VL_still rfl rfl rfl (S_assign rfl) ?_
    refine VL_nil ?_
    refine VQ_block_normal ?_
    refine VQ_then ?_
    refine V_region ?_
    first | refine VL_still rfl rfl rfl (S_addi rfl rfl (by omega) (by omega)) ?_ | refine VL_still rfl rfl rfl (S_add rfl rfl) ?_
    refine VL_still rfl rfl rfl (S_move rfl) ?_
    refine VL_nil ?_
    refine VQ_mid (i + 1, hh48, v48, G2, (A43, ((kidsT (listT d) (ts.take i) (cs.length + 1)).1 ++ [((cs.length + 1 + sub.length : Nat) : Int)]).length, c43), G43, sub ++ cs2) ⟨⟨by omega, hs1.trans hs48, hB2, ?_, ?_⟩, by simp only; omega⟩ (by repeat (first | exact trivial | refine ⟨rfl, ?_⟩)) rfl (by repeat (first | exact SubB.nil | exact Pick.here | apply Pick.there | apply SubB.emp | apply SubB.cons))
    · rw [hsn]; exact hB43
    · rw [hsn]; exact (hA1.mono fun _ _ r => NdR.sub hs48 r).app hA2
  · skip
    have hge : i = ts.length := by
      have := of_decide_eq_false hc30
      omega
    subst hge
    rw [List.take_length] at hBI hA1
    refine V_exit ?_
    refine VQ_then_exit ?_
    refine VQ_then_exit ?_
    refine VQ_block_exit ?_
    refine VQ_then ?_
    refine V_seq ?_
    refine V_region ?_
    refine VL_still rfl rfl rfl (S_move rfl) ?_
    refine VL_still rfl rfl rfl (S_assign rfl) ?_
    refine VL_nil ?_
    refine VQ_then ?_
    refine V_ret ?_
    refine VQ_keeps (blA := [Gk]) (by repeat (first | exact Split.nil | exact Pick.here | apply Pick.there | apply Split.cons)) (fun h2 sh2 kh2 => ?_)
    obtain ⟨q3, _⟩ := kh2
    refine VQ_fin1 (nb := [[(bo, .cells (List.toArray ((cs ++ ((A15, ks.length, c15), (A20, vs.length, c20), vk) :: sub).flatMap tri ++ sp)) 108 (0, 0))]]) (by first | exact .inl rfl | exact .inr rfl) rfl (RV_tmp rfl) ?sb ?po
    case po =>
      exact ⟨_, _, hB1, .cons ⟨sk.sub (hs1.trans sh2), sl.sub (hs1.trans sh2), (hBI.known q3)⟩ (hA1.mono fun _ _ r => NdR.sub sh2 r), rfl⟩
    case sb => exact (by repeat (first | exact SubB.nil | exact Pick.here | apply Pick.there | apply SubB.emp | apply SubB.cons))

theorem list_con : ∀ (d b : Nat) (t : Tr) (vo : Value) (cs : List (Sv × Sv × Sv)) (Go : Gr) (h : Hp), Rp h d b t → ShA d t → Kd d t → nk t ≤ 7 → BN vo cs Go → cs.length + (listT d t 0).length ≤ 100000 →
    Con Try.prog 42 [ptr b, vo] h [Go] (fun r h' nb => ∃ cs' G', BN r (cs ++ cs') G' ∧ All2 (NdR h') cs' (listT d t cs.length) ∧ nb = [G'])
  | 0, b, .leaf l, vo, cs, Go, h, hr, _, _, hn, hB, hc => by
    have hn : (keysP l).length ≤ 7 := hn
    have hkl := keysP_len l
    exact list_gen 0 b (keysP l) (l.map (fun (p : Pr) => p.2)) [] [] vo cs Go h hr .nil hB (by omega) (by rw [List.length_map]; omega) (by simp) hc (fun x hx => by simp at hx)
  | d + 1, b, .node ks ts, vo, cs, Go, h, ⟨bs, hN, hA⟩, hs, hk, hn, hB, hc => by
    have hn : ks.length ≤ 7 := hn
    have hbl := hA.len
    have hs1 : ts.length = ks.length + 1 := hs.1
    have hk : ∀ x ∈ ts, 3 ≤ nk x ∧ nk x ≤ 7 ∧ Kd d x := hk
    refine list_gen d b ks [] bs ts vo cs Go h hN hA hB (by omega) (by simp) (by omega) ?_ (fun x hx b vo cs Go h r B n => list_con d b x vo cs Go h r (hs.2 x hx) (hk x hx).2.2 (hk x hx).2.1 B n)
    rw [listT_s] at hc
    simp only [List.length_cons] at hc
    rw [kidsT_len2 ts 0 (0 + 1)]
    omega

set_option maxRecDepth 100000 in
theorem nodes_con (d b rb : Nat) (t : Tr) (l : List Pr) (h : Hp) (hb : h b = some (.cells (List.toArray [ptr rb, .int .i64 (l.length : Nat)]) 85 (0, 0))) (hR : Rp h d rb t) (hO : TOk d t l) (hn : l.length ≤ 90000) : Con Try.prog 19 [ptr b] h [] (fun r h' nb => ∃ cs G', BN r cs G' ∧ All2 (NdR h') cs (listT d t 0) ∧ nb = [G']) := by
  refine Con_of Try.func19 rfl Try.ntmps19 (Nat.le_of_ble_eq_true rfl) (fun w0 => ?_)
  refine V_seq ?_
  refine V_region ?_
  refine VL_still rfl rfl rfl (S_assign rfl) ?_
  refine VL_nil ?_
  refine VQ_then ?_
  refine V_seq ?_
  refine V_region ?_
  refine VL_still rfl rfl rfl (S_move rfl) ?_
  refine VL_still rfl rfl rfl (S_nil rfl) ?_
  refine VL_still rfl rfl rfl (S_field (k := 0) Try.underlying85 rfl rfl ti83 rfl rfl) ?_
  first | refine VL_still rfl rfl rfl (S_load Try.underlying83 rfl rfl (Cell.trk (by repeat (first | exact Has.here | apply Has.there)) rfl)) ?_ | refine VL_still rfl rfl rfl (S_load Try.underlying83 rfl rfl (Cell.known (by first | assumption | exact (by assumption : Sub _ _) _ _ (by assumption) | exact (Sub.trans (by assumption) (by assumption)) _ _ (by assumption)) rfl)) ?_
  refine VL_eff rfl (E_call rfl rfl rfl Try.call42 ((list_con d rb t (.slice none 0 0) [] [] h hR hO.in_.shA hO.kids hO.few (Buf.nil _ _) (by have := hO.count 0; simp; omega)).conv (blB := []) rfl (fun v h' nb q => ⟨nb, rfl, q⟩)) (by repeat (first | exact Split.nil | exact Pick.here | apply Pick.there | apply Split.cons))) ?_
  rintro _ hh7 _ ⟨v7, nb7, ⟨cs, G, hB, hA, rfl⟩, hs7, rfl, rfl⟩
  refine VL_still rfl rfl rfl (S_assign rfl) ?_
  refine VL_nil ?_
  refine VQ_then ?_
  refine V_ret ?_
  refine VQ_fin1 (nb := [G]) (by first | exact .inl rfl | exact .inr rfl) rfl (RV_tmp rfl) ?sb ?po
  case po =>
    exact ⟨cs, G, hB, hA, rfl⟩
  case sb => exact (by repeat (first | exact SubB.nil | exact Pick.here | apply Pick.there | apply SubB.emp | apply SubB.cons))

end Go.Proofs.Ytdglignjoojimaa
