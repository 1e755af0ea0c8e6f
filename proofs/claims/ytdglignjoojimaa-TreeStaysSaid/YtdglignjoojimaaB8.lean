/- What mending does. No conditions. -/
import Derived.Test.YtdglignjoojimaaB7
import Derived.Test.YtdglignjoojimaaT3
set_option linter.unusedVariables false
set_option linter.unusedSimpArgs false
namespace Go.Proofs.Ytdglignjoojimaa

/-- The node itself, of a tree. -/
theorem Rp.node {h : Hp} : ∀ {d b : Nat} {t : Tr}, Rp h d b t → Sh d t → ∃ vs bs, NodeAt h b (keysT t) vs bs ∧ ((d = 0 ∧ bs = [] ∧ vs.length = nk t) ∨ (d ≠ 0 ∧ vs = [] ∧ bs.length = nk t + 1))
  | 0, b, .leaf l, r, _ => ⟨_, _, r, .inl ⟨rfl, rfl, by simp [nk, keysT, keysP]⟩⟩
  | d + 1, b, .node ks ts, ⟨bs, n, a⟩, hs => ⟨_, _, n, .inr ⟨by omega, rfl, by rw [a.len]; exact hs⟩⟩
/-- Two trees of one depth, as a tree put together of their parts. -/
theorem Rp.glue {h : Hp} : ∀ {d b1 b2 : Nat} {t1 t2 : Tr}, Rp h d b1 t1 → Rp h d b2 t2 → Sh d t1 → Sh d t2 → ∃ v1 v2 c1 c2, NodeAt h b1 (keysT t1) v1 c1 ∧ NodeAt h b2 (keysT t2) v2 c2 ∧
    (c1 = [] ↔ d = 0) ∧ v1.length ≤ nk t1 ∧ v2.length ≤ nk t2 ∧ c1.length ≤ nk t1 + 1 ∧ c2.length ≤ nk t2 + 1 ∧
    ∀ (s : Int) (h' : Hp) (b' : Nat), Sub h h' → NodeAt h' b' (if d = 0 then keysT t1 ++ keysT t2 else keysT t1 ++ [s] ++ keysT t2) (v1 ++ v2) (c1 ++ c2) → Rp h' d b' (bothT t1 s t2) ∧ keysT (bothT t1 s t2) = (if d = 0 then keysT t1 ++ keysT t2 else keysT t1 ++ [s] ++ keysT t2)
  | 0, b1, b2, .leaf l1, .leaf l2, r1, r2, _, _ => by
    refine ⟨_, _, _, _, r1, r2, by simp, by simp [nk, keysT, keysP], by simp [nk, keysT, keysP], by simp, by simp, fun s h' b' hs hn => ?_⟩
    have e : keysP (l1 ++ l2) = keysP l1 ++ keysP l2 := by simp [keysP]
    refine ⟨?_, e⟩
    show NodeAt h' b' (keysP (l1 ++ l2)) ((l1 ++ l2).map (fun p => p.2)) []
    rw [e, List.map_append]
    exact hn
  | d + 1, b1, b2, .node k1 t1, .node k2 t2, ⟨c1, n1, a1⟩, ⟨c2, n2, a2⟩, s1, s2 => by
    have s1 : t1.length = k1.length + 1 := s1
    have s2 : t2.length = k2.length + 1 := s2
    have e1 := a1.len
    have e2 := a2.len
    refine ⟨_, _, _, _, n1, n2, ⟨fun e => by subst e; simp at e1; omega, fun e => by omega⟩, by simp, by simp, by show c1.length ≤ k1.length + 1; omega, by show c2.length ≤ k2.length + 1; omega, fun s h' b' hs hn => ?_⟩
    rw [if_neg (by omega)] at hn
    rw [if_neg (by omega)]
    have e : k1 ++ s :: k2 = k1 ++ [s] ++ k2 := by simp
    refine ⟨⟨c1 ++ c2, ?_, (a1.mono fun _ _ r => Rp.sub hs r).app (a2.mono fun _ _ r => Rp.sub hs r)⟩, e⟩
    show NodeAt h' b' (k1 ++ s :: k2) [] (c1 ++ c2)
    rw [e]; exact hn
theorem at_enc {α : Type} {enc : α → List Value} {v : α → Value} (hv : ∀ a, enc a = [v a]) : ∀ {l : List α} {i : Nat} {a : α} {sp : List Value}, l[i]? = some a → (l.flatMap enc ++ sp)[0 + i * 1]? = some (v a)
  | x :: l, 0, a, sp, h => by simp only [List.getElem?_cons_zero, Option.some.injEq] at h; subst h; simp [hv]
  | x :: l, i + 1, a, sp, h => by
    have := at_enc (sp := sp) hv (l := l) (i := i) (a := a) (by simpa using h)
    rw [Nat.zero_add, Nat.mul_one] at this ⊢
    simp only [List.flatMap_cons, hv, List.cons_append, List.nil_append, List.getElem?_cons_succ]; exact this
theorem kat {l : List Int} {i : Nat} {a : Int} {sp : List Value} (h : l[i]? = some a) : (l.flatMap kc ++ sp)[0 + i * 1]? = some (.int .u64 a) := at_enc (v := fun k => .int .u64 k) (fun _ => rfl) h
theorem pat {l : List Nat} {i : Nat} {a : Nat} {sp : List Value} (h : l[i]? = some a) : (l.flatMap pc ++ sp)[0 + i * 1]? = some (ptr a) := at_enc (v := fun b => ptr b) (fun _ => rfl) h
theorem xcs_cat {va vb : List Ext} {v : Value} {G : Gr} {A B : Value} (h : Buf 34 2 v (tot [(A, va.length, xcs va), (B, vb.length, xcs vb)]) (catL [(A, va.length, xcs va), (B, vb.length, xcs vb)]) G) : BV v (va ++ vb) G := by
  have e : tot [(A, va.length, xcs va), (B, vb.length, xcs vb)] = va.length + vb.length := by simp [tot]
  have e2 : catL [(A, va.length, xcs va), (B, vb.length, xcs vb)] = xcs va ++ xcs vb := by simp [catL]
  rw [e, e2] at h
  exact h.cat
theorem pcs_cat {va vb : List Nat} {v : Value} {G : Gr} {A B : Value} (h : Buf 83 1 v (tot [(A, va.length, pcs va), (B, vb.length, pcs vb)]) (catL [(A, va.length, pcs va), (B, vb.length, pcs vb)]) G) : BC v (va ++ vb) G := by
  have e : tot [(A, va.length, pcs va), (B, vb.length, pcs vb)] = va.length + vb.length := by simp [tot]
  have e2 : catL [(A, va.length, pcs va), (B, vb.length, pcs vb)] = pcs va ++ pcs vb := by simp [catL]
  rw [e, e2] at h
  exact h.cat

set_option maxRecDepth 100000 in
theorem mend_con (d bn i ba bb : Nat) (ks : List Int) (ts : List Tr) (bs : List Nat) (ta tb : Tr) (s : Int) (kv vv cv : Value) (Gk Gc : Gr) (h : Hp) (hBk : BK kv ks Gk) (hBc : BC cv bs Gc) (hA : All2 (Rp h d) bs ts) (hS : ∀ x ∈ ts, Sh d x) (hi : i + 1 < bs.length) (hik : i < ks.length) (hn : bs.length ≤ 100) (hnk : ks.length ≤ 100)
    (ht0 : ts[i]? = some ta) (ht1 : ts[i + 1]? = some tb) (hb0 : bs[i]? = some ba) (hb1 : bs[i + 1]? = some bb) (hks : ks[i]? = some s) (hra : Rp h d ba ta) (hrb : Rp h d bb tb) (hna : nk ta ≤ 100) (hnb : nk tb ≤ 100) : Con Try.prog 67 [ptr bn, .int .i64 (i : Nat)] h [GN bn kv vv cv, Gk, Gc] (fun r h' nb => r = .tuple #[] ∧ ∃ kv' cv' Gk' Gc' bs', BK kv' (mendT ks ts i).1 Gk' ∧ BC cv' bs' Gc' ∧ All2 (Rp h' d) bs' (mendT ks ts i).2 ∧ nb = [GN bn kv' vv cv', Gk', Gc']) := by
  obtain ⟨bk, ck, spk, rfl, rfl, l1, l2, hl1, hl2⟩ := Buf.blk hBk (by omega)
  obtain ⟨bc, cc, spc, rfl, rfl, m1, m2, hm1, hm2⟩ := Buf.blk hBc (by omega)
  have hlt0 : i < bs.length := by omega
  have hlt1 : i + 1 < bs.length := by omega
  obtain ⟨v1, v2, c1, c2, hN1, hN2, hc0, w1, w2, w3, w4, hglue⟩ := Rp.glue hra hrb (hS ta (List.mem_of_getElem? ht0)) (hS tb (List.mem_of_getElem? ht1))
  have hN1' := hN1
  obtain ⟨kva, vva, cva, ha, hka, hva, hca⟩ := hN1
  obtain ⟨kvb, vvb, cvb, hb, hkb, hvb, hcb⟩ := hN2
  obtain ⟨A1, cp1, rfl, _, _⟩ := hka.form
  obtain ⟨A2, cp2, rfl, _, _⟩ := hva.form
  obtain ⟨A3, cp3, rfl, _, _⟩ := hca.form
  obtain ⟨A4, cp4, rfl, _, _⟩ := hkb.form
  obtain ⟨A5, cp5, rfl, _, _⟩ := hvb.form
  obtain ⟨A6, cp6, rfl, _, _⟩ := hcb.form
  have n1 : (keysT ta).length = nk ta := rfl
  have n2 : (keysT tb).length = nk tb := rfl
  refine Con_of Try.func67 rfl Try.ntmps67 (Nat.le_of_ble_eq_true rfl) (fun w0 => ?_)
  refine V_seq ?_
  refine V_draw _ _ 0 Try.mixed (by kernel_rfl) (Sub.refl _) (SubB.refl _) ?_
  refine VD_still rfl rfl rfl rfl (S_move rfl) ?_
  refine VD_still rfl rfl rfl rfl (S_nil rfl) ?_
  refine VD_still rfl rfl rfl rfl (S_field (k := 2) Try.underlying92 rfl rfl ti90 rfl rfl) ?_
  first | refine VD_still rfl rfl rfl rfl (S_load Try.underlying90 rfl rfl (Cell.trk (by repeat (first | exact Has.here | apply Has.there)) rfl)) ?_ | refine VD_still rfl rfl rfl rfl (S_load Try.underlying90 rfl rfl (Cell.known (by first | assumption | exact (by assumption : Sub _ _) _ _ (by assumption) | exact (Sub.trans (by assumption) (by assumption)) _ _ (by assumption)) rfl)) ?_
  refine VD_still rfl rfl rfl rfl (S_move rfl) ?_
  refine VD_still rfl rfl rfl rfl (X_at i Try.underlying90 tx83 rfl rfl hlt0) ?_
  refine VD_still rfl rfl rfl rfl (S_load Try.underlying83 rfl rfl (Cell.trk (by repeat (first | exact Has.here | apply Has.there)) (pat hb0))) ?_
  refine VD_still rfl rfl rfl rfl (S_move rfl) ?_
  refine VD_still rfl rfl rfl rfl (S_nil rfl) ?_
  refine VD_still rfl rfl rfl rfl (S_field (k := 2) Try.underlying92 rfl rfl ti90 rfl rfl) ?_
  first | refine VD_still rfl rfl rfl rfl (S_load Try.underlying90 rfl rfl (Cell.trk (by repeat (first | exact Has.here | apply Has.there)) rfl)) ?_ | refine VD_still rfl rfl rfl rfl (S_load Try.underlying90 rfl rfl (Cell.known (by first | assumption | exact (by assumption : Sub _ _) _ _ (by assumption) | exact (Sub.trans (by assumption) (by assumption)) _ _ (by assumption)) rfl)) ?_
  refine VD_still rfl rfl rfl rfl (S_move rfl) ?_
  refine VD_still rfl rfl rfl rfl (S_addn i 1 rfl rfl (by omega)) ?_
  refine VD_still rfl rfl rfl rfl (X_at (i + 1) Try.underlying90 tx83 rfl rfl hlt1) ?_
  refine VD_still rfl rfl rfl rfl (S_load Try.underlying83 rfl rfl (Cell.trk (by repeat (first | exact Has.here | apply Has.there)) (pat hb1))) ?_
  refine VD_still rfl rfl rfl rfl (S_assign rfl) ?_
  refine VD_still rfl rfl rfl rfl (S_assign rfl) ?_
  refine VD_nil ?_
  refine VQ_then ?_
  refine V_seq ?_
  refine V_region ?_
  refine VL_still rfl rfl rfl (S_struct Try.underlying92 to92 tz92 rfl (by repeat (first | exact BuildR.nil | exact PutR.nil | exact SetL.here | apply SetL.there | apply PutR.cons | apply BuildR.cons rfl (by first | exact ti88 | exact ti89 | exact ti90) rfl rfl rfl))) ?_
  refine VL_eff rfl (E_box rfl rfl rfl) ?_
  rintro _ _ _ ⟨b23, hb23, rfl, rfl, rfl⟩
  refine VL_still rfl rfl rfl (S_assign rfl) ?_
  refine VL_nil ?_
  refine VQ_then ?_
  refine V_seq ?_
  refine V_region ?_
  refine VL_still rfl rfl rfl (S_move rfl) ?_
  refine VL_still rfl rfl rfl (S_move rfl) ?_
  refine VL_still rfl rfl rfl (S_nil rfl) ?_
  refine VL_still rfl rfl rfl (S_field (k := 0) Try.underlying92 rfl rfl ti88 rfl rfl) ?_
  first | refine VL_still rfl rfl rfl (S_load Try.underlying88 rfl rfl (Cell.trk (by repeat (first | exact Has.here | apply Has.there)) rfl)) ?_ | refine VL_still rfl rfl rfl (S_load Try.underlying88 rfl rfl (Cell.known (by first | assumption | exact (by assumption : Sub _ _) _ _ (by assumption) | exact (Sub.trans (by assumption) (by assumption)) _ _ (by assumption)) rfl)) ?_
  refine VL_eff rfl (E_call rfl rfl rfl Try.call58 (k_clone0 _ (keysT ta).length (kcs (keysT ta)) h hka (kcE.flat_one _) (by omega)) (by repeat (first | exact Split.nil | exact Pick.here | apply Pick.there | apply Split.cons))) ?_
  rintro _ hh29 _ ⟨v29, nb29, ⟨rfl, G29, hB29, rfl⟩, hs29, rfl, rfl⟩
  obtain ⟨A29, c29, rfl, _, _⟩ := Buf.form hB29
  refine VL_still rfl rfl rfl (S_nil rfl) ?_
  refine VL_still rfl rfl rfl (S_field (k := 0) Try.underlying92 rfl rfl ti88 rfl rfl) ?_
  refine VL_eff rfl (E_store ti88 rfl rfl rfl rfl rfl (by repeat (first | exact Has.here | apply Has.there)) (by repeat (first | exact PutR.nil | exact SetL.here | apply SetL.there | apply PutR.cons)) (by repeat (first | exact UpdG.here | apply UpdG.there))) ?_
  rintro _ _ _ ⟨rfl, rfl, rfl⟩
  refine VL_nil ?_
  refine VQ_then ?_
  refine V_seq_mid (ι := Value × Gr) (fun x => BK x.1 (if d = 0 then keysT ta else keysT ta ++ [s]) x.2) (fun x => [(0, ptr bn), (1, .int .i64 (i : Nat)), (4, ptr ba), (5, ptr bb), (6, ptr b23)]) (fun _ => h) (fun x => [[(b23, .cells (List.toArray [x.1, (.slice none 0 0), (.slice none 0 0)]) 92 (0, 0))], GN bn (.slice (some ⟨bk, 0, none⟩) ks.length ck) vv (.slice (some ⟨bc, 0, none⟩) bs.length cc), [(bk, .cells (List.toArray (ks.flatMap kc ++ spk)) 23 (0, 0))], [(bc, .cells (List.toArray (bs.flatMap pc ++ spc)) 83 (0, 0))], x.2]) ?_ (fun ⟨v5, G5⟩ hB5 => ?_)
  · skip
    refine V_seq ?_
    refine V_region ?_
    refine VL_still rfl rfl rfl (S_move rfl) ?_
    refine VL_eff rfl (E_call rfl rfl rfl Try.call39 (leaf_con ba _ _ _ h hN1') (by repeat (first | exact Split.nil | exact Pick.here | apply Pick.there | apply Split.cons))) ?_
    rintro _ hh33 _ ⟨v33, nb33, ⟨rfl, rfl, rfl⟩, hs33, rfl, rfl⟩
    refine VL_still rfl rfl rfl (S_not rfl) ?_
    refine VL_nil ?_
    refine VQ_then ?_
    refine V_cond rfl (fun hc34 => ?_) (fun hc34 => ?_)
    · skip
      have hd : d ≠ 0 := fun e => by
        rw [hc0.2 e] at hc34
        simp at hc34
      refine V_drawL _ [[(b23, .cells (List.toArray [(.slice A29 (keysT ta).length c29), (.slice none 0 0), (.slice none 0 0)]) 92 (0, 0))], GN bn (.slice (some ⟨bk, 0, none⟩) ks.length ck) vv (.slice (some ⟨bc, 0, none⟩) bs.length cc), [(bk, .cells (List.toArray (ks.flatMap kc ++ spk)) 23 (0, 0))]] 77824 Try.mixed (by kernel_rfl) (by kernel_rfl) (Sub.refl _) (by repeat (first | exact SubB.nil | exact Pick.here | apply Pick.there | apply SubB.emp | apply SubB.cons)) ?_
      refine VD_still rfl rfl rfl rfl (S_move rfl) ?_
      refine VD_still rfl rfl rfl rfl (S_move rfl) ?_
      refine VD_still rfl rfl rfl rfl (S_nil rfl) ?_
      refine VD_still rfl rfl rfl rfl (S_field (k := 0) Try.underlying92 rfl rfl ti88 rfl rfl) ?_
      first | refine VD_still rfl rfl rfl rfl (S_load Try.underlying88 rfl rfl (Cell.trk (by repeat (first | exact Has.here | apply Has.there)) rfl)) ?_ | refine VD_still rfl rfl rfl rfl (S_load Try.underlying88 rfl rfl (Cell.known (by first | assumption | exact (by assumption : Sub _ _) _ _ (by assumption) | exact (Sub.trans (by assumption) (by assumption)) _ _ (by assumption)) rfl)) ?_
      refine VD_still rfl rfl rfl rfl (S_move rfl) ?_
      refine VD_still rfl rfl rfl rfl (S_nil rfl) ?_
      refine VD_still rfl rfl rfl rfl (S_field (k := 0) Try.underlying92 rfl rfl ti88 rfl rfl) ?_
      first | refine VD_still rfl rfl rfl rfl (S_load Try.underlying88 rfl rfl (Cell.trk (by repeat (first | exact Has.here | apply Has.there)) rfl)) ?_ | refine VD_still rfl rfl rfl rfl (S_load Try.underlying88 rfl rfl (Cell.known (by first | assumption | exact (by assumption : Sub _ _) _ _ (by assumption) | exact (Sub.trans (by assumption) (by assumption)) _ _ (by assumption)) rfl)) ?_
      refine VD_still rfl rfl rfl rfl (S_move rfl) ?_
      refine VD_still rfl rfl rfl rfl (X_at i Try.underlying88 tx23 rfl rfl (by omega)) ?_
      refine VD_still rfl rfl rfl rfl (S_load Try.underlying23 rfl rfl (Cell.trk (by repeat (first | exact Has.here | apply Has.there)) (kat hks))) ?_
      refine VD_eff rfl rfl (E_bs1 rfl Try.underlying88 ti23 rfl rfl rfl rfl rfl rfl) ?_
      rintro _ _ _ ⟨b47, hb47, rfl, rfl, rfl⟩
      refine ⟨⟨(by first | exact Sub.refl _ | assumption | exact Sub.trans (by assumption) (by assumption)), (by repeat (first | exact SubB.nil | exact Pick.here | apply Pick.there | apply SubB.emp | apply SubB.cons))⟩, ?_⟩
      refine VD_eff rfl rfl (X_append rfl Try.underlying88 Try.underlying88 rfl tx23 rfl rfl rfl rfl hB29 (by repeat (first | exact Pick.here | apply Pick.there)) (Buf.reads (G := [(b47, .cells (List.toArray [.int .u64 s]) 23 (0, 0))]) (Buf.lit (n := 1) (by rfl) (by omega)) (fun q hq => by simp at hq ⊢; try simp [hq])) rfl (by omega)) ?_
      rintro _ _ _ ⟨v48, G48, hB48, rfl, rfl, rfl⟩
      replace hB48 := Buf.snoc (enc := kc) hB48
      obtain ⟨A48, c48, rfl, _, _⟩ := Buf.form hB48
      refine ⟨⟨(by first | exact Sub.refl _ | assumption | exact Sub.trans (by assumption) (by assumption)), (by repeat (first | exact SubB.nil | exact Pick.here | apply Pick.there | apply SubB.emp | apply SubB.cons))⟩, ?_⟩
      refine VD_still rfl rfl rfl rfl (S_nil rfl) ?_
      refine VD_still rfl rfl rfl rfl (S_field (k := 0) Try.underlying92 rfl rfl ti88 rfl rfl) ?_
      refine VD_last rfl rfl (E_store ti88 rfl rfl rfl rfl rfl (by repeat (first | exact Has.here | apply Has.there)) (by repeat (first | exact PutR.nil | exact SetL.here | apply SetL.there | apply PutR.cons)) (by repeat (first | exact UpdG.here | apply UpdG.there))) ?_
      rintro _ _ _ ⟨rfl, rfl, rfl⟩
      refine VQ_mid (_, G48) ?_ (by repeat (first | exact trivial | refine ⟨rfl, ?_⟩)) rfl (by repeat (first | exact SubB.nil | exact Pick.here | apply Pick.there | apply SubB.emp | apply SubB.cons))
      show BK _ (if d = 0 then keysT ta else keysT ta ++ [s]) _
      rw [if_neg hd]
      exact hB48
    · skip
      have hd : d = 0 := by
        by_cases e : c1 = []
        · exact hc0.1 e
        · simp [e] at hc34
      refine V_skip ?_
      refine VQ_mid (_, G29) ?_ (by repeat (first | exact trivial | refine ⟨rfl, ?_⟩)) rfl (by repeat (first | exact SubB.nil | exact Pick.here | apply Pick.there | apply SubB.emp | apply SubB.cons))
      show BK _ (if d = 0 then keysT ta else keysT ta ++ [s]) _
      rw [if_pos hd]
      exact hB29
  · skip
    simp only at hB5 ⊢
    obtain ⟨A5', c5', rfl, _, _⟩ := Buf.form hB5
    have hK5 : (if d = 0 then keysT ta else keysT ta ++ [s]).length ≤ nk ta + 1 := by split <;> simp [nk]
    refine V_seq ?_
    refine V_drawL _ [[(b23, .cells (List.toArray [(.slice A5' (if d = 0 then keysT ta else keysT ta ++ [s]).length c5'), (.slice none 0 0), (.slice none 0 0)]) 92 (0, 0))]] 4608 Try.mixed (by kernel_rfl) (by kernel_rfl) (Sub.refl _) (by repeat (first | exact SubB.nil | exact Pick.here | apply Pick.there | apply SubB.emp | apply SubB.cons)) ?_
    refine VD_still rfl rfl rfl rfl (S_move rfl) ?_
    refine VD_still rfl rfl rfl rfl (S_move rfl) ?_
    refine VD_still rfl rfl rfl rfl (S_nil rfl) ?_
    refine VD_still rfl rfl rfl rfl (S_field (k := 0) Try.underlying92 rfl rfl ti88 rfl rfl) ?_
    first | refine VD_still rfl rfl rfl rfl (S_load Try.underlying88 rfl rfl (Cell.trk (by repeat (first | exact Has.here | apply Has.there)) rfl)) ?_ | refine VD_still rfl rfl rfl rfl (S_load Try.underlying88 rfl rfl (Cell.known (by first | assumption | exact (by assumption : Sub _ _) _ _ (by assumption) | exact (Sub.trans (by assumption) (by assumption)) _ _ (by assumption)) rfl)) ?_
    refine VD_still rfl rfl rfl rfl (S_move rfl) ?_
    refine VD_still rfl rfl rfl rfl (S_nil rfl) ?_
    refine VD_still rfl rfl rfl rfl (S_field (k := 0) Try.underlying92 rfl rfl ti88 rfl rfl) ?_
    first | refine VD_still rfl rfl rfl rfl (S_load Try.underlying88 rfl rfl (Cell.trk (by repeat (first | exact Has.here | apply Has.there)) rfl)) ?_ | refine VD_still rfl rfl rfl rfl (S_load Try.underlying88 rfl rfl (Cell.known (by first | assumption | exact (by assumption : Sub _ _) _ _ (by assumption) | exact (Sub.trans (by assumption) (by assumption)) _ _ (by assumption)) rfl)) ?_
    refine VD_eff rfl rfl (X_append rfl Try.underlying88 Try.underlying88 rfl tx23 rfl rfl rfl rfl hB5 (by repeat (first | exact Pick.here | apply Pick.there)) (hkb.sub (Sub.refl _)) (kcE.flat_one _) (by omega)) ?_
    rintro _ _ _ ⟨v60, G60, hB60, rfl, rfl, rfl⟩
    replace hB60 := Buf.cat (enc := kc) hB60
    obtain ⟨A60, c60, rfl, _, _⟩ := Buf.form hB60
    refine ⟨⟨(by first | exact Sub.refl _ | assumption | exact Sub.trans (by assumption) (by assumption)), (by repeat (first | exact SubB.nil | exact Pick.here | apply Pick.there | apply SubB.emp | apply SubB.cons))⟩, ?_⟩
    refine VD_still rfl rfl rfl rfl (S_nil rfl) ?_
    refine VD_still rfl rfl rfl rfl (S_field (k := 0) Try.underlying92 rfl rfl ti88 rfl rfl) ?_
    refine VD_last rfl rfl (E_store ti88 rfl rfl rfl rfl rfl (by repeat (first | exact Has.here | apply Has.there)) (by repeat (first | exact PutR.nil | exact SetL.here | apply SetL.there | apply PutR.cons)) (by repeat (first | exact UpdG.here | apply UpdG.there))) ?_
    rintro _ _ _ ⟨rfl, rfl, rfl⟩
    refine VQ_then ?_
    refine V_seq ?_
    refine V_drawL _ [] 9728 Try.mixed (by kernel_rfl) (by kernel_rfl) (Sub.refl _) SubB.nil ?_
    refine VD_still rfl rfl rfl rfl (S_move rfl) ?_
    refine VD_still rfl rfl rfl rfl (S_move rfl) ?_
    refine VD_still rfl rfl rfl rfl (S_nil rfl) ?_
    refine VD_still rfl rfl rfl rfl (S_field (k := 1) Try.underlying92 rfl rfl ti89 rfl rfl) ?_
    first | refine VD_still rfl rfl rfl rfl (S_load Try.underlying89 rfl rfl (Cell.trk (by repeat (first | exact Has.here | apply Has.there)) rfl)) ?_ | refine VD_still rfl rfl rfl rfl (S_load Try.underlying89 rfl rfl (Cell.known (by first | assumption | exact (by assumption : Sub _ _) _ _ (by assumption) | exact (Sub.trans (by assumption) (by assumption)) _ _ (by assumption)) rfl)) ?_
    refine VD_still rfl rfl rfl rfl (S_move rfl) ?_
    refine VD_still rfl rfl rfl rfl (S_nil rfl) ?_
    refine VD_still rfl rfl rfl rfl (S_field (k := 1) Try.underlying92 rfl rfl ti89 rfl rfl) ?_
    first | refine VD_still rfl rfl rfl rfl (S_load Try.underlying89 rfl rfl (Cell.trk (by repeat (first | exact Has.here | apply Has.there)) rfl)) ?_ | refine VD_still rfl rfl rfl rfl (S_load Try.underlying89 rfl rfl (Cell.known (by first | assumption | exact (by assumption : Sub _ _) _ _ (by assumption) | exact (Sub.trans (by assumption) (by assumption)) _ _ (by assumption)) rfl)) ?_
    refine VD_eff rfl rfl (X_bs2 rfl Try.underlying189 tx89 rfl rfl rfl rfl rfl) ?_
    rintro _ _ _ ⟨b72, hb72, rfl, rfl, rfl⟩
    refine ⟨⟨(by first | exact Sub.refl _ | assumption | exact Sub.trans (by assumption) (by assumption)), (by repeat (first | exact SubB.nil | exact Pick.here | apply Pick.there | apply SubB.emp | apply SubB.cons))⟩, ?_⟩
    refine VD_eff rfl rfl (E_call rfl rfl rfl Try.call87 (x_concat b72 [(.slice A2 v1.length cp2, v1.length, xcs v1), (.slice A5 v2.length cp5, v2.length, xcs v2)] h (by simp; exact ⟨hva, hvb⟩) (by simp; exact ⟨xcE.flat_one _, xcE.flat_one _⟩) (by simp [tot]; omega) (by simp)) (by repeat (first | exact Split.nil | exact Pick.here | apply Pick.there | apply Split.cons))) ?_
    rintro _ hh73 _ ⟨v73, nb73, ⟨rfl, G73, hB73, rfl⟩, hs73, rfl, rfl⟩
    replace hB73 := xcs_cat hB73
    obtain ⟨A73, c73, rfl, _, _⟩ := Buf.form hB73
    refine ⟨⟨(by first | exact Sub.refl _ | assumption | exact Sub.trans (by assumption) (by assumption)), (by repeat (first | exact SubB.nil | exact Pick.here | apply Pick.there | apply SubB.emp | apply SubB.cons))⟩, ?_⟩
    refine VD_still rfl rfl rfl rfl (S_nil rfl) ?_
    refine VD_still rfl rfl rfl rfl (S_field (k := 1) Try.underlying92 rfl rfl ti89 rfl rfl) ?_
    refine VD_last rfl rfl (E_store ti89 rfl rfl rfl rfl rfl (by repeat (first | exact Has.here | apply Has.there)) (by repeat (first | exact PutR.nil | exact SetL.here | apply SetL.there | apply PutR.cons)) (by repeat (first | exact UpdG.here | apply UpdG.there))) ?_
    rintro _ _ _ ⟨rfl, rfl, rfl⟩
    refine VQ_then ?_
    refine V_seq ?_
    refine V_drawL _ [] 9728 Try.mixed (by kernel_rfl) (by kernel_rfl) (Sub.refl _) SubB.nil ?_
    refine VD_still rfl rfl rfl rfl (S_move rfl) ?_
    refine VD_still rfl rfl rfl rfl (S_move rfl) ?_
    refine VD_still rfl rfl rfl rfl (S_nil rfl) ?_
    refine VD_still rfl rfl rfl rfl (S_field (k := 2) Try.underlying92 rfl rfl ti90 rfl rfl) ?_
    first | refine VD_still rfl rfl rfl rfl (S_load Try.underlying90 rfl rfl (Cell.trk (by repeat (first | exact Has.here | apply Has.there)) rfl)) ?_ | refine VD_still rfl rfl rfl rfl (S_load Try.underlying90 rfl rfl (Cell.known (by first | assumption | exact (by assumption : Sub _ _) _ _ (by assumption) | exact (Sub.trans (by assumption) (by assumption)) _ _ (by assumption)) rfl)) ?_
    refine VD_still rfl rfl rfl rfl (S_move rfl) ?_
    refine VD_still rfl rfl rfl rfl (S_nil rfl) ?_
    refine VD_still rfl rfl rfl rfl (S_field (k := 2) Try.underlying92 rfl rfl ti90 rfl rfl) ?_
    first | refine VD_still rfl rfl rfl rfl (S_load Try.underlying90 rfl rfl (Cell.trk (by repeat (first | exact Has.here | apply Has.there)) rfl)) ?_ | refine VD_still rfl rfl rfl rfl (S_load Try.underlying90 rfl rfl (Cell.known (by first | assumption | exact (by assumption : Sub _ _) _ _ (by assumption) | exact (Sub.trans (by assumption) (by assumption)) _ _ (by assumption)) rfl)) ?_
    refine VD_eff rfl rfl (X_bs2 rfl Try.underlying191 tx90 rfl rfl rfl rfl rfl) ?_
    rintro _ _ _ ⟨b85, hb85, rfl, rfl, rfl⟩
    refine ⟨⟨(by first | exact Sub.refl _ | assumption | exact Sub.trans (by assumption) (by assumption)), (by repeat (first | exact SubB.nil | exact Pick.here | apply Pick.there | apply SubB.emp | apply SubB.cons))⟩, ?_⟩
    refine VD_eff rfl rfl (E_call rfl rfl rfl Try.call88 (n_concat b85 [(.slice A3 c1.length cp3, c1.length, pcs c1), (.slice A6 c2.length cp6, c2.length, pcs c2)] h (by simp; exact ⟨hca, hcb⟩) (by simp; exact ⟨pcE.flat_one _, pcE.flat_one _⟩) (by simp [tot]; omega) (by simp)) (by repeat (first | exact Split.nil | exact Pick.here | apply Pick.there | apply Split.cons))) ?_
    rintro _ hh86 _ ⟨v86, nb86, ⟨rfl, G86, hB86, rfl⟩, hs86, rfl, rfl⟩
    replace hB86 := pcs_cat hB86
    obtain ⟨A86, c86, rfl, _, _⟩ := Buf.form hB86
    have hKb : (if d = 0 then keysT ta else keysT ta ++ [s]) ++ keysT tb = (if d = 0 then keysT ta ++ keysT tb else keysT ta ++ [s] ++ keysT tb) := by split <;> rfl
    rw [hKb] at hB60 ⊢
    refine ⟨⟨(by first | exact Sub.refl _ | assumption | exact Sub.trans (by assumption) (by assumption)), (by repeat (first | exact SubB.nil | exact Pick.here | apply Pick.there | apply SubB.emp | apply SubB.cons))⟩, ?_⟩
    refine VD_still rfl rfl rfl rfl (S_nil rfl) ?_
    refine VD_still rfl rfl rfl rfl (S_field (k := 2) Try.underlying92 rfl rfl ti90 rfl rfl) ?_
    refine VD_last rfl rfl (E_store ti90 rfl rfl rfl rfl rfl (by repeat (first | exact Has.here | apply Has.there)) (by repeat (first | exact PutR.nil | exact SetL.here | apply SetL.there | apply PutR.cons)) (by repeat (first | exact UpdG.here | apply UpdG.there))) ?_
    rintro _ _ _ ⟨rfl, rfl, rfl⟩
    refine VQ_then ?_
    refine V_seq ?_
    refine V_seq ?_
    refine V_region ?_
    refine VL_still rfl rfl rfl (S_move rfl) ?_
    refine VL_still rfl rfl rfl (S_nil rfl) ?_
    refine VL_still rfl rfl rfl (S_field (k := 0) Try.underlying92 rfl rfl ti88 rfl rfl) ?_
    first | refine VL_still rfl rfl rfl (S_load Try.underlying88 rfl rfl (Cell.trk (by repeat (first | exact Has.here | apply Has.there)) rfl)) ?_ | refine VL_still rfl rfl rfl (S_load Try.underlying88 rfl rfl (Cell.known (by first | assumption | exact (by assumption : Sub _ _) _ _ (by assumption) | exact (Sub.trans (by assumption) (by assumption)) _ _ (by assumption)) rfl)) ?_
    refine VL_still rfl rfl rfl (S_len Try.underlying88 rfl) ?_
    refine VL_still rfl rfl rfl (S_leq rfl rfl) ?_
    refine VL_nil ?_
    refine VQ_then ?_
    refine V_cond rfl (fun hc94 => ?_) (fun hc94 => ?_)
    · skip
      have h7 : (if d = 0 then keysT ta ++ keysT tb else keysT ta ++ [s] ++ keysT tb).length ≤ 7 := by
        have := of_decide_eq_true hc94
        omega
      refine V_seq ?_
      refine V_drawK _ [GN bn (.slice (some ⟨bk, 0, none⟩) ks.length ck) vv (.slice (some ⟨bc, 0, none⟩) bs.length cc)] 19137024 8224 21 Try.mixed (by kernel_rfl) (Sub.refl _) (by repeat (first | exact SubB.nil | exact Pick.here | apply Pick.there | apply SubB.emp | apply SubB.cons)) ?_
      refine VK_pure rfl rfl rfl rfl rfl (S_move rfl) ?_
      refine VK_pure rfl rfl rfl rfl rfl (S_move rfl) ?_
      refine VK_pure rfl rfl rfl rfl rfl (S_move rfl) ?_
      refine VK_pure rfl rfl rfl rfl rfl (S_nil rfl) ?_
      refine VK_pure rfl rfl rfl rfl rfl (S_field (k := 0) Try.underlying92 rfl rfl ti88 rfl rfl) ?_
      first | refine VK_still rfl rfl rfl rfl rfl rfl (S_load Try.underlying88 rfl rfl (Cell.trk (by repeat (first | exact Has.here | apply Has.there)) rfl)) ?_ | refine VK_still rfl rfl rfl rfl rfl rfl (S_load Try.underlying88 rfl rfl (Cell.known (by first | assumption | exact (by assumption : Sub _ _) _ _ (by assumption) | exact (Sub.trans (by assumption) (by assumption)) _ _ (by assumption)) rfl)) ?_
      refine VK_pure rfl rfl rfl rfl rfl (S_move rfl) ?_
      refine VK_pure rfl rfl rfl rfl rfl (S_move rfl) ?_
      refine VK_pure rfl rfl rfl rfl rfl (S_addn i 1 rfl rfl (by omega)) ?_
      refine VK_eff rfl rfl rfl (E_call rfl rfl rfl Try.call65 (k_delete _ ks.length i (i + 1) (kcs ks) h _ hBk (kcE.flat_one _) (by omega) (by omega) (by omega)) (by repeat (first | exact Split.nil | exact Pick.here | apply Pick.there | apply Split.cons))) ?_
      rintro _ hh104 _ ⟨v104, nb104, ⟨rfl, G104, hB104, rfl⟩, hs104, rfl, rfl⟩
      replace hB104 := hB104.del kcE (by omega) (by omega)
      obtain ⟨A104, c104, rfl, _, _⟩ := Buf.form hB104
      refine ⟨⟨(by first | exact Sub.refl _ | assumption | exact Sub.trans (by assumption) (by assumption)), (by repeat (first | exact SubB.nil | exact Pick.here | apply Pick.there | apply SubB.emp | apply SubB.cons))⟩, ?_⟩
      refine VK_pure rfl rfl rfl rfl rfl (S_move rfl) ?_
      refine VK_pure rfl rfl rfl rfl rfl (S_nil rfl) ?_
      refine VK_pure rfl rfl rfl rfl rfl (S_field (k := 2) Try.underlying92 rfl rfl ti90 rfl rfl) ?_
      first | refine VK_still rfl rfl rfl rfl rfl rfl (S_load Try.underlying90 rfl rfl (Cell.trk (by repeat (first | exact Has.here | apply Has.there)) rfl)) ?_ | refine VK_still rfl rfl rfl rfl rfl rfl (S_load Try.underlying90 rfl rfl (Cell.known (by first | assumption | exact (by assumption : Sub _ _) _ _ (by assumption) | exact (Sub.trans (by assumption) (by assumption)) _ _ (by assumption)) rfl)) ?_
      refine VK_pure rfl rfl rfl rfl rfl (S_move rfl) ?_
      refine VK_pure rfl rfl rfl rfl rfl (S_addn i 1 rfl rfl (by omega)) ?_
      refine VK_pure rfl rfl rfl rfl rfl (S_move rfl) ?_
      refine VK_pure rfl rfl rfl rfl rfl (S_addn i 2 rfl rfl (by omega)) ?_
      refine VK_eff rfl rfl rfl (E_call rfl rfl rfl Try.call89 (n_delete _ bs.length (i + 1) (i + 2) (pcs bs) h _ hBc (pcE.flat_one _) (by omega) (by omega) (by omega)) (by repeat (first | exact Split.nil | exact Pick.here | apply Pick.there | apply Split.cons))) ?_
      rintro _ hh113 _ ⟨v113, nb113, ⟨rfl, G113, hB113, rfl⟩, hs113, rfl, rfl⟩
      replace hB113 := hB113.del pcE (by omega) (by omega)
      have hl113 : (bs.take (i + 1) ++ bs.drop (i + 2)).length = bs.length - 1 := by simp; omega
      obtain ⟨bd, cd, spd, rfl, rfl, d1, d2, hd1, hd2⟩ := Buf.blk hB113 (by omega)
      refine ⟨⟨(by first | exact Sub.refl _ | assumption | exact Sub.trans (by assumption) (by assumption)), (by repeat (first | exact SubB.nil | exact Pick.here | apply Pick.there | apply SubB.emp | apply SubB.cons))⟩, ?_⟩
      refine VK_pure rfl rfl rfl rfl rfl (S_nil rfl) ?_
      refine VK_pure rfl rfl rfl rfl rfl (S_field (k := 0) Try.underlying92 rfl rfl ti88 rfl rfl) ?_
      refine VK_effT rfl rfl rfl rfl (E_store ti88 rfl rfl rfl rfl rfl (by repeat (first | exact Has.here | apply Has.there)) (by repeat (first | exact PutR.nil | exact SetL.here | apply SetL.there | apply PutR.cons)) (by repeat (first | exact UpdG.here | apply UpdG.there))) ?_
      rintro _ _ _ ⟨rfl, rfl, rfl⟩
      refine VK_pure rfl rfl rfl rfl rfl (S_nil rfl) ?_
      refine VK_pure rfl rfl rfl rfl rfl (S_field (k := 2) Try.underlying92 rfl rfl ti90 rfl rfl) ?_
      refine VK_effT rfl rfl rfl rfl (E_store ti90 rfl rfl rfl rfl rfl (by repeat (first | exact Has.here | apply Has.there)) (by repeat (first | exact PutR.nil | exact SetL.here | apply SetL.there | apply PutR.cons)) (by repeat (first | exact UpdG.here | apply UpdG.there))) ?_
      rintro _ _ _ ⟨rfl, rfl, rfl⟩
      refine VK_nil ?_
      refine VQ_then ?_
      refine V_seq ?_
      refine V_region ?_
      refine VL_still rfl rfl rfl (S_move rfl) ?_
      refine VL_still rfl rfl rfl (S_nil rfl) ?_
      refine VL_still rfl rfl rfl (S_field (k := 2) Try.underlying92 rfl rfl ti90 rfl rfl) ?_
      first | refine VL_still rfl rfl rfl (S_load Try.underlying90 rfl rfl (Cell.trk (by repeat (first | exact Has.here | apply Has.there)) rfl)) ?_ | refine VL_still rfl rfl rfl (S_load Try.underlying90 rfl rfl (Cell.known (by first | assumption | exact (by assumption : Sub _ _) _ _ (by assumption) | exact (Sub.trans (by assumption) (by assumption)) _ _ (by assumption)) rfl)) ?_
      refine VL_still rfl rfl rfl (S_move rfl) ?_
      refine VL_still rfl rfl rfl (S_move rfl) ?_
      refine VL_still rfl rfl rfl (X_at i Try.underlying90 tx83 rfl rfl (by rw [hl113]; omega)) ?_
      refine VL_eff rfl (E_store ti83 rfl rfl rfl rfl rfl (by repeat (first | exact Has.here | apply Has.there)) (PutR.encd pcE (by rw [hl113]; omega) b23 spd) (by repeat (first | exact UpdG.here | apply UpdG.there))) ?_
      rintro _ _ _ ⟨rfl, rfl, rfl⟩
      refine VL_nil ?_
      refine VQ_then ?_
      refine V_ret ?_
      refine VQ_then_ret ?_
      refine VQ_keeps (blA := [[(b23, .cells (List.toArray [(.slice A60 (if d = 0 then keysT ta ++ keysT tb else keysT ta ++ [s] ++ keysT tb).length c60), (.slice A73 (v1 ++ v2).length c73), (.slice A86 (c1 ++ c2).length c86)]) 92 (0, 0))], G60, G73, G86]) (by repeat (first | exact Split.nil | exact Pick.here | apply Pick.there | apply Split.cons)) (fun h1 sh1 kh1 => ?_)
      obtain ⟨q1, q2, q3, q4, _⟩ := kh1
      obtain ⟨g1, g2⟩ := hglue s h1 b23 sh1 (NodeAt.own q1 q2 q3 q4 hB60 hB73 hB86)
      refine VQ_fin0 (nb := [GN bn (.slice A104 (ks.take i ++ ks.drop (i + 1)).length c104) vv (.slice (some ⟨bd, 0, none⟩) (bs.take (i + 1) ++ bs.drop (i + 2)).length cd), G104, [(bd, .cells (List.toArray (((bs.take (i + 1) ++ bs.drop (i + 2)).set i b23).flatMap pc ++ spd)) 83 (0, 0))]]) (by first | exact .inl rfl | exact .inr rfl) rfl ?sb ?po
      case po =>
        have hm := mendT_le ht0 ht1 hks (by unfold nk; rw [g2]; exact h7)
        rw [hm]
        exact ⟨rfl, _, _, _, _, (bs.take (i + 1) ++ bs.drop (i + 2)).set i b23, hB104, Buf.set pcE i b23 rfl d1 d2 hd2, (((hA.take _).app (hA.drop _)).mono fun _ _ r => Rp.sub sh1 r).set _ g1, rfl⟩
      case sb => exact (by repeat (first | exact SubB.nil | exact Pick.here | apply Pick.there | apply SubB.emp | apply SubB.cons))
    · skip
      have h7 : ¬ (if d = 0 then keysT ta ++ keysT tb else keysT ta ++ [s] ++ keysT tb).length ≤ 7 := by
        have := of_decide_eq_false hc94
        omega
      refine V_skip ?_
      refine VQ_then ?_
      refine V_keeps (blA := [[(b23, .cells (List.toArray [(.slice A60 (if d = 0 then keysT ta ++ keysT tb else keysT ta ++ [s] ++ keysT tb).length c60), (.slice A73 (v1 ++ v2).length c73), (.slice A86 (c1 ++ c2).length c86)]) 92 (0, 0))], G60, G73, G86]) (by repeat (first | exact Split.nil | exact Pick.here | apply Pick.there | apply Split.cons)) (fun h1 sh1 kh1 => ?_)
      obtain ⟨q1, q2, q3, q4, _⟩ := kh1
      obtain ⟨g1, g2⟩ := hglue s h1 b23 sh1 (NodeAt.own q1 q2 q3 q4 hB60 hB73 hB86)
      refine V_drawK _ [GN bn (.slice (some ⟨bk, 0, none⟩) ks.length ck) vv (.slice (some ⟨bc, 0, none⟩) bs.length cc)] 176291840 8456 23 Try.mixed (by kernel_rfl) (Sub.refl _) (by repeat (first | exact SubB.nil | exact Pick.here | apply Pick.there | apply SubB.emp | apply SubB.cons)) ?_
      refine VK_pure rfl rfl rfl rfl rfl (S_move rfl) ?_
      refine VK_pure rfl rfl rfl rfl rfl (S_nil rfl) ?_
      refine VK_pure rfl rfl rfl rfl rfl (S_field (k := 2) Try.underlying92 rfl rfl ti90 rfl rfl) ?_
      first | refine VK_still rfl rfl rfl rfl rfl rfl (S_load Try.underlying90 rfl rfl (Cell.trk (by repeat (first | exact Has.here | apply Has.there)) rfl)) ?_ | refine VK_still rfl rfl rfl rfl rfl rfl (S_load Try.underlying90 rfl rfl (Cell.known (by first | assumption | exact (by assumption : Sub _ _) _ _ (by assumption) | exact (Sub.trans (by assumption) (by assumption)) _ _ (by assumption)) rfl)) ?_
      refine VK_pure rfl rfl rfl rfl rfl (S_move rfl) ?_
      refine VK_pure rfl rfl rfl rfl rfl (S_move rfl) ?_
      refine VK_pure rfl rfl rfl rfl rfl (S_nil rfl) ?_
      refine VK_pure rfl rfl rfl rfl rfl (S_field (k := 0) Try.underlying92 rfl rfl ti88 rfl rfl) ?_
      first | refine VK_still rfl rfl rfl rfl rfl rfl (S_load Try.underlying88 rfl rfl (Cell.trk (by repeat (first | exact Has.here | apply Has.there)) rfl)) ?_ | refine VK_still rfl rfl rfl rfl rfl rfl (S_load Try.underlying88 rfl rfl (Cell.known (by first | assumption | exact (by assumption : Sub _ _) _ _ (by assumption) | exact (Sub.trans (by assumption) (by assumption)) _ _ (by assumption)) rfl)) ?_
      refine VK_pure rfl rfl rfl rfl rfl (S_move rfl) ?_
      refine VK_pure rfl rfl rfl rfl rfl (S_move rfl) ?_
      refine VK_pure rfl rfl rfl rfl rfl (S_nil rfl) ?_
      refine VK_pure rfl rfl rfl rfl rfl (S_field (k := 2) Try.underlying92 rfl rfl ti90 rfl rfl) ?_
      first | refine VK_still rfl rfl rfl rfl rfl rfl (S_load Try.underlying90 rfl rfl (Cell.trk (by repeat (first | exact Has.here | apply Has.there)) rfl)) ?_ | refine VK_still rfl rfl rfl rfl rfl rfl (S_load Try.underlying90 rfl rfl (Cell.known (by first | assumption | exact (by assumption : Sub _ _) _ _ (by assumption) | exact (Sub.trans (by assumption) (by assumption)) _ _ (by assumption)) rfl)) ?_
      refine VK_pure rfl rfl rfl rfl rfl (S_move rfl) ?_
      refine VK_pure rfl rfl rfl rfl rfl (S_addn i 1 rfl rfl (by omega)) ?_
      refine VK_pure rfl rfl rfl rfl rfl (S_move rfl) ?_
      refine VK_eff rfl rfl rfl (E_call rfl rfl rfl Try.call63 (splitT_con d b23 _ h1 g1 (by unfold nk; rw [g2, ← hKb, List.length_append]; omega) (fun d' ks' ts' e1 e2 => by have hsb := Sh.both (s := s) (hS ta (List.mem_of_getElem? ht0)) (hS tb (List.mem_of_getElem? ht1)); rw [e2, e1] at hsb; exact hsb)) (by repeat (first | exact Split.nil | exact Pick.here | apply Pick.there | apply Split.cons))) ?_
      rintro _ hh143 _ ⟨v143, nb143, ⟨rfl, hP⟩, hs143, rfl, rfl⟩
      replace hP := hP hs143
      obtain ⟨b1, s', o', rfl, hR1, ho⟩ := hP.form
      have hsome := cutT_gt (t := bothT ta s tb) (by unfold nk; rw [g2]; exact h7)
      obtain ⟨b2, r, rfl, hq2, hR2⟩ : ∃ b2 r, o' = some ⟨b2, 0, none⟩ ∧ (cutT (bothT ta s tb)).2 = some (s', r) ∧ Rp hh143 d b2 r := by
        rcases ho with ⟨_, e⟩ | ho
        · rw [e] at hsome; cases hsome
        · exact ho
      refine ⟨⟨(by first | exact Sub.refl _ | assumption | exact Sub.trans (by assumption) (by assumption)), (by repeat (first | exact SubB.nil | exact Pick.here | apply Pick.there | apply SubB.emp | apply SubB.cons))⟩, ?_⟩
      refine VK_pure rfl rfl rfl rfl rfl (S_move rfl) ?_
      refine VK_pure rfl rfl rfl rfl rfl (S_extract rfl rfl) ?_
      refine VK_pure rfl rfl rfl rfl rfl (S_extract rfl rfl) ?_
      refine VK_pure rfl rfl rfl rfl rfl (S_extract rfl rfl) ?_
      refine VK_pure rfl rfl rfl rfl rfl (X_at i Try.underlying90 tx83 rfl rfl hlt0) ?_
      refine VK_effT rfl rfl rfl rfl (E_store ti83 rfl rfl rfl rfl rfl (by repeat (first | exact Has.here | apply Has.there)) (PutR.encd pcE hlt0 b1 spc) (by repeat (first | exact UpdG.here | apply UpdG.there))) ?_
      rintro _ _ _ ⟨rfl, rfl, rfl⟩
      refine VK_pure rfl rfl rfl rfl rfl (X_at i Try.underlying88 tx23 rfl rfl (by omega)) ?_
      refine VK_effT rfl rfl rfl rfl (E_store ti23 rfl rfl rfl rfl rfl (by repeat (first | exact Has.here | apply Has.there)) (PutR.encd kcE (by omega) s' spk) (by repeat (first | exact UpdG.here | apply UpdG.there))) ?_
      rintro _ _ _ ⟨rfl, rfl, rfl⟩
      refine VK_pure rfl rfl rfl rfl rfl (X_at (i + 1) Try.underlying90 tx83 rfl rfl hlt1) ?_
      refine VK_effT rfl rfl rfl rfl (E_store ti83 rfl rfl rfl rfl rfl (by repeat (first | exact Has.here | apply Has.there)) (PutR.encd pcE (by rw [List.length_set]; exact hlt1) b2 spc) (by repeat (first | exact UpdG.here | apply UpdG.there))) ?_
      rintro _ _ _ ⟨rfl, rfl, rfl⟩
      refine VK_nil ?_
      refine VQ_fin0 (nb := [GN bn (.slice (some ⟨bk, 0, none⟩) ks.length ck) vv (.slice (some ⟨bc, 0, none⟩) bs.length cc), [(bk, .cells (List.toArray ((ks.set i s').flatMap kc ++ spk)) 23 (0, 0))], [(bc, .cells (List.toArray (((bs.set i b1).set (i + 1) b2).flatMap pc ++ spc)) 83 (0, 0))]]) (by first | exact .inl rfl | exact .inr rfl) rfl ?sb ?po
      case po =>
        have hm := mendT_gt (l := (cutT (bothT ta s tb)).1) (r := r) (s' := s') ht0 ht1 hks (by rw [← hq2])
        rw [hm]
        exact ⟨rfl, _, _, _, _, (bs.set i b1).set (i + 1) b2, Buf.set kcE i s' rfl l1 l2 hl2, (by have := Buf.set (b := bc) (e := 83) (l := bs.set i b1) (sp := spc) pcE (i + 1) b2 (List.length_set) m1 m2 (by rw [List.length_append, pcE.flat_len, List.length_set] ; rw [List.length_append, pcE.flat_len] at hm2; exact hm2); exact this), (((hA.mono fun _ _ r => Rp.sub (Sub.trans sh1 hs143) r).set _ hR1).set _ hR2), rfl⟩
      case sb => exact (by repeat (first | exact SubB.nil | exact Pick.here | apply Pick.there | apply SubB.emp | apply SubB.cons))

end Go.Proofs.Ytdglignjoojimaa
