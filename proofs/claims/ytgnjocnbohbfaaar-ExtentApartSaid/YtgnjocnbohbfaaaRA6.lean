/- Contracts of package extent, part 5: the map's small methods. No conditions. -/
import Derived.Test.YtgnjocnbohbfaaaRA5
set_option linter.unusedVariables false
set_option linter.unusedSimpArgs false
namespace Go.Proofs.YtgnjocnbohbfaaaR

def thereB (t s n : Int) : Bool := decide (1 ≤ n) && decide (n ≤ t) && decide (0 ≤ s) && decide (s ≤ IntKind.i64.wrap (t - n))
def meetsB (s n : Int) (l : List Ex) : Bool := l.any (fun e => (fun a b => decide (a < IntKind.i64.wrap (s + n)) && decide (s < IntKind.i64.wrap (a + b))) e.1 e.2)
def withinB (s n : Int) (l : List Ex) : Bool := l.any (fun e => (fun a b => decide (a ≤ s) && decide (IntKind.i64.wrap (s + n) ≤ IntKind.i64.wrap (a + b))) e.1 e.2)
def takenB (t s n : Int) (f l : List Ex) : Bool := thereB t s n && !meetsB s n f && !meetsB s n l
abbrev GM (g : Nat) (t : Int) (vf vl : Value) : Gr := [(g, .cells (List.toArray [.int .i64 t, vf, vl]) 43 (0, 0))]
abbrev BX (v : Value) (l : List Ex) (G : Gr) : Prop := Buf 27 2 v l.length (xcs l) G
theorem thereB_ok {t s n : Int} (h : thereB t s n = true) (ht : t ≤ 1024) : OkE (s, n) ∧ s + n ≤ t := by
  simp only [thereB, Bool.and_eq_true, decide_eq_true_eq] at h
  obtain ⟨⟨⟨h1, h2⟩, h3⟩, h4⟩ := h
  rw [wrap_id (by omega) (by omega)] at h4
  exact ⟨⟨h3, h1, by simp only; omega⟩, by omega⟩
theorem takenB_there {t s n : Int} {f l : List Ex} (h : takenB t s n f l = true) : thereB t s n = true := by
  simp only [takenB, Bool.and_eq_true] at h
  exact h.1.1
theorem BX.rd {v : Value} {l : List Ex} {G : Gr} (B : BX v l G) (h : Hp) : SlR h [G] v l.length (xcs l) 2 := B.reads (fun q hq => by simpa using hq)
theorem thereC (t s n : Int) (f l : Value) (g : Nat) (h : Hp) : Con Try.prog 19 [.pointer (some ⟨g, 0, none⟩), xt s n] h [GM g t f l] (fun v h' nb => v = .bool (thereB t s n) ∧ h = h' ∧ nb = [GM g t f l]) := there_con t s n f l g h
theorem meetsC (v : Value) (l : List Ex) (s n : Int) (G : Gr) (h : Hp) (B : BX v l G) (hn : l.length ≤ 10000) : Con Try.prog 23 [v, xt s n] h [G] (fun r h' nb => r = .bool (meetsB s n l) ∧ h = h' ∧ nb = [G]) := meets_con v l s n G h (B.rd h) (by omega)
theorem withinC (v : Value) (l : List Ex) (s n : Int) (G : Gr) (h : Hp) (B : BX v l G) (hn : l.length ≤ 10000) : Con Try.prog 20 [v, xt s n] h [G] (fun r h' nb => r = .bool (withinB s n l) ∧ h = h' ∧ nb = [G]) := within_con v l s n G h (B.rd h) (by omega)

set_option maxRecDepth 100000 in
theorem taken_con (g : Nat) (t : Int) (vf vl : Value) (f l : List Ex) (Gf Gl : Gr) (h : Hp) (hf : BX vf f Gf) (hl : BX vl l Gl) (nf : f.length ≤ 10000) (nl : l.length ≤ 10000) (s n : Int) : Con Try.prog 17 [.pointer (some ⟨g, 0, none⟩), xt s n] h [GM g t vf vl, Gf, Gl] (fun r h' nb => r = .bool (takenB t s n f l) ∧ h = h' ∧ nb = [GM g t vf vl, Gf, Gl]) := by
  refine Con_of Try.func17 rfl Try.ntmps17 (Nat.le_of_ble_eq_true rfl) (fun w0 => ?_)
  refine V_seq ?_
  refine V_region ?_
  refine VL_eff rfl (E_box rfl rfl rfl) ?_
  rintro _ _ _ ⟨b3, hb3, rfl, rfl, rfl⟩
  refine VL_still rfl rfl rfl (S_assign rfl) ?_
  refine VL_nil ?_
  refine VQ_then ?_
  refine V_seq ?_
  refine V_draw _ _ 262660 Try.mixed (by kernel_rfl) (Sub.refl _) (SubB.refl _) ?_
  refine VD_still rfl rfl rfl rfl (S_move rfl) ?_
  first | refine VD_still rfl rfl rfl rfl (S_loads Try.underlying27 rfl ti27 rfl rfl (Cells.all (by repeat (first | exact Has.here | apply Has.there)))) ?_ | refine VD_still rfl rfl rfl rfl (S_loads Try.underlying27 rfl ti27 rfl rfl (Cells.trk (by repeat (first | exact Has.here | apply Has.there)) (by repeat (first | exact TakeR.here (by repeat (first | exact HeadR.nil | apply HeadR.cons)) | apply TakeR.there)))) ?_
  refine VD_eff rfl rfl (E_call rfl rfl rfl Try.call19 (thereC t s n vf vl g h) (by repeat (first | exact Split.nil | exact Pick.here | apply Pick.there | apply Split.cons))) ?_
  rintro _ _ _ ⟨v7, nb7, ⟨rfl, rfl, rfl⟩, hs7, rfl, rfl⟩
  refine ⟨⟨(by first | exact Sub.refl _ | assumption | exact Sub.trans (by assumption) (by assumption)), (by repeat (first | exact SubB.nil | exact Pick.here | apply Pick.there | apply SubB.emp | apply SubB.cons))⟩, ?_⟩
  refine VD_still rfl rfl rfl rfl (S_move rfl) ?_
  refine VD_bool 8 rfl (fun hc8 => ?_) (fun hc8 => ?_)
  · skip
    refine VD_still rfl rfl rfl rfl (S_move rfl) ?_
    refine VD_still rfl rfl rfl rfl (S_nil rfl) ?_
    refine VD_still rfl rfl rfl rfl (S_field (k := 1) Try.underlying43 rfl rfl ti35 rfl rfl) ?_
    refine VD_still rfl rfl rfl rfl (S_load Try.underlying35 rfl rfl (Cell.trk (by repeat (first | exact Has.here | apply Has.there)) rfl)) ?_
    first | refine VD_still rfl rfl rfl rfl (S_loads Try.underlying27 rfl ti27 rfl rfl (Cells.all (by repeat (first | exact Has.here | apply Has.there)))) ?_ | refine VD_still rfl rfl rfl rfl (S_loads Try.underlying27 rfl ti27 rfl rfl (Cells.trk (by repeat (first | exact Has.here | apply Has.there)) (by repeat (first | exact TakeR.here (by repeat (first | exact HeadR.nil | apply HeadR.cons)) | apply TakeR.there)))) ?_
    refine VD_eff rfl rfl (E_call rfl rfl rfl Try.call23 (meetsC vf f s n Gf h hf nf) (by repeat (first | exact Split.nil | exact Pick.here | apply Pick.there | apply Split.cons))) ?_
    rintro _ _ _ ⟨v14, nb14, ⟨rfl, rfl, rfl⟩, hs14, rfl, rfl⟩
    refine ⟨⟨(by first | exact Sub.refl _ | assumption | exact Sub.trans (by assumption) (by assumption)), (by repeat (first | exact SubB.nil | exact Pick.here | apply Pick.there | apply SubB.emp | apply SubB.cons))⟩, ?_⟩
    refine VD_still rfl rfl rfl rfl (S_not rfl) ?_
    first | refine VD_still rfl rfl rfl rfl (S_pick_t rfl rfl) ?_ | refine VD_still rfl rfl rfl rfl (S_pick_f rfl rfl) ?_
    refine VD_still rfl rfl rfl rfl (S_move rfl) ?_
    refine VD_bool 17 rfl (fun hc17 => ?_) (fun hc17 => ?_)
    · skip
      refine VD_still rfl rfl rfl rfl (S_move rfl) ?_
      refine VD_still rfl rfl rfl rfl (S_nil rfl) ?_
      refine VD_still rfl rfl rfl rfl (S_field (k := 2) Try.underlying43 rfl rfl ti35 rfl rfl) ?_
      refine VD_still rfl rfl rfl rfl (S_load Try.underlying35 rfl rfl (Cell.trk (by repeat (first | exact Has.here | apply Has.there)) rfl)) ?_
      first | refine VD_still rfl rfl rfl rfl (S_loads Try.underlying27 rfl ti27 rfl rfl (Cells.all (by repeat (first | exact Has.here | apply Has.there)))) ?_ | refine VD_still rfl rfl rfl rfl (S_loads Try.underlying27 rfl ti27 rfl rfl (Cells.trk (by repeat (first | exact Has.here | apply Has.there)) (by repeat (first | exact TakeR.here (by repeat (first | exact HeadR.nil | apply HeadR.cons)) | apply TakeR.there)))) ?_
      refine VD_eff rfl rfl (E_call rfl rfl rfl Try.call23 (meetsC vl l s n Gl h hl nl) (by repeat (first | exact Split.nil | exact Pick.here | apply Pick.there | apply Split.cons))) ?_
      rintro _ _ _ ⟨v23, nb23, ⟨rfl, rfl, rfl⟩, hs23, rfl, rfl⟩
      refine ⟨⟨(by first | exact Sub.refl _ | assumption | exact Sub.trans (by assumption) (by assumption)), (by repeat (first | exact SubB.nil | exact Pick.here | apply Pick.there | apply SubB.emp | apply SubB.cons))⟩, ?_⟩
      refine VD_still rfl rfl rfl rfl (S_not rfl) ?_
      first | refine VD_still rfl rfl rfl rfl (S_pick_t rfl rfl) ?_ | refine VD_still rfl rfl rfl rfl (S_pick_f rfl rfl) ?_
      refine VD_still rfl rfl rfl rfl (S_assign rfl) ?_
      refine VD_nil ?_
      refine VQ_then ?_
      refine V_ret ?_
      refine VQ_fin1 (nb := [GM g t vf vl, Gf, Gl]) (by first | exact .inl rfl | exact .inr rfl) rfl (RV_tmp rfl) ?sb ?po
      case po =>
        refine ⟨?_, rfl, rfl⟩
        simp_all [takenB]
      case sb => exact (by repeat (first | exact SubB.nil | exact Pick.here | apply Pick.there | apply SubB.emp | apply SubB.cons))
    · skip
      refine VD_skip rfl rfl rfl ?_
      refine VD_skip rfl rfl rfl ?_
      refine VD_skip rfl rfl rfl ?_
      refine VD_skip rfl rfl rfl ?_
      refine VD_skip rfl rfl rfl ?_
      refine VD_skip rfl rfl rfl ?_
      refine VD_skip rfl rfl rfl ?_
      first | refine VD_still rfl rfl rfl rfl (S_pick_t rfl rfl) ?_ | refine VD_still rfl rfl rfl rfl (S_pick_f rfl rfl) ?_
      refine VD_still rfl rfl rfl rfl (S_assign rfl) ?_
      refine VD_nil ?_
      refine VQ_then ?_
      refine V_ret ?_
      refine VQ_fin1 (nb := [GM g t vf vl, Gf, Gl]) (by first | exact .inl rfl | exact .inr rfl) rfl (RV_tmp rfl) ?sb ?po
      case po =>
        refine ⟨?_, rfl, rfl⟩
        simp_all [takenB]
      case sb => exact (by repeat (first | exact SubB.nil | exact Pick.here | apply Pick.there | apply SubB.emp | apply SubB.cons))
  · skip
    refine VD_skip rfl rfl rfl ?_
    refine VD_skip rfl rfl rfl ?_
    refine VD_skip rfl rfl rfl ?_
    refine VD_skip rfl rfl rfl ?_
    refine VD_skip rfl rfl rfl ?_
    refine VD_skip rfl rfl rfl ?_
    refine VD_skip rfl rfl rfl ?_
    first | refine VD_still rfl rfl rfl rfl (S_pick_t rfl rfl) ?_ | refine VD_still rfl rfl rfl rfl (S_pick_f rfl rfl) ?_
    refine VD_still rfl rfl rfl rfl (S_move rfl) ?_
    refine VD_skip rfl rfl rfl ?_
    refine VD_skip rfl rfl rfl ?_
    refine VD_skip rfl rfl rfl ?_
    refine VD_skip rfl rfl rfl ?_
    refine VD_skip rfl rfl rfl ?_
    refine VD_skip rfl rfl rfl ?_
    refine VD_skip rfl rfl rfl ?_
    first | refine VD_still rfl rfl rfl rfl (S_pick_t rfl rfl) ?_ | refine VD_still rfl rfl rfl rfl (S_pick_f rfl rfl) ?_
    refine VD_still rfl rfl rfl rfl (S_assign rfl) ?_
    refine VD_nil ?_
    refine VQ_then ?_
    refine V_ret ?_
    refine VQ_fin1 (nb := [GM g t vf vl, Gf, Gl]) (by first | exact .inl rfl | exact .inr rfl) rfl (RV_tmp rfl) ?sb ?po
    case po =>
      refine ⟨?_, rfl, rfl⟩
      simp_all [takenB]
    case sb => exact (by repeat (first | exact SubB.nil | exact Pick.here | apply Pick.there | apply SubB.emp | apply SubB.cons))

set_option maxRecDepth 100000 in
theorem list_con (g : Nat) (t : Int) (vf vl : Value) (f l : List Ex) (Gf Gl : Gr) (h : Hp) (hf : BX vf f Gf) (hl : BX vl l Gl) (nf : f.length ≤ 10000) (nl : l.length ≤ 10000) : Con Try.prog 14 [.pointer (some ⟨g, 0, none⟩)] h [GM g t vf vl, Gf, Gl] (fun r h' nb => h = h' ∧ ∃ G, BX r f G ∧ nb = [GM g t vf vl, Gf, Gl, G]) := by
  refine Con_of Try.func14 rfl Try.ntmps14 (Nat.le_of_ble_eq_true rfl) (fun w0 => ?_)
  refine V_seq ?_
  refine V_region ?_
  refine VL_still rfl rfl rfl (S_assign rfl) ?_
  refine VL_nil ?_
  refine VQ_then ?_
  refine V_seq ?_
  refine V_region ?_
  refine VL_still rfl rfl rfl (S_move rfl) ?_
  refine VL_still rfl rfl rfl (S_nil rfl) ?_
  refine VL_still rfl rfl rfl (S_field (k := 1) Try.underlying43 rfl rfl ti35 rfl rfl) ?_
  refine VL_still rfl rfl rfl (S_load Try.underlying35 rfl rfl (Cell.trk (by repeat (first | exact Has.here | apply Has.there)) rfl)) ?_
  refine VL_eff rfl (E_call rfl rfl rfl Try.call21 (xt_clone vf f.length (xcs f) h Gf (hf.rd h) (xcE.flat_one _) (by omega)) (by repeat (first | exact Split.nil | exact Pick.here | apply Pick.there | apply Split.cons))) ?_
  rintro _ _ _ ⟨v7, nb7, ⟨rfl, G7, hB7, rfl⟩, hs7, rfl, rfl⟩
  refine VL_still rfl rfl rfl (S_assign rfl) ?_
  refine VL_nil ?_
  refine VQ_then ?_
  refine V_ret ?_
  refine VQ_fin1 (nb := [GM g t vf vl, Gf, Gl, G7]) (by first | exact .inl rfl | exact .inr rfl) rfl (RV_tmp rfl) ?sb ?po
  case po =>
    exact ⟨rfl, G7, hB7, rfl⟩
  case sb => exact (by repeat (first | exact SubB.nil | exact Pick.here | apply Pick.there | apply SubB.emp | apply SubB.cons))

set_option maxRecDepth 100000 in
theorem waiting_con (g : Nat) (t : Int) (vf vl : Value) (f l : List Ex) (Gf Gl : Gr) (h : Hp) (hf : BX vf f Gf) (hl : BX vl l Gl) (nf : f.length ≤ 10000) (nl : l.length ≤ 10000) : Con Try.prog 15 [.pointer (some ⟨g, 0, none⟩)] h [GM g t vf vl, Gf, Gl] (fun r h' nb => h = h' ∧ ∃ G, BX r l G ∧ nb = [GM g t vf vl, Gf, Gl, G]) := by
  refine Con_of Try.func15 rfl Try.ntmps15 (Nat.le_of_ble_eq_true rfl) (fun w0 => ?_)
  refine V_seq ?_
  refine V_region ?_
  refine VL_still rfl rfl rfl (S_assign rfl) ?_
  refine VL_nil ?_
  refine VQ_then ?_
  refine V_seq ?_
  refine V_region ?_
  refine VL_still rfl rfl rfl (S_move rfl) ?_
  refine VL_still rfl rfl rfl (S_nil rfl) ?_
  refine VL_still rfl rfl rfl (S_field (k := 2) Try.underlying43 rfl rfl ti35 rfl rfl) ?_
  refine VL_still rfl rfl rfl (S_load Try.underlying35 rfl rfl (Cell.trk (by repeat (first | exact Has.here | apply Has.there)) rfl)) ?_
  refine VL_eff rfl (E_call rfl rfl rfl Try.call21 (xt_clone vl l.length (xcs l) h Gl (hl.rd h) (xcE.flat_one _) (by omega)) (by repeat (first | exact Split.nil | exact Pick.here | apply Pick.there | apply Split.cons))) ?_
  rintro _ _ _ ⟨v7, nb7, ⟨rfl, G7, hB7, rfl⟩, hs7, rfl, rfl⟩
  refine VL_still rfl rfl rfl (S_assign rfl) ?_
  refine VL_nil ?_
  refine VQ_then ?_
  refine V_ret ?_
  refine VQ_fin1 (nb := [GM g t vf vl, Gf, Gl, G7]) (by first | exact .inl rfl | exact .inr rfl) rfl (RV_tmp rfl) ?sb ?po
  case po =>
    exact ⟨rfl, G7, hB7, rfl⟩
  case sb => exact (by repeat (first | exact SubB.nil | exact Pick.here | apply Pick.there | apply SubB.emp | apply SubB.cons))

set_option maxRecDepth 100000 in
theorem free_con (g : Nat) (t : Int) (vf vl : Value) (f l : List Ex) (Gf Gl : Gr) (h : Hp) (hf : BX vf f Gf) (hl : BX vl l Gl) (nf : f.length ≤ 10000) (nl : l.length ≤ 10000) (s n : Int) (ht : t ≤ 1024) (hX : ∀ x ∈ f, OkE x) : Con Try.prog 8 [.pointer (some ⟨g, 0, none⟩), xt s n] h [GM g t vf vl, Gf, Gl] (fun r h' nb => h = h' ∧ r = .int .i64 (if takenB t s n f l then 0 else 72) ∧ ∃ v G', BX v (if takenB t s n f l then putL (s, n) f else f) G' ∧ nb = [GM g t v vl, G', Gl]) := by
  refine Con_of Try.func8 rfl Try.ntmps8 (Nat.le_of_ble_eq_true rfl) (fun w0 => ?_)
  refine V_seq ?_
  refine V_region ?_
  refine VL_eff rfl (E_box rfl rfl rfl) ?_
  rintro _ _ _ ⟨b3, hb3, rfl, rfl, rfl⟩
  refine VL_still rfl rfl rfl (S_assign rfl) ?_
  refine VL_nil ?_
  refine VQ_then ?_
  refine V_seq ?_
  refine V_seq ?_
  refine V_region ?_
  refine VL_still rfl rfl rfl (S_move rfl) ?_
  first | refine VL_still rfl rfl rfl (S_loads Try.underlying27 rfl ti27 rfl rfl (Cells.all (by repeat (first | exact Has.here | apply Has.there)))) ?_ | refine VL_still rfl rfl rfl (S_loads Try.underlying27 rfl ti27 rfl rfl (Cells.trk (by repeat (first | exact Has.here | apply Has.there)) (by repeat (first | exact TakeR.here (by repeat (first | exact HeadR.nil | apply HeadR.cons)) | apply TakeR.there)))) ?_
  refine VL_eff rfl (E_call rfl rfl rfl Try.call17 (taken_con g t vf vl f l Gf Gl h hf hl nf nl s n) (by repeat (first | exact Split.nil | exact Pick.here | apply Pick.there | apply Split.cons))) ?_
  rintro _ _ _ ⟨v7, nb7, ⟨rfl, rfl, rfl⟩, hs7, rfl, rfl⟩
  refine VL_still rfl rfl rfl (S_not rfl) ?_
  refine VL_nil ?_
  refine VQ_then ?_
  refine V_cond rfl (fun hc8 => ?_) (fun hc8 => ?_)
  · skip
    have hk : takenB t s n f l = false := by simpa using hc8
    refine V_seq ?_
    refine V_region ?_
    refine VL_still rfl rfl rfl (S_assign rfl) ?_
    refine VL_nil ?_
    refine VQ_then ?_
    refine V_ret ?_
    refine VQ_then_ret ?_
    refine VQ_fin1 (nb := [GM g t vf vl, Gf, Gl]) (by first | exact .inl rfl | exact .inr rfl) rfl (RV_tmp rfl) ?sb ?po
    case po =>
      rw [hk]
      exact ⟨rfl, rfl, vf, Gf, hf, rfl⟩
    case sb => exact (by repeat (first | exact SubB.nil | exact Pick.here | apply Pick.there | apply SubB.emp | apply SubB.cons))
  · skip
    have hk : takenB t s n f l = true := by simpa using hc8
    obtain ⟨hO, _⟩ := thereB_ok (takenB_there hk) ht
    refine V_skip ?_
    refine VQ_then ?_
    refine V_seq ?_
    refine V_drawL _ [GM g t vf vl, Gl, [(b3, .cells (List.toArray [.int .i64 s, .int .i64 n]) 27 (0, 0))]] 576 Try.mixed (by kernel_rfl) (by kernel_rfl) (Sub.refl _) (by repeat (first | exact SubB.nil | exact Pick.here | apply Pick.there | apply SubB.emp | apply SubB.cons)) ?_
    refine VD_still rfl rfl rfl rfl (S_move rfl) ?_
    refine VD_still rfl rfl rfl rfl (S_move rfl) ?_
    refine VD_still rfl rfl rfl rfl (S_nil rfl) ?_
    refine VD_still rfl rfl rfl rfl (S_field (k := 1) Try.underlying43 rfl rfl ti35 rfl rfl) ?_
    refine VD_still rfl rfl rfl rfl (S_load Try.underlying35 rfl rfl (Cell.trk (by repeat (first | exact Has.here | apply Has.there)) rfl)) ?_
    first | refine VD_still rfl rfl rfl rfl (S_loads Try.underlying27 rfl ti27 rfl rfl (Cells.all (by repeat (first | exact Has.here | apply Has.there)))) ?_ | refine VD_still rfl rfl rfl rfl (S_loads Try.underlying27 rfl ti27 rfl rfl (Cells.trk (by repeat (first | exact Has.here | apply Has.there)) (by repeat (first | exact TakeR.here (by repeat (first | exact HeadR.nil | apply HeadR.cons)) | apply TakeR.there)))) ?_
    refine VD_eff rfl rfl (E_call rfl rfl rfl Try.call18 (put_con vf f s n Gf h hf nf hX hO) (by repeat (first | exact Split.nil | exact Pick.here | apply Pick.there | apply Split.cons))) ?_
    rintro _ _ _ ⟨v15, nb15, ⟨rfl, G15, hB15, rfl⟩, hs15, rfl, rfl⟩
    obtain ⟨A15, c15, rfl, _, _⟩ := BX.rd hB15 h
    refine ⟨⟨(by first | exact Sub.refl _ | assumption | exact Sub.trans (by assumption) (by assumption)), (by repeat (first | exact SubB.nil | exact Pick.here | apply Pick.there | apply SubB.emp | apply SubB.cons))⟩, ?_⟩
    refine VD_still rfl rfl rfl rfl (S_nil rfl) ?_
    refine VD_still rfl rfl rfl rfl (S_field (k := 1) Try.underlying43 rfl rfl ti35 rfl rfl) ?_
    refine VD_last rfl rfl (E_store ti35 rfl rfl rfl rfl rfl (by repeat (first | exact Has.here | apply Has.there)) (by repeat (first | exact PutR.nil | exact SetL.here | apply SetL.there | apply PutR.cons)) (by repeat (first | exact UpdG.here | apply UpdG.there))) ?_
    rintro _ _ _ ⟨rfl, rfl, rfl⟩
    refine VQ_then ?_
    refine V_seq ?_
    refine V_region ?_
    refine VL_still rfl rfl rfl (S_assign rfl) ?_
    refine VL_nil ?_
    refine VQ_then ?_
    refine V_ret ?_
    refine VQ_fin1 (nb := [GM g t (.slice A15 (putL (s, n) f).length c15) vl, G15, Gl]) (by first | exact .inl rfl | exact .inr rfl) rfl (RV_tmp rfl) ?sb ?po
    case po =>
      rw [hk]
      exact ⟨rfl, rfl, _, G15, hB15, rfl⟩
    case sb => exact (by repeat (first | exact SubB.nil | exact Pick.here | apply Pick.there | apply SubB.emp | apply SubB.cons))

set_option maxRecDepth 100000 in
theorem later_con (g : Nat) (t : Int) (vf vl : Value) (f l : List Ex) (Gf Gl : Gr) (h : Hp) (hf : BX vf f Gf) (hl : BX vl l Gl) (nf : f.length ≤ 10000) (nl : l.length ≤ 10000) (s n : Int) (ht : t ≤ 1024) (hX : ∀ x ∈ l, OkE x) : Con Try.prog 12 [.pointer (some ⟨g, 0, none⟩), xt s n] h [GM g t vf vl, Gf, Gl] (fun r h' nb => h = h' ∧ r = .int .i64 (if takenB t s n f l then 0 else 72) ∧ ∃ v G', BX v (if takenB t s n f l then putL (s, n) l else l) G' ∧ nb = [GM g t vf v, Gf, G']) := by
  refine Con_of Try.func12 rfl Try.ntmps12 (Nat.le_of_ble_eq_true rfl) (fun w0 => ?_)
  refine V_seq ?_
  refine V_region ?_
  refine VL_eff rfl (E_box rfl rfl rfl) ?_
  rintro _ _ _ ⟨b3, hb3, rfl, rfl, rfl⟩
  refine VL_still rfl rfl rfl (S_assign rfl) ?_
  refine VL_nil ?_
  refine VQ_then ?_
  refine V_seq ?_
  refine V_seq ?_
  refine V_region ?_
  refine VL_still rfl rfl rfl (S_move rfl) ?_
  first | refine VL_still rfl rfl rfl (S_loads Try.underlying27 rfl ti27 rfl rfl (Cells.all (by repeat (first | exact Has.here | apply Has.there)))) ?_ | refine VL_still rfl rfl rfl (S_loads Try.underlying27 rfl ti27 rfl rfl (Cells.trk (by repeat (first | exact Has.here | apply Has.there)) (by repeat (first | exact TakeR.here (by repeat (first | exact HeadR.nil | apply HeadR.cons)) | apply TakeR.there)))) ?_
  refine VL_eff rfl (E_call rfl rfl rfl Try.call17 (taken_con g t vf vl f l Gf Gl h hf hl nf nl s n) (by repeat (first | exact Split.nil | exact Pick.here | apply Pick.there | apply Split.cons))) ?_
  rintro _ _ _ ⟨v7, nb7, ⟨rfl, rfl, rfl⟩, hs7, rfl, rfl⟩
  refine VL_still rfl rfl rfl (S_not rfl) ?_
  refine VL_nil ?_
  refine VQ_then ?_
  refine V_cond rfl (fun hc8 => ?_) (fun hc8 => ?_)
  · skip
    have hk : takenB t s n f l = false := by simpa using hc8
    refine V_seq ?_
    refine V_region ?_
    refine VL_still rfl rfl rfl (S_assign rfl) ?_
    refine VL_nil ?_
    refine VQ_then ?_
    refine V_ret ?_
    refine VQ_then_ret ?_
    refine VQ_fin1 (nb := [GM g t vf vl, Gf, Gl]) (by first | exact .inl rfl | exact .inr rfl) rfl (RV_tmp rfl) ?sb ?po
    case po =>
      rw [hk]
      exact ⟨rfl, rfl, vl, Gl, hl, rfl⟩
    case sb => exact (by repeat (first | exact SubB.nil | exact Pick.here | apply Pick.there | apply SubB.emp | apply SubB.cons))
  · skip
    have hk : takenB t s n f l = true := by simpa using hc8
    obtain ⟨hO, _⟩ := thereB_ok (takenB_there hk) ht
    refine V_skip ?_
    refine VQ_then ?_
    refine V_seq ?_
    refine V_drawL _ [GM g t vf vl, Gf, [(b3, .cells (List.toArray [.int .i64 s, .int .i64 n]) 27 (0, 0))]] 576 Try.mixed (by kernel_rfl) (by kernel_rfl) (Sub.refl _) (by repeat (first | exact SubB.nil | exact Pick.here | apply Pick.there | apply SubB.emp | apply SubB.cons)) ?_
    refine VD_still rfl rfl rfl rfl (S_move rfl) ?_
    refine VD_still rfl rfl rfl rfl (S_move rfl) ?_
    refine VD_still rfl rfl rfl rfl (S_nil rfl) ?_
    refine VD_still rfl rfl rfl rfl (S_field (k := 2) Try.underlying43 rfl rfl ti35 rfl rfl) ?_
    refine VD_still rfl rfl rfl rfl (S_load Try.underlying35 rfl rfl (Cell.trk (by repeat (first | exact Has.here | apply Has.there)) rfl)) ?_
    first | refine VD_still rfl rfl rfl rfl (S_loads Try.underlying27 rfl ti27 rfl rfl (Cells.all (by repeat (first | exact Has.here | apply Has.there)))) ?_ | refine VD_still rfl rfl rfl rfl (S_loads Try.underlying27 rfl ti27 rfl rfl (Cells.trk (by repeat (first | exact Has.here | apply Has.there)) (by repeat (first | exact TakeR.here (by repeat (first | exact HeadR.nil | apply HeadR.cons)) | apply TakeR.there)))) ?_
    refine VD_eff rfl rfl (E_call rfl rfl rfl Try.call18 (put_con vl l s n Gl h hl nl hX hO) (by repeat (first | exact Split.nil | exact Pick.here | apply Pick.there | apply Split.cons))) ?_
    rintro _ _ _ ⟨v15, nb15, ⟨rfl, G15, hB15, rfl⟩, hs15, rfl, rfl⟩
    obtain ⟨A15, c15, rfl, _, _⟩ := BX.rd hB15 h
    refine ⟨⟨(by first | exact Sub.refl _ | assumption | exact Sub.trans (by assumption) (by assumption)), (by repeat (first | exact SubB.nil | exact Pick.here | apply Pick.there | apply SubB.emp | apply SubB.cons))⟩, ?_⟩
    refine VD_still rfl rfl rfl rfl (S_nil rfl) ?_
    refine VD_still rfl rfl rfl rfl (S_field (k := 2) Try.underlying43 rfl rfl ti35 rfl rfl) ?_
    refine VD_last rfl rfl (E_store ti35 rfl rfl rfl rfl rfl (by repeat (first | exact Has.here | apply Has.there)) (by repeat (first | exact PutR.nil | exact SetL.here | apply SetL.there | apply PutR.cons)) (by repeat (first | exact UpdG.here | apply UpdG.there))) ?_
    rintro _ _ _ ⟨rfl, rfl, rfl⟩
    refine VQ_then ?_
    refine V_seq ?_
    refine V_region ?_
    refine VL_still rfl rfl rfl (S_assign rfl) ?_
    refine VL_nil ?_
    refine VQ_then ?_
    refine V_ret ?_
    refine VQ_fin1 (nb := [GM g t vf (.slice A15 (putL (s, n) l).length c15), Gf, G15]) (by first | exact .inl rfl | exact .inr rfl) rfl (RV_tmp rfl) ?sb ?po
    case po =>
      rw [hk]
      exact ⟨rfl, rfl, _, G15, hB15, rfl⟩
    case sb => exact (by repeat (first | exact SubB.nil | exact Pick.here | apply Pick.there | apply SubB.emp | apply SubB.cons))

set_option maxRecDepth 100000 in
theorem take_con (g : Nat) (t : Int) (vf vl : Value) (f l : List Ex) (Gf Gl : Gr) (h : Hp) (hf : BX vf f Gf) (hl : BX vl l Gl) (nf : f.length ≤ 10000) (nl : l.length ≤ 10000) (s n : Int) (ht : t ≤ 1024) (hX : ∀ x ∈ f, OkE x) : Con Try.prog 9 [.pointer (some ⟨g, 0, none⟩), xt s n] h [GM g t vf vl, Gf, Gl] (fun r h' nb => h = h' ∧ r = .int .i64 (if thereB t s n && withinB s n f then 0 else 72) ∧ ∃ v G', BX v (if thereB t s n && withinB s n f then cutL (s, n) f else f) G' ∧ nb = [GM g t v vl, G', Gl]) := by
  refine Con_of Try.func9 rfl Try.ntmps9 (Nat.le_of_ble_eq_true rfl) (fun w0 => ?_)
  refine V_seq ?_
  refine V_region ?_
  refine VL_eff rfl (E_box rfl rfl rfl) ?_
  rintro _ _ _ ⟨b3, hb3, rfl, rfl, rfl⟩
  refine VL_still rfl rfl rfl (S_assign rfl) ?_
  refine VL_nil ?_
  refine VQ_then ?_
  refine V_seq ?_
  refine V_seq ?_
  refine V_draw _ _ 1028 Try.mixed (by kernel_rfl) (Sub.refl _) (SubB.refl _) ?_
  refine VD_still rfl rfl rfl rfl (S_move rfl) ?_
  first | refine VD_still rfl rfl rfl rfl (S_loads Try.underlying27 rfl ti27 rfl rfl (Cells.all (by repeat (first | exact Has.here | apply Has.there)))) ?_ | refine VD_still rfl rfl rfl rfl (S_loads Try.underlying27 rfl ti27 rfl rfl (Cells.trk (by repeat (first | exact Has.here | apply Has.there)) (by repeat (first | exact TakeR.here (by repeat (first | exact HeadR.nil | apply HeadR.cons)) | apply TakeR.there)))) ?_
  refine VD_eff rfl rfl (E_call rfl rfl rfl Try.call19 (thereC t s n vf vl g h) (by repeat (first | exact Split.nil | exact Pick.here | apply Pick.there | apply Split.cons))) ?_
  rintro _ _ _ ⟨v7, nb7, ⟨rfl, rfl, rfl⟩, hs7, rfl, rfl⟩
  refine ⟨⟨(by first | exact Sub.refl _ | assumption | exact Sub.trans (by assumption) (by assumption)), (by repeat (first | exact SubB.nil | exact Pick.here | apply Pick.there | apply SubB.emp | apply SubB.cons))⟩, ?_⟩
  refine VD_still rfl rfl rfl rfl (S_not rfl) ?_
  refine VD_still rfl rfl rfl rfl (S_move rfl) ?_
  refine VD_bool 9 rfl (fun hc9 => ?_) (fun hc9 => ?_)
  · skip
    refine VD_skip rfl rfl rfl ?_
    refine VD_skip rfl rfl rfl ?_
    refine VD_skip rfl rfl rfl ?_
    refine VD_skip rfl rfl rfl ?_
    refine VD_skip rfl rfl rfl ?_
    refine VD_skip rfl rfl rfl ?_
    refine VD_skip rfl rfl rfl ?_
    first | refine VD_still rfl rfl rfl rfl (S_pick_t rfl rfl) ?_ | refine VD_still rfl rfl rfl rfl (S_pick_f rfl rfl) ?_
    refine VD_nil ?_
    refine VQ_then ?_
    refine V_cond_true rfl ?_
    refine V_seq ?_
    refine V_region ?_
    refine VL_still rfl rfl rfl (S_assign rfl) ?_
    refine VL_nil ?_
    refine VQ_then ?_
    refine V_ret ?_
    refine VQ_then_ret ?_
    refine VQ_fin1 (nb := [GM g t vf vl, Gf, Gl]) (by first | exact .inl rfl | exact .inr rfl) rfl (RV_tmp rfl) ?sb ?po
    case po =>
      rw [show thereB t s n = false by simpa using hc9]
      exact ⟨rfl, rfl, vf, Gf, hf, rfl⟩
    case sb => exact (by repeat (first | exact SubB.nil | exact Pick.here | apply Pick.there | apply SubB.emp | apply SubB.cons))
  · skip
    refine VD_still rfl rfl rfl rfl (S_move rfl) ?_
    refine VD_still rfl rfl rfl rfl (S_nil rfl) ?_
    refine VD_still rfl rfl rfl rfl (S_field (k := 1) Try.underlying43 rfl rfl ti35 rfl rfl) ?_
    refine VD_still rfl rfl rfl rfl (S_load Try.underlying35 rfl rfl (Cell.trk (by repeat (first | exact Has.here | apply Has.there)) rfl)) ?_
    first | refine VD_still rfl rfl rfl rfl (S_loads Try.underlying27 rfl ti27 rfl rfl (Cells.all (by repeat (first | exact Has.here | apply Has.there)))) ?_ | refine VD_still rfl rfl rfl rfl (S_loads Try.underlying27 rfl ti27 rfl rfl (Cells.trk (by repeat (first | exact Has.here | apply Has.there)) (by repeat (first | exact TakeR.here (by repeat (first | exact HeadR.nil | apply HeadR.cons)) | apply TakeR.there)))) ?_
    refine VD_eff rfl rfl (E_call rfl rfl rfl Try.call20 (withinC vf f s n Gf h hf nf) (by repeat (first | exact Split.nil | exact Pick.here | apply Pick.there | apply Split.cons))) ?_
    rintro _ _ _ ⟨v15, nb15, ⟨rfl, rfl, rfl⟩, hs15, rfl, rfl⟩
    refine ⟨⟨(by first | exact Sub.refl _ | assumption | exact Sub.trans (by assumption) (by assumption)), (by repeat (first | exact SubB.nil | exact Pick.here | apply Pick.there | apply SubB.emp | apply SubB.cons))⟩, ?_⟩
    refine VD_still rfl rfl rfl rfl (S_not rfl) ?_
    first | refine VD_still rfl rfl rfl rfl (S_pick_t rfl rfl) ?_ | refine VD_still rfl rfl rfl rfl (S_pick_f rfl rfl) ?_
    refine VD_nil ?_
    refine VQ_then ?_
    refine V_cond rfl (fun hc17 => ?_) (fun hc17 => ?_)
    · skip
      refine V_seq ?_
      refine V_region ?_
      refine VL_still rfl rfl rfl (S_assign rfl) ?_
      refine VL_nil ?_
      refine VQ_then ?_
      refine V_ret ?_
      refine VQ_then_ret ?_
      refine VQ_fin1 (nb := [GM g t vf vl, Gf, Gl]) (by first | exact .inl rfl | exact .inr rfl) rfl (RV_tmp rfl) ?sb ?po
      case po =>
        rw [show withinB s n f = false by simpa using hc17, Bool.and_false]
        exact ⟨rfl, rfl, vf, Gf, hf, rfl⟩
      case sb => exact (by repeat (first | exact SubB.nil | exact Pick.here | apply Pick.there | apply SubB.emp | apply SubB.cons))
    · skip
      have hk : (thereB t s n && withinB s n f) = true := by
        simp only [Bool.not_eq_false'] at hc9 hc17
        rw [hc9, hc17]; rfl
      obtain ⟨hO, _⟩ := thereB_ok (by simpa using hc9) ht
      refine V_skip ?_
      refine VQ_then ?_
      refine V_seq ?_
      refine V_drawL _ _ 576 Try.mixed (by kernel_rfl) (by kernel_rfl) (Sub.refl _) (SubB.refl _) ?_
      refine VD_still rfl rfl rfl rfl (S_move rfl) ?_
      refine VD_still rfl rfl rfl rfl (S_move rfl) ?_
      refine VD_still rfl rfl rfl rfl (S_nil rfl) ?_
      refine VD_still rfl rfl rfl rfl (S_field (k := 1) Try.underlying43 rfl rfl ti35 rfl rfl) ?_
      refine VD_still rfl rfl rfl rfl (S_load Try.underlying35 rfl rfl (Cell.trk (by repeat (first | exact Has.here | apply Has.there)) rfl)) ?_
      first | refine VD_still rfl rfl rfl rfl (S_loads Try.underlying27 rfl ti27 rfl rfl (Cells.all (by repeat (first | exact Has.here | apply Has.there)))) ?_ | refine VD_still rfl rfl rfl rfl (S_loads Try.underlying27 rfl ti27 rfl rfl (Cells.trk (by repeat (first | exact Has.here | apply Has.there)) (by repeat (first | exact TakeR.here (by repeat (first | exact HeadR.nil | apply HeadR.cons)) | apply TakeR.there)))) ?_
      refine VD_eff rfl rfl (E_call rfl rfl rfl Try.call16 (cut_con vf f s n Gf h (hf.rd h) nf hX hO) (by repeat (first | exact Split.nil | exact Pick.here | apply Pick.there | apply Split.cons))) ?_
      rintro _ _ _ ⟨v24, nb24, ⟨rfl, G24, hB24, rfl⟩, hs24, rfl, rfl⟩
      obtain ⟨A24, c24, rfl, _, _⟩ := BX.rd hB24 h
      refine ⟨⟨(by first | exact Sub.refl _ | assumption | exact Sub.trans (by assumption) (by assumption)), (by repeat (first | exact SubB.nil | exact Pick.here | apply Pick.there | apply SubB.emp | apply SubB.cons))⟩, ?_⟩
      refine VD_still rfl rfl rfl rfl (S_nil rfl) ?_
      refine VD_still rfl rfl rfl rfl (S_field (k := 1) Try.underlying43 rfl rfl ti35 rfl rfl) ?_
      refine VD_last rfl rfl (E_store ti35 rfl rfl rfl rfl rfl (by repeat (first | exact Has.here | apply Has.there)) (by repeat (first | exact PutR.nil | exact SetL.here | apply SetL.there | apply PutR.cons)) (by repeat (first | exact UpdG.here | apply UpdG.there))) ?_
      rintro _ _ _ ⟨rfl, rfl, rfl⟩
      refine VQ_then ?_
      refine V_seq ?_
      refine V_region ?_
      refine VL_still rfl rfl rfl (S_assign rfl) ?_
      refine VL_nil ?_
      refine VQ_then ?_
      refine V_ret ?_
      refine VQ_fin1 (nb := [GM g t (.slice A24 (cutL (s, n) f).length c24) vl, G24, Gl]) (by first | exact .inl rfl | exact .inr rfl) rfl (RV_tmp rfl) ?sb ?po
      case po =>
        rw [hk]
        exact ⟨rfl, rfl, _, G24, hB24, rfl⟩
      case sb => exact (by repeat (first | exact SubB.nil | exact Pick.here | apply Pick.there | apply SubB.emp | apply SubB.cons))

end Go.Proofs.YtgnjocnbohbfaaaR
