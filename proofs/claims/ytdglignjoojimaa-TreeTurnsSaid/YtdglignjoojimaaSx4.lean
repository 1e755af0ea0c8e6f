/- One lemma for each operation that turns the world; calls, the begin and the end of a function. No conditions. -/
import Derived.Test.YtdglignjoojimaaSx3
set_option linter.unusedVariables false
set_option linter.unusedSimpArgs false
namespace Go.Proofs.Ytdglignjoojimaa

section
variable {X : Cx} {P : Program} {N : Nat} {ops : Array Oper} {Q : Exit → Act → World → Prop} {σ : List (Nat × Value)} {h : Hp} {bl bl' : Bl} {rest : List Oper}
variable {dst : Option Tmp} {d : Nat} {ty : TypeId} {pos : String} {aft : Array Edge} {g : Option (Nat × Bool)}

theorem run_new (w : World) (cs : Array Value) (e : TypeId) : (newRow e cs).run P w = .ok ⟨w.heap.size, 0, none⟩ { w with heap := w.heap.push (.cells cs e) } := by
  simp [newRow, newObj, Sem.run, pure, bind, Sem.bind]

def Bot : Exit → Act → World → Prop := fun _ _ _ => False

/-- The operation acts: it leads from this state to one of those. -/
def Eff (X : Cx) (P : Program) (N : Nat) (o : Oper) (σ : List (Nat × Value)) (h : Hp) (bl : Bl) (Post : List (Nat × Value) → Hp → Bl → Prop) : Prop :=
  ∀ a w, Fr N σ a → Rel X h bl w → o.wp P a w (fun a' w' => ∃ σ' h' bl', Post σ' h' bl' ∧ Fr N σ' a' ∧ Rel X h' bl' w') Bot

theorem wp_exits {o : Oper} {a : Act} {w : World} {K K' : Act → World → Prop} {Q : Exit → Act → World → Prop} (hk : ∀ a w, K a w → K' a w) (h : o.wp P a w K Bot) : o.wp P a w K' Q := by
  unfold Oper.wp at h ⊢
  generalize (execOp a.eval o).run P w = r at h
  cases r with
  | ok nx w' =>
    cases nx <;> simp only [Oper.upon] at h ⊢
    case value u => exact hk _ _ h
    case skip => exact hk _ _ h
    case defer d => exact hk _ _ h
    case enter f args =>
      refine Calls.mono h fun e w'' he => ?_
      cases e with
      | returned u => exact hk _ _ he
      | panicked c => exact he.elim
      | outgrown => obtain ⟨_, _, hf⟩ := he; exact hf.elim
    case row row args => exact Rows.mono h fun u w'' he => hk _ _ he
  | halt x w' => cases x <;> simp only [Oper.upon] at h ⊢; exact h.elim

theorem VL_eff {o : Oper} {Post : List (Nat × Value) → Hp → Bl → Prop} (hw : wantd ops σ o = some true) (he : Eff X P N o σ h bl Post)
    (k : ∀ σ' h' bl', Post σ' h' bl' → VL X P N ops Q rest σ' h' bl') : VL X P N ops Q (o :: rest) σ h bl :=
  fun a w ha hr => wpList_run (wanted_of ha hw) (wp_exits (fun a' w' ⟨σ', h', bl', hp, hf, hr'⟩ => k σ' h' bl' hp a' w' hf hr') (he a w ha hr))

def PNew (X : Cx) (σ : List (Nat × Value)) (h : Hp) (bl : Bl) (d : Nat) (u : Nat → Value) (ob : Obj) (σ' : List (Nat × Value)) (h' : Hp) (bl' : Bl) : Prop :=
  ∃ b, X.w0.heap.size ≤ b ∧ σ' = (d, u b) :: σ ∧ h = h' ∧ bl' = [(b, ob)] :: bl

theorem E_new {o : Oper} (hd : o.dst = some d) (hlt : Nat.blt d N = true) {u : Nat → Value} {ob : Obj}
    (hs : ∀ a w, Fr N σ a → Knows h bl w → (execOp a.eval o).run P w = .ok (.value (u w.heap.size)) { w with heap := w.heap.push ob }) : Eff X P N o σ h bl (PNew X σ h bl d u ob) := by
  intro a w ha hr
  rw [Oper.wp, hs a w ha hr.knows, Oper.upon_value, hd]
  exact ⟨_, _, _, ⟨_, hr.size, rfl, rfl, rfl⟩, ha.put (Nat.le_of_ble_eq_true hlt) _, hr.alloc ob⟩

theorem E_alloc {e : TypeId} {cs : List Value} (hlt : Nat.blt d N = true)
    (hz : ((P.info? e).bind (·.zero)).map (·.cells) = some cs.toArray) :
    Eff X P N ⟨some d, .alloc e, ty, pos, aft, g⟩ σ h bl (PNew X σ h bl d (fun b => .pointer (some ⟨b, 0, none⟩)) (.cells cs.toArray e (0, 0))) := by
  refine E_new rfl hlt (fun a w ha hk => ?_)
  obtain ⟨i, hi, hz⟩ := Option.map_eq_some_iff.1 hz
  obtain ⟨i', hi, hz'⟩ := Option.bind_eq_some_iff.1 hi
  simp only [execOp, Instr.alloc, zeroValue, Sem.run_bind, run_tinfo w hi, Result.andThen_ok, hz', Sem.run_pure, newVar, hz, run_new]

theorem E_box {e : TypeId} {x : Operand} {v : Value} {cs : List Value} (hlt : Nat.blt d N = true)
    (hx : ev σ x = some v) (hz : v.cells = cs.toArray) :
    Eff X P N ⟨some d, .box e x, ty, pos, aft, g⟩ σ h bl (PNew X σ h bl d (fun b => .pointer (some ⟨b, 0, none⟩)) (.cells cs.toArray e (0, 0))) := by
  refine E_new rfl hlt (fun a w ha hk => ?_)
  simp only [execOp, Instr.box, ha.eval hx, Sem.run_bind, newVar, hz, run_new, Result.andThen_ok, Sem.run_pure]

theorem E_bslice {t e : TypeId} {n : Nat} {ps : List (Nat × Operand)} {vs : List (Nat × Value)} {cs : List Value} (hlt : Nat.blt d N = true)
    (hp : parts σ ps = some vs)
    (hb : ∀ w, (Instr.buildSlice t n vs.toArray).run P w = .ok (.slice (some ⟨w.heap.size, 0, none⟩) n n) { w with heap := w.heap.push (.cells cs.toArray e) }) :
    Eff X P N ⟨some d, .buildSlice t n ps.toArray, ty, pos, aft, g⟩ σ h bl (PNew X σ h bl d (fun b => .slice (some ⟨b, 0, none⟩) n n) (.cells cs.toArray e (0, 0))) := by
  refine E_new rfl hlt (fun a w ha hk => ?_)
  simp only [execOp, List.map_toArray, parts_map ha hp, Sem.run_bind, hb w, Result.andThen_ok, Sem.run_pure]

/-! ### Stores -/
def ones : List Value → Bool
  | [] => true
  | .agg _ :: _ => false
  | .tuple _ :: _ => false
  | _ :: r => ones r

/-- One place of a list is written. -/
inductive SetL : List Value → Nat → Value → List Value → Prop
  | here {x v : Value} {l : List Value} : SetL (x :: l) 0 v (v :: l)
  | there {x v : Value} {l l' : List Value} {n : Nat} : SetL l n v l' → SetL (x :: l) (n + 1) v (x :: l')
theorem SetL.eq {l l' : List Value} {n : Nat} {v : Value} (s : SetL l n v l') : n < l.length ∧ l' = l.set n v := by
  induction s with
  | here => simp
  | there _ ih => obtain ⟨h1, h2⟩ := ih; subst h2; exact ⟨by simp; exact h1, by simp⟩
theorem SetL.of {v : Value} : ∀ {l : List Value} {n : Nat}, n < l.length → SetL l n v (l.set n v)
  | x :: l, 0, _ => .here
  | x :: l, n + 1, h => .there (SetL.of (by simpa using h))
inductive PutR : List Value → Nat → List Value → List Value → Prop
  | nil {l : List Value} {n : Nat} : PutR l n [] l
  | cons {l l1 l2 vs : List Value} {n : Nat} {v : Value} : SetL l n v l1 → PutR l1 (n + 1) vs l2 → PutR l n (v :: vs) l2

theorem run_store1 {b off : Nat} {v u : Value} {w : World} (h1 : ones [v] = true) (hc : w.cell? ⟨b, off, none⟩ = some u) (hf : w.frozen? ⟨b, off, none⟩ = false) :
    (store ⟨b, off, none⟩ v).run P w = .ok () (w.setCell ⟨b, off, none⟩ v) := by
  cases v <;> first | (simp [ones] at h1; done) | simp [store, Sem.run, hc, hf]

theorem run_storeCells (P : Program) {b : Nat} {T : TypeId} : ∀ {vs : List Value} {l l' : List Value} {off i : Nat} {w : World}, PutR l (off + i) vs l' → ones vs = true → w.heap[b]? = some (.cells l.toArray T (0, 0)) →
    ∃ w', (storeCells ⟨b, off, none⟩ vs i).run P w = .ok () w' ∧ w'.heap[b]? = some (.cells l'.toArray T (0, 0)) ∧ w'.heap.size = w.heap.size ∧ (∀ k, k ≠ b → w'.heap[k]? = w.heap[k]?) ∧
      w'.tape = w.tape ∧ w'.os = w.os ∧ w'.output = w.output
  | [], l, l', off, i, w, p, _, hb => by
    cases p
    exact ⟨w, by simp [storeCells], hb, rfl, fun _ _ => rfl, rfl, rfl, rfl⟩
  | v :: vs, l, l', off, i, w, .cons s p, h1, hb => by
    obtain ⟨hn, rfl⟩ := s.eq
    have hc : w.cell? ⟨b, off + i, none⟩ = some l[off + i] := by simp [World.cell?, hb, hn]
    have hf : w.frozen? ⟨b, off + i, none⟩ = false := by simp [World.frozen?, hb]
    have hone : ones [v] = true ∧ ones vs = true := by cases v <;> simp_all [ones]
    have hb' : (w.setCell ⟨b, off + i, none⟩ v).heap[b]? = some (.cells (l.set (off + i) v).toArray T (0, 0)) := by
      simp [World.setCell, Array.getElem?_modify, hb]
    obtain ⟨w', hr, hb2, hs, ho, r1, r2, r3⟩ := run_storeCells P (i := i + 1) (off := off) (by rw [← Nat.add_assoc]; exact p) hone.2 hb'
    refine ⟨w', ?_, hb2, ?_, fun k hk => ?_, r1, r2, r3⟩
    · simp only [storeCells, Sem.run_bind, add_none, run_store1 hone.1 hc hf, Result.andThen_ok, hr]
    · rw [hs]; simp [World.setCell]
    · rw [ho k hk]
      simp only [World.setCell, Array.getElem?_modify]
      rw [if_neg (by simpa using fun e => hk e.symm)]

def PSt (σ : List (Nat × Value)) (h : Hp) (bl : Bl) (σ' : List (Nat × Value)) (h' : Hp) (bl' : Bl) : Prop := σ' = σ ∧ h = h' ∧ bl' = bl

theorem E_store {t : TypeId} {p x : Operand} {i : TypeInfo} {b off : Nat} {v : Value} {vs l l' : List Value} {T : TypeId}
    (hi : P.info? t = some i) (hp : ev σ p = some (.pointer (some ⟨b, off, none⟩))) (hx : ev σ x = some v) (hc : v.cells = vs.toArray) (hs : i.size = vs.length) (h1 : ones vs = true)
    (hb : Has bl b (.cells l.toArray T (0, 0))) (hl : PutR l off vs l') (hu : UpdG bl [(b, .cells l.toArray T (0, 0))] [(b, .cells l'.toArray T (0, 0))] bl') :
    Eff X P N ⟨none, .store t p x, ty, pos, aft, g⟩ σ h bl (PSt σ h bl') := by
  intro a w ha hr
  obtain ⟨w', e, hb', hs', ho, r1, r2, r3⟩ := run_storeCells P (off := off) (i := 0) hl h1 (hr.knows.2 _ hb.mem)
  have hz : vs.length = i.size := hs.symm
  have : (execOp a.eval ⟨none, .store t p x, ty, pos, aft, g⟩).run P w = .ok .skip w' := by
    simp only [execOp, ha.eval hp, ha.eval hx, Instr.storeAt, Instr.sureAddr, storeVar, Sem.run_bind, Sem.run_pure, Result.andThen_ok, run_size w hi, hc, List.size_toArray, hz, ne_eq, not_true_eq_false, if_false]
    simp only [e, Result.andThen_ok, Sem.run_pure]
  rw [Oper.wp, this, Oper.upon_skip]
  exact ⟨_, _, _, ⟨rfl, rfl, rfl⟩, ha.put_none _, hr.write hu hb' hs' ho r1 r2 r3⟩

/-! ### Calls -/
/-- What a call hands back: a value, what is known then, and the groups that are its caller's. -/
def Ret (w : World) (blA : Bl) (h : Hp) (post : Value → Hp → Bl → Prop) (e : Ending) (w' : World) : Prop :=
  ∃ v h' nb, e = .returned v ∧ Rel ⟨w, fun b => b ∈ blA.flatten.map Prod.fst, h⟩ h' nb w' ∧ post v h' nb

/-- The contract of a function at some arguments. -/
def Con (P : Program) (f : FuncId) (args : List Value) (h : Hp) (blA : Bl) (post : Value → Hp → Bl → Prop) : Prop :=
  ∀ w, Rel ⟨w, fun b => b ∈ blA.flatten.map Prod.fst, h⟩ h blA w → Calls P f args.toArray w (Ret w blA h post)

theorem Con.mono {f : FuncId} {args : List Value} {blA : Bl} {post post' : Value → Hp → Bl → Prop} (c : Con P f args h blA post) (hp : ∀ v h' nb, post v h' nb → post' v h' nb) : Con P f args h blA post' :=
  fun w hw => (c w hw).mono fun e w' ⟨v, h', nb, he, hr, hq⟩ => ⟨v, h', nb, he, hr, hp _ _ _ hq⟩

theorem Rel.begin {blA blR : Bl} {w : World} (r : Rel X h bl w) (hs : Split bl blA blR) : Rel ⟨w, fun b => b ∈ blA.flatten.map Prod.fst, h⟩ h blA w := by
  have r1 := (r.perm hs.perm).left
  exact ⟨Nat.le_refl _, fun _ _ _ => rfl, rfl, rfl, rfl, fun _ _ k => k, fun _ _ k => .inl k, r.know, fun p hp => ⟨(r1.trk p hp).1, (r1.trk p hp).2.1, .inl (List.mem_map.2 ⟨p, hp, rfl⟩)⟩, r1.nodup⟩

def PCall (σ : List (Nat × Value)) (h : Hp) (blR : Bl) (d : Nat) (post : Value → Hp → Bl → Prop) (σ' : List (Nat × Value)) (h' : Hp) (bl' : Bl) : Prop :=
  ∃ v nb, post v h' nb ∧ Sub h h' ∧ σ' = (d, v) :: σ ∧ bl' = nb ++ blR
def PCall0 (σ : List (Nat × Value)) (h : Hp) (blR : Bl) (post : Value → Hp → Bl → Prop) (σ' : List (Nat × Value)) (h' : Hp) (bl' : Bl) : Prop :=
  ∃ v nb, post v h' nb ∧ Sub h h' ∧ σ' = σ ∧ bl' = nb ++ blR

theorem E_enter {o : Oper} {f : FuncId} {args : List Value} {blA blR : Bl} {post : Value → Hp → Bl → Prop} (hd : o.dst = some d) (hlt : Nat.blt d N = true)
    (hs : ∀ a w, Fr N σ a → Knows h bl w → (execOp a.eval o).run P w = .ok (.enter f args.toArray) w)
    (hC : Con P f args h blA post) (hsp : Split bl blA blR) : Eff X P N o σ h bl (PCall σ h blR d post) := by
  intro a w ha hr
  rw [Oper.wp, hs a w ha hr.knows, Oper.upon_enter]
  refine (hC w (hr.begin hsp)).mono ?_
  rintro e w' ⟨v, h', nb, rfl, hr', hp⟩
  rw [hd]
  exact ⟨_, _, _, ⟨v, nb, hp, fun b o hb => hr'.old b o hb, rfl, rfl⟩, ha.put (Nat.le_of_ble_eq_true hlt) _, hr.call hsp hr'⟩

theorem E_enter0 {o : Oper} {f : FuncId} {args : List Value} {blA blR : Bl} {post : Value → Hp → Bl → Prop} (hd : o.dst = none)
    (hs : ∀ a w, Fr N σ a → Knows h bl w → (execOp a.eval o).run P w = .ok (.enter f args.toArray) w)
    (hC : Con P f args h blA post) (hsp : Split bl blA blR) : Eff X P N o σ h bl (PCall0 σ h blR post) := by
  intro a w ha hr
  rw [Oper.wp, hs a w ha hr.knows, Oper.upon_enter]
  refine (hC w (hr.begin hsp)).mono ?_
  rintro e w' ⟨v, h', nb, rfl, hr', hp⟩
  rw [hd]
  exact ⟨_, _, _, ⟨v, nb, hp, fun b o hb => hr'.old b o hb, rfl, rfl⟩, ha.put_none _, hr.call hsp hr'⟩

/-- Operands, all at once. -/
def evs (σ : List (Nat × Value)) : List Operand → Option (List Value)
  | [] => some []
  | x :: r => match ev σ x, evs σ r with | some v, some vs => some (v :: vs) | _, _ => none
theorem evs_map {a : Act} (ha : Fr N σ a) : ∀ {l : List Operand} {vs : List Value}, evs σ l = some vs → l.map a.eval = vs
  | [], vs, h => by simp [evs] at h; simp [h]
  | x :: r, vs, h => by
    simp only [evs] at h
    split at h
    · rename_i v us hx hr
      cases h
      simp [ha.eval hx, evs_map ha hr]
    · cases h

theorem run_call {f : FuncId} {fo : Operand} {as : List Operand} {tys : Array TypeId} {vs fs cs : List Value} (hf : ev σ fo = some (.func (.func f) fs.toArray cs.toArray)) (has : evs σ as = some vs)
    (hcf : ∀ args w, (callFunc f args).run P w = .ok (.enter f args) w) (a : Act) (w : World) (ha : Fr N σ a) :
    (execOp a.eval ⟨dst, .call { callee := .value fo, args := as.toArray, argTypes := tys }, ty, pos, aft, g⟩).run P w = .ok (.enter f (fs ++ vs ++ cs).toArray) w := by
  have hd : ∀ args : Array Value, (Deferred.ofValue (.func (.func f) fs.toArray cs.toArray) args).run P w = .ok { target := .fn (.func f) cs.toArray, args := fs.toArray ++ args } w := by
    intro args
    simp [Deferred.ofValue]
  simp only [execOp, resolve, List.map_toArray, evs_map ha has, ha.eval hf, Sem.run_bind, hd, Result.andThen_ok, invoke, hcf]
  simp

theorem E_call {f : FuncId} {fo : Operand} {as : List Operand} {tys : Array TypeId} {vs fs cs : List Value} {blA blR : Bl} {post : Value → Hp → Bl → Prop} (hlt : Nat.blt d N = true)
    (hf : ev σ fo = some (.func (.func f) fs.toArray cs.toArray)) (has : evs σ as = some vs) (hcf : ∀ args w, (callFunc f args).run P w = .ok (.enter f args) w)
    (hC : Con P f (fs ++ vs ++ cs) h blA post) (hsp : Split bl blA blR) :
    Eff X P N ⟨some d, .call { callee := .value fo, args := as.toArray, argTypes := tys }, ty, pos, aft, g⟩ σ h bl (PCall σ h blR d post) :=
  E_enter rfl hlt (fun a w ha _ => run_call hf has hcf a w ha) hC hsp
theorem E_call0 {f : FuncId} {fo : Operand} {as : List Operand} {tys : Array TypeId} {vs fs cs : List Value} {blA blR : Bl} {post : Value → Hp → Bl → Prop}
    (hf : ev σ fo = some (.func (.func f) fs.toArray cs.toArray)) (has : evs σ as = some vs) (hcf : ∀ args w, (callFunc f args).run P w = .ok (.enter f args) w)
    (hC : Con P f (fs ++ vs ++ cs) h blA post) (hsp : Split bl blA blR) :
    Eff X P N ⟨none, .call { callee := .value fo, args := as.toArray, argTypes := tys }, ty, pos, aft, g⟩ σ h bl (PCall0 σ h blR post) :=
  E_enter0 rfl (fun a w ha _ => run_call hf has hcf a w ha) hC hsp

/-! ### A function's begin and end -/
def argF : Nat → List Value → List (Nat × Value)
  | _, [] => []
  | i, v :: r => (i, v) :: argF (i + 1) r
theorem look_argF : ∀ {args : List Value} {i t : Nat} {v : Value}, look (argF i args) t = some v → i ≤ t ∧ args[t - i]? = some v
  | [], i, t, v, h => by simp [argF, look] at h
  | u :: r, i, t, v, h => by
    simp only [argF] at h
    rw [look_cons] at h
    split at h
    · rename_i e; subst e; simpa using h
    · obtain ⟨h1, h2⟩ := look_argF h
      refine ⟨by omega, ?_⟩
      rw [show t - i = t - (i + 1) + 1 by omega]
      simpa using h2

theorem Con_of {f : FuncId} {fn : Func} {c : Code} {args : List Value} {blA : Bl} {post : Value → Hp → Bl → Prop} (hf : P.funcs[f]? = some fn) (hb : fn.body = some c) (hN : fn.ntmps = N) (hle : args.length ≤ N)
    (k : ∀ w, V ⟨w, fun b => b ∈ blA.flatten.map Prod.fst, h⟩ P N (bodyPost P fn (Ret w blA h post)) c (argF 0 args) h blA) : Con P f args h blA post := by
  intro w hw
  refine calls_of_wp hf hb (k w _ w ⟨rfl, ?_, fun t v ht => ?_⟩ hw)
  · simp [hN]; omega
  · obtain ⟨_, h2⟩ := look_argF ht
    simp only [Nat.sub_zero] at h2
    have hlt : t < args.length := by
      rcases Nat.lt_or_ge t args.length with h' | h'
      · exact h'
      · simp [List.getElem?_eq_none h'] at h2
    rw [Array.getElem?_append_left (by simpa using hlt)]
    simpa using h2

/-- One result. -/
def RV (P : Program) (N : Nat) (σ : List (Nat × Value)) (h : Hp) (bl : Bl) (r : ResultVar) (v : Value) : Prop :=
  ∀ a w, Fr N σ a → Knows h bl w → (match r with | .tmp t => (pure (a.tmps.getD t undef) : Sem Value) | .cell p t => do loadVar t (← asAddr (a.tmps.getD p undef))).run P w = .ok v w
theorem getD_of {a : Act} {t : Nat} {v : Value} (ha : Fr N σ a) (ht : look σ t = some v) : a.tmps.getD t undef = v := by
  simp [Array.getD_eq_getD_getElem?, ha.at_ t v ht]
theorem RV_tmp {t : Nat} {v : Value} (ht : look σ t = some v) : RV P N σ h bl (.tmp t) v := by
  intro a w ha _
  simp [getD_of ha ht]
theorem RV_cell {p : Nat} {t : TypeId} {D : TypeDesc} {b off : Nat} {v : Value} (hu : P.underlying t = some D) (hd : aggd D = false) (hp : look σ p = some (.pointer (some ⟨b, off, none⟩))) (hc : Cell h bl b off v) :
    RV P N σ h bl (.cell p t) v := by
  intro a w ha hk
  simp only [getD_of ha hp, asAddr, loadVar, Sem.run_bind, Sem.run_pure, Result.andThen_ok, run_isAgg w hu, hd, Bool.false_eq_true, if_false, run_load (hc.at_ hk)]
theorem RV_cells {p : Nat} {t : TypeId} {D : TypeDesc} {b off : Nat} {vs : List Value} {i : TypeInfo} (hu : P.underlying t = some D) (hd : aggd D = true) (hi : P.info? t = some i) (hs : i.size = vs.length)
    (hp : look σ p = some (.pointer (some ⟨b, off, none⟩))) (hc : Cells h bl b off vs) : RV P N σ h bl (.cell p t) (.agg vs.toArray) := by
  intro a w ha hk
  have := run_loadCells (P := P) vs off 0 #[] (by simpa using hc.at_ hk)
  simp only [getD_of ha hp, asAddr, loadVar, Sem.run_bind, Sem.run_pure, Result.andThen_ok, run_isAgg w hu, hd, if_true, run_size w hi, hs, loadCells, this]
  simp

theorem andThen_of {α β : Type} {x : Result α} {f : α → World → Result β} {v : β} {w : World} (e : x.andThen f = .ok v w) : ∃ a w1, x = .ok a w1 ∧ f a w1 = .ok v w := by
  cases x with
  | ok a w' => exact ⟨a, w', rfl, by simpa using e⟩
  | halt a w' => cases e

theorem RV.run {p : Nat} {t : TypeId} {v : Value} {a : Act} {w : World} (k : RV P N σ h bl (.cell p t) v) (ha : Fr N σ a) (hk : Knows h bl w) :
    ∃ q w1, (asAddr (a.tmps[p]?.getD undef)).run P w = .ok q w1 ∧ (loadVar t q).run P w1 = .ok v w := by
  have := k a w ha hk
  simp only [Sem.run_bind, Array.getD_eq_getD_getElem?] at this
  exact andThen_of this
theorem RV.tmp {t : Nat} {v : Value} {a : Act} {w : World} (k : RV P N σ h bl (.tmp t) v) (ha : Fr N σ a) (hk : Knows h bl w) : a.tmps[t]?.getD undef = v := by
  simpa using k a w ha hk

theorem bodyPost_of {fn : Func} {R : Ending → World → Prop} {e : Exit} (he : e = .normal ∨ e = .ret) {v : Value}
    (hres : ∀ a w, Fr N σ a → Knows h bl w → (results fn a.tmps).run P w = .ok v w) (hR : ∀ w, Rel X h bl w → R (.returned v) w) : VQ X N (bodyPost P fn R) e σ h bl := by
  intro a w ha hr
  rcases he with rfl | rfl <;> exact ⟨ha.defers, v, hres a w ha hr.knows, hR w hr⟩

theorem Ret_of {w0 : World} {blA nb : Bl} {h0 : Hp} {post : Value → Hp → Bl → Prop} {v : Value} (hb : SubB bl nb) (hp : post v h nb) :
    ∀ w, Rel ⟨w0, fun b => b ∈ blA.flatten.map Prod.fst, h0⟩ h bl w → Ret w0 blA h0 post (.returned v) w :=
  fun w hr => ⟨v, h, nb, rfl, hr.sub hb, hp⟩

section ends
variable {w0 : World} {blA nb : Bl} {h0 : Hp} {post : Value → Hp → Bl → Prop} {fn : Func} {e : Exit}
theorem VQ_fin0 (he : e = .normal ∨ e = .ret) (hr : fn.results = #[]) (hb : SubB bl nb) (hp : post (.tuple #[]) h nb) :
    VQ ⟨w0, fun b => b ∈ blA.flatten.map Prod.fst, h0⟩ N (bodyPost P fn (Ret w0 blA h0 post)) e σ h bl :=
  bodyPost_of he (fun a w _ _ => results_none hr _ _ _) (Ret_of hb hp)
theorem VQ_fin1 {r : ResultVar} {v : Value} (he : e = .normal ∨ e = .ret) (hr : fn.results = #[r]) (h1 : RV P N σ h bl r v) (hb : SubB bl nb) (hp : post v h nb) :
    VQ ⟨w0, fun b => b ∈ blA.flatten.map Prod.fst, h0⟩ N (bodyPost P fn (Ret w0 blA h0 post)) e σ h bl := by
  refine bodyPost_of he (fun a w ha hk => ?_) (Ret_of hb hp)
  cases r with
  | tmp t => have k1 := h1.tmp ha hk; simp [results, hr, k1]
  | cell p t =>
    obtain ⟨q, w1, e1, e2⟩ := h1.run ha hk
    simp [results, hr, e1, e2]
theorem VQ_fin2 {r s : ResultVar} {v u : Value} (he : e = .normal ∨ e = .ret) (hr : fn.results = #[r, s]) (h1 : RV P N σ h bl r v) (h2 : RV P N σ h bl s u) (hb : SubB bl nb) (hp : post (.tuple #[v, u]) h nb) :
    VQ ⟨w0, fun b => b ∈ blA.flatten.map Prod.fst, h0⟩ N (bodyPost P fn (Ret w0 blA h0 post)) e σ h bl := by
  refine bodyPost_of he (fun a w ha hk => ?_) (Ret_of hb hp)
  cases r <;> cases s <;> (first | have k1 := h1.tmp ha hk | obtain ⟨q1, w1, e1, e1'⟩ := h1.run ha hk) <;> (first | have k2 := h2.tmp ha hk | obtain ⟨q2, w2, e2, e2'⟩ := h2.run ha hk) <;> simp_all [results]
theorem VQ_fin3 {r s q : ResultVar} {v u x : Value} (he : e = .normal ∨ e = .ret) (hr : fn.results = #[r, s, q]) (h1 : RV P N σ h bl r v) (h2 : RV P N σ h bl s u) (h3 : RV P N σ h bl q x) (hb : SubB bl nb)
    (hp : post (.tuple #[v, u, x]) h nb) : VQ ⟨w0, fun b => b ∈ blA.flatten.map Prod.fst, h0⟩ N (bodyPost P fn (Ret w0 blA h0 post)) e σ h bl := by
  refine bodyPost_of he (fun a w ha hk => ?_) (Ret_of hb hp)
  cases r <;> cases s <;> cases q <;> (first | have k1 := h1.tmp ha hk | obtain ⟨q1, w1, e1, e1'⟩ := h1.run ha hk) <;> (first | have k2 := h2.tmp ha hk | obtain ⟨q2, w2, e2, e2'⟩ := h2.run ha hk) <;>
    (first | have k3 := h3.tmp ha hk | obtain ⟨q3, w3, e3, e3'⟩ := h3.run ha hk) <;> simp_all [results]
end ends
end
end Go.Proofs.Ytdglignjoojimaa
