/- The judgements over code, operations and exits, and the rules of control. No conditions. -/
import Derived.Test.YtdglignjoojimaaSx1
namespace Go.Proofs.Ytdglignjoojimaa

def V (X : Cx) (P : Program) (N : Nat) (Q : Exit → Act → World → Prop) (c : Code) (σ : List (Nat × Value)) (h : Hp) (bl : Bl) : Prop :=
  ∀ a w, Fr N σ a → Rel X h bl w → c.wp P Q a w
def VL (X : Cx) (P : Program) (N : Nat) (ops : Array Oper) (Q : Exit → Act → World → Prop) (l : List Oper) (σ : List (Nat × Value)) (h : Hp) (bl : Bl) : Prop :=
  ∀ a w, Fr N σ a → Rel X h bl w → wpList P ops Q l a w
def VQ (X : Cx) (N : Nat) (Q : Exit → Act → World → Prop) (e : Exit) (σ : List (Nat × Value)) (h : Hp) (bl : Bl) : Prop :=
  ∀ a w, Fr N σ a → Rel X h bl w → Q e a w

section
variable {X : Cx} {P : Program} {N : Nat} {Q : Exit → Act → World → Prop} {σ : List (Nat × Value)} {h : Hp} {bl : Bl}

theorem V_seq {x y : Code} (k : V X P N (Exit.then (y.wp P Q) Q) x σ h bl) : V X P N Q (.seq x y) σ h bl :=
  fun a w ha hw => wp_seq (k a w ha hw)
theorem VQ_then {y : Code} (k : V X P N Q y σ h bl) : VQ X N (Exit.then (y.wp P Q) Q) .normal σ h bl := k
theorem VQ_then_ret {K : Act → World → Prop} (k : VQ X N Q .ret σ h bl) : VQ X N (Exit.then K Q) .ret σ h bl := k
theorem VQ_then_exit {K : Act → World → Prop} {id : Nat} (k : VQ X N Q (.exit id) σ h bl) : VQ X N (Exit.then K Q) (.exit id) σ h bl := k
theorem V_block {id : Nat} {c : Code} (k : V X P N (Exit.inBlock id Q) c σ h bl) : V X P N Q (.block id c) σ h bl :=
  fun a w ha hw => wp_block (k a w ha hw)
theorem VQ_block_normal {id : Nat} (k : VQ X N Q .normal σ h bl) : VQ X N (Exit.inBlock id Q) .normal σ h bl := k
theorem VQ_block_ret {id : Nat} (k : VQ X N Q .ret σ h bl) : VQ X N (Exit.inBlock id Q) .ret σ h bl := k
theorem VQ_block_exit {id : Nat} (k : VQ X N Q .normal σ h bl) : VQ X N (Exit.inBlock id Q) (.exit id) σ h bl := by
  intro a w ha hw
  simp only [Exit.inBlock, if_true]
  exact k a w ha hw
theorem VQ_block_past {id id' : Nat} (hne : Nat.beq id' id = false) (k : VQ X N Q (.exit id') σ h bl) : VQ X N (Exit.inBlock id Q) (.exit id') σ h bl := by
  intro a w ha hw
  have : id' ≠ id := fun e => by subst e; simp at hne
  simp only [Exit.inBlock, this, if_false]
  exact k a w ha hw
theorem V_cond {c : Operand} {x y : Code} {t : Bool} (hc : ev σ c = some (.bool t)) (ht : t = true → V X P N Q x σ h bl) (hf : t = false → V X P N Q y σ h bl) :
    V X P N Q (.cond c x y) σ h bl :=
  fun a w ha hw => wp_cond_split (ha.eval hc) (fun e => ht e a w ha hw) (fun e => hf e a w ha hw)
theorem V_cond_true {c : Operand} {x y : Code} (hc : ev σ c = some (.bool true)) (k : V X P N Q x σ h bl) : V X P N Q (.cond c x y) σ h bl :=
  fun a w ha hw => wp_cond_true (ha.eval hc) (k a w ha hw)
theorem V_cond_false {c : Operand} {x y : Code} (hc : ev σ c = some (.bool false)) (k : V X P N Q y σ h bl) : V X P N Q (.cond c x y) σ h bl :=
  fun a w ha hw => wp_cond_false (ha.eval hc) (k a w ha hw)
theorem V_ret (k : VQ X N Q .ret σ h bl) : V X P N Q .ret σ h bl := fun a w ha hw => wp_ret (k a w ha hw)
theorem V_skip (k : VQ X N Q .normal σ h bl) : V X P N Q .skip σ h bl := fun a w ha hw => wp_skip (k a w ha hw)
theorem V_exit {id : Nat} (k : VQ X N Q (.exit id) σ h bl) : V X P N Q (.exit id) σ h bl := fun a w ha hw => wp_exit (k a w ha hw)
theorem V_label {l : Nat} (k : VQ X N Q .normal σ h bl) : V X P N Q (.label l) σ h bl := fun a w ha hw => wp_label (k a w ha hw)
theorem V_region {id : Nat} {l : List Oper} (k : VL X P N l.toArray Q l σ h bl) : V X P N Q (.region id l.toArray false) σ h bl :=
  fun a w ha hw => wp_region_lit (k a w ha hw)
theorem VL_nil {ops : Array Oper} (k : VQ X N Q .normal σ h bl) : VL X P N ops Q [] σ h bl := k

theorem V_weak {c : Code} {σ' : List (Nat × Value)} {bl' : Bl} (hs : SubF σ σ') (hb : SubB bl bl') (k : V X P N Q c σ' h bl') : V X P N Q c σ h bl :=
  fun a w ha hw => k a w (ha.sub hs) (hw.sub hb)
theorem V_keep {c : Code} {G : Gr} {bl' : Bl} (hp : Pick bl G bl') (k : V X P N Q c σ (addH h G) bl') : V X P N Q c σ h bl :=
  fun a w ha hw => k a w ha (hw.perm hp.perm).keep
theorem VL_keep {ops : Array Oper} {l : List Oper} {G : Gr} {bl' : Bl} (hp : Pick bl G bl') (k : VL X P N ops Q l σ (addH h G) bl') : VL X P N ops Q l σ h bl :=
  fun a w ha hw => k a w ha (hw.perm hp.perm).keep
theorem VQ_keep {e : Exit} {G : Gr} {bl' : Bl} (hp : Pick bl G bl') (k : VQ X N Q e σ (addH h G) bl') : VQ X N Q e σ h bl :=
  fun a w ha hw => k a w ha (hw.perm hp.perm).keep
theorem VL_weak {ops : Array Oper} {l : List Oper} {σ' : List (Nat × Value)} {bl' : Bl} (hs : SubF σ σ') (hb : SubB bl bl') (k : VL X P N ops Q l σ' h bl') : VL X P N ops Q l σ h bl :=
  fun a w ha hw => k a w (ha.sub hs) (hw.sub hb)

/-- What the rest of a loop, or of a sequence, is reached with: one of a family of states. -/
def Mid {ι : Type} (X : Cx) (N : Nat) (pre : ι → Prop) (S : ι → List (Nat × Value)) (H : ι → Hp) (B : ι → Bl) (a : Act) (w : World) : Prop :=
  ∃ j, pre j ∧ Fr N (S j) a ∧ Rel X (H j) (B j) w

theorem VQ_mid {ι : Type} {pre : ι → Prop} {S : ι → List (Nat × Value)} {H : ι → Hp} {B : ι → Bl} (j : ι) (hp : pre j) (hs : SubF σ (S j)) (hh : h = H j) (hb : SubB bl (B j)) :
    VQ X N (Exit.then (Mid X N pre S H B) Q) .normal σ h bl :=
  fun _ _ ha hw => ⟨j, hp, ha.sub hs, hh ▸ hw.sub hb⟩

theorem V_seq_mid {ι : Type} {x y : Code} (pre : ι → Prop) (S : ι → List (Nat × Value)) (H : ι → Hp) (B : ι → Bl)
    (k : V X P N (Exit.then (Mid X N pre S H B) Q) x σ h bl) (k' : ∀ j, pre j → V X P N Q y (S j) (H j) (B j)) : V X P N Q (.seq x y) σ h bl := by
  intro a w ha hw
  refine wp_seq (Code.wp_mono ?_ (k a w ha hw))
  intro e a' w' hq
  cases e with
  | normal => obtain ⟨j, hp, hf, hr⟩ := hq; exact k' j hp a' w' hf hr
  | _ => exact hq

theorem V_loop {ι : Type} {body : Code} (m : ι → Nat) (pre : ι → Prop) (S : ι → List (Nat × Value)) (H : ι → Hp) (B : ι → Bl)
    (i0 : ι) (hp : pre i0) (hs : SubF σ (S i0)) (hh : h = H i0) (hb : SubB bl (B i0))
    (round : ∀ i, pre i → V X P N (Exit.then (Mid X N (fun j => pre j ∧ m j < m i) S H B) Q) body (S i) (H i) (B i)) : V X P N Q (.loop body) σ h bl := by
  intro a w ha hw b k cs
  have key : ∀ n i, m i = n → pre i → ∀ a w, Fr N (S i) a → Rel X (H i) (B i) w →
      ∃ e a' w', Q e a' w' ∧ Arrives P (lone (b.at a (.code body :: .inLoop body :: k)) cs w) b k cs e a' w' := by
    intro n
    induction n using Nat.strongRecOn with
    | _ n ih =>
      intro i hn hpi a w ha hw
      obtain ⟨e, a₁, w₁, hq, harr⟩ := round i hpi a w ha hw b (.inLoop body :: k) cs
      cases e with
      | normal =>
        obtain ⟨j, ⟨hpj, hlt⟩, hf, hr⟩ := hq
        obtain ⟨e₂, a₂, w₂, hq₂, harr₂⟩ := ih (m j) (hn ▸ hlt) j rfl hpj a₁ w₁ hf hr
        exact ⟨e₂, a₂, w₂, hq₂, .of_steps (Steps.trans harr (.one step_inLoop)) harr₂⟩
      | exit id => exact ⟨_, a₁, w₁, hq, .pass (x := .inLoop body) rfl (fun _ _ => .inl (by simp)) harr⟩
      | goto l => exact ⟨_, a₁, w₁, hq, .pass (x := .inLoop body) rfl (fun _ _ => .inl (by simp)) harr⟩
      | ret => exact ⟨_, a₁, w₁, hq, .pass (x := .inLoop body) rfl (fun _ _ => .inl (by simp)) harr⟩
      | panic ch => exact ⟨_, a₁, w₁, hq, .pass (x := .inLoop body) rfl (fun _ _ => .inl (by simp)) harr⟩
      | outgrown => exact ⟨_, a₁, w₁, hq, .pass (x := .inLoop body) rfl (fun _ _ => .inl (by simp)) harr⟩
  obtain ⟨e, a', w', hq, harr⟩ := key _ i0 rfl hp a w (ha.sub hs) (hh ▸ hw.sub hb)
  exact ⟨e, a', w', hq, .of_steps (.one step_loop) harr⟩
end
end Go.Proofs.Ytdglignjoojimaa
