/- Code of the deterministic machine against the real one: regions, branches, loops, jumps, calls. -/
import Derived.Test.YtcobmomjdbmacaaDoorDetStep
import Derived.Scope
set_option linter.unusedVariables false
set_option linter.unusedSimpArgs false
set_option linter.unusedSectionVars false
namespace Go.Det
open Go.RowKit

section
variable {P : Program} {w0 : World}

/-- A state of the machine, and the real one. -/
structure SRel (P : Program) (μ : Mu) (w0 : World) (s : St) (a : Act) (w : World) : Prop where
  ts : VRels μ s.1 a.tmps.toList
  df : a.defers = []
  W : WRel μ w0 0 s.2 w

theorem ev_rel {μ : Mu} {ng : Nat} {h : H} {w : World} (W : WRel μ w0 ng h w) {ts : List AV} {a : Act} (ht : VRels μ ts a.tmps.toList) : ∀ x X, ofOpd P x = some X → VRel μ (ev ts X) (a.eval x) := by
  intro x X hx
  cases x with
  | tmp t =>
    simp only [ofOpd, Option.some.injEq] at hx
    subst hx
    simp only [ev, Act.eval]
    cases e : getL ts t with
    | none =>
      have := ht.get_none e
      have h2 : a.tmps[t]? = none := by simpa using this
      simp only [Option.getD_none, Array.getD_eq_getD_getElem?, h2]
      exact ⟨_, rfl, rfl⟩
    | some v =>
      obtain ⟨v', h1, h2⟩ := ht.get e
      have h3 : a.tmps[t]? = some v' := by simpa using h1
      simpa only [Option.getD_some, Array.getD_eq_getD_getElem?, h3] using h2
  | const v =>
    simp only [ofOpd, Option.map_eq_some_iff] at hx
    obtain ⟨z, h1, rfl⟩ := hx
    exact (ofVal_rel μ big).1 _ _ h1
  | global g =>
    simp [ofOpd] at hx
  | func f =>
    simp only [ofOpd, Option.some.injEq] at hx
    subst hx
    exact ⟨#[], #[], rfl, rfl, rfl⟩

/-- What a call of the machine says of a call of the real one. -/
def CallOk (P : Program) (w0 : World) (cf : CallF) : Prop := ∀ (f : FuncId) (args : List AV) (h : H) (v : AV) (h' : H), cf f args h = some (v, h') → ∀ (μ : Mu) (w : World) (args' : Array Value), VRels μ args args'.toList → WRel μ w0 0 h w →
  (∃ fn, P.funcs[f]? = some fn ∧ fn.body.isSome = true ∧ (fn.name == "runtime.NumGoroutine") = false) ∧
  Calls P f args' w fun e w' => ∃ v' μ', e = .returned v' ∧ VRel μ' v v' ∧ WRel μ' w0 0 h' w' ∧ Adv μ h w μ' h' w'

theorem append_val {h : H} {e sz bytes : Nat} {x y : AV} {f : FuncId} {args : List AV} : append h e sz bytes x y ≠ some (.call f args) := by
  intro hi
  unfold append at hi
  repeat' split at hi
  all_goals simp at hi

theorem iop_is_call {X : IOp} {ρA : IX → AV} {h : H} {f : FuncId} {args : List AV} (hi : iop X ρA h = some (.call f args)) :
    (∃ as, X = .call f as ∧ args = as.map ρA) ∨ ∃ g as first cap, X = .callv g as ∧ ρA g = .fn (.func f) first cap ∧ args = first ++ as.map ρA ++ cap := by
  cases X with
  | call g as => simp only [iop, Option.some.injEq, Ans.call.injEq] at hi; obtain ⟨rfl, rfl⟩ := hi; exact .inl ⟨as, rfl, rfl⟩
  | callv g as =>
    simp only [iop] at hi
    split at hi
    · rename_i f' first cap he
      simp only [Option.some.injEq, Ans.call.injEq] at hi
      obtain ⟨rfl, rfl⟩ := hi
      exact .inr ⟨g, as, first, cap, rfl, he, rfl⟩
    · simp at hi
  | app e sz bytes st x y =>
    simp only [iop] at hi
    split at hi
    · exact absurd hi append_val
    · simp at hi
  | _ =>
    simp only [iop] at hi
    repeat' split at hi
    all_goals simp at hi

theorem comp_call {op : Op} {ty : TypeId} {X : IOp} (hc : compOp P op ty = some X) (hX : (∃ f as, X = .call f as) ∨ ∃ g as, X = .callv g as) : ∃ c, op = .call c := by
  cases op with
  | call c => exact ⟨c, rfl⟩
  | _ =>
    exfalso
    rcases hX with ⟨f, as, rfl⟩ | ⟨g, as, rfl⟩
    all_goals
      simp only [compOp] at hc
      repeat' split at hc
      all_goals first | (simp [Option.bind_eq_some_iff] at hc; done) | (rename_i hq; cases hq; done)

theorem iop_call {op : Op} {ty : TypeId} {X : IOp} (hc : compOp P op ty = some X) {ts : List AV} {μ : Mu} {ρ : Operand → Value} (hρ : ∀ x ∈ op.operands, ∀ X, ofOpd P x = some X → VRel μ (ev ts X) (ρ x)) {h : H} {f : FuncId} {args : List AV} (hi : iop X (ev ts) h = some (.call f args))
    (dst : Option Tmp) (pos : String) (after : Array Edge) (guard : Option (Nat × Bool)) (w : World) : ∃ args' : Array Value, (execOp ρ ⟨dst, op, ty, pos, after, guard⟩).run P w = (callFunc f args').run P w ∧ VRels μ args args'.toList := by
  have hX := iop_is_call hi
  obtain ⟨c, rfl⟩ := comp_call hc (by rcases hX with ⟨as, h, _⟩ | ⟨g, as, _, _, h, _⟩; exact .inl ⟨_, _, h⟩; exact .inr ⟨_, _, h⟩)
  obtain ⟨callee, cargs, ats⟩ := c
  simp only [compOp, compCall] at hc
  split at hc
  · simp at hc
  · rename_i iargs hargs
    have hrel : VRels μ (iargs.map (ev ts)) (cargs.map ρ).toList := by
      have := ofOpds_rel (μ := μ) (ρA := ev ts) (ρ := ρ) cargs.toList iargs (fun y hy => hρ y (by simp at hy; simp [Op.operands, Call.operands, hy])) hargs
      simpa using this
    split at hc
    · rename_i g
      split at hc
      · split at hc
        · simp only [Option.some.injEq] at hc
          subst hc
          simp only [iop, Option.some.injEq, Ans.call.injEq] at hi
          obtain ⟨rfl, rfl⟩ := hi
          obtain ⟨p, q, h1, h2, h3⟩ : VRel μ (.fn (.func g) [] []) (ρ (.func g)) := hρ (.func g) (by simp [Op.operands, Call.operands]) _ rfl
          have hp : p = #[] := by cases p; cases h2; rfl
          have hq : q = #[] := by cases q; cases h3; rfl
          subst hp; subst hq
          exact ⟨cargs.map ρ, by simp [execOp, resolve, h1, Deferred.ofValue, invoke], hrel⟩
        · unfold extOf at hc
          split at hc
          · simp only [Option.some.injEq] at hc
            subst hc
            simp [iop] at hi
          · simp at hc
      · simp at hc
    · rename_i g _
      obtain ⟨X', hg, rfl⟩ := Option.map_eq_some_iff.1 hc
      simp only [iop] at hi
      split at hi
      · rename_i f' first cap he
        simp only [Option.some.injEq, Ans.call.injEq] at hi
        obtain ⟨rfl, rfl⟩ := hi
        have := hρ g (by simp [Op.operands, Call.operands]) _ hg
        rw [he] at this
        obtain ⟨p, q, h1, h2, h3⟩ := this
        exact ⟨p ++ cargs.map ρ ++ q, by simp [execOp, resolve, h1, Deferred.ofValue, invoke], by simpa using (h2.append hrel).append h3⟩
      · simp at hi
    · simp at hc
    · rename_i b
      exfalso
      rcases hX with ⟨as, h, _⟩ | ⟨g, as, _, _, h, _⟩
      all_goals
        subst h
        repeat' split at hc
        all_goals simp at hc

/-- One operation. -/
theorem oper_wp {cf : CallF} (hcf : CallOk P w0 cf) {o : Oper} {X : IOp} (hc : compOp P o.op o.type = some X) {ts : List AV} {h : H} {v : AV} {h' : H} (ho : oneOp cf X ts h = some (v, h')) {μ : Mu} {a : Act} {w : World} (hρ : ∀ x ∈ o.op.operands, ∀ X, ofOpd P x = some X → VRel μ (ev ts X) (a.eval x))
    (W : WRel μ w0 0 h w) {K : Act → World → Prop} {Q : Exit → Act → World → Prop} (hK : ∀ v' w' μ', VRel μ' v v' → WRel μ' w0 0 h' w' → Adv μ h w μ' h' w' → K (a.put o.dst v') w') : o.wp P a w K Q := by
  obtain ⟨dst, op, ty, pos, after, guard⟩ := o
  unfold oneOp at ho
  split at ho
  · rename_i v1 h1 hi
    simp only [Option.some.injEq, Prod.mk.injEq] at ho
    obtain ⟨rfl, rfl⟩ := ho
    obtain ⟨nx, v', w', μ', h2, h3, h4, h5, h6⟩ := iop_sound hc hρ W hi dst pos after guard
    unfold Oper.wp
    rw [h2]
    rcases h3 with rfl | ⟨rfl, rfl⟩
    · exact hK v' w' μ' h4 h5 h6
    · exact hK undef w' μ' h4 h5 h6
  · rename_i f args hi
    obtain ⟨args', h2, h3⟩ := iop_call hc hρ hi dst pos after guard w
    obtain ⟨⟨fn, h4, h5, h6⟩, h7⟩ := hcf f args h v h' ho μ w args' h3 W
    unfold Oper.wp
    have hr : (callFunc f args').run P w = .ok (.enter f args') w := by
      have : fn.body.isNone = false := by simpa using h5
      simp only [callFunc, Sem.run_bind, run_program, Result.andThen_ok, h4, h6, this, Bool.false_eq_true, if_false, Sem.run_pure]
    rw [h2, hr]
    simp only [Oper.upon_enter]
    refine h7.mono ?_
    rintro e w' ⟨v', μ', rfl, h8, h9, h10⟩
    exact hK v' w' μ' h8 h9 h10
  · simp at ho

theorem SRel.put {μ : Mu} {s : St} {a : Act} {w : World} (S : SRel P μ w0 s a w) {μ' : Mu} {h' : H} {w' : World} {v : AV} {v' : Value} (A : Adv μ s.2 w μ' h' w') (W : WRel μ' w0 0 h' w') (hv : VRel μ' v v') (d : Option Nat) :
    SRel P μ' w0 (put s.1 d v, h') (a.put d v') w' := by
  have ht := VRels.mono A.le _ _ S.ts
  cases d with
  | none => exact ⟨ht, S.df, W⟩
  | some d => exact ⟨by simpa [Det.put, Act.put, Array.toList_setIfInBounds] using ht.set d hv, S.df, W⟩

theorem wanted_rel {μ : Mu} {ts : List AV} {a : Act} (ht : VRels μ ts a.tmps.toList) {ops : Array Oper} {o : Oper} {O : IOper} (hc : compOper P ops o = some O) : Region.wanted o (yielded ops a.tmps) = wanted O.guard ts := by
  unfold compOper at hc
  split at hc
  · simp at hc
  · split at hc
    · rename_i hg
      simp only [Option.some.injEq] at hc
      subst hc
      simp [Region.wanted, hg, Det.wanted]
    · rename_i j wt hg
      split at hc
      · rename_i d hd
        simp only [Option.some.injEq] at hc
        subst hc
        simp only [Region.wanted, hg, Det.wanted, yielded, hd, Option.bind_some]
        cases e : getL ts d with
        | none =>
          have h2 : a.tmps[d]? = none := by simpa using ht.get_none e
          simp [h2]
        | some v =>
          obtain ⟨v', h1, h2⟩ := ht.get e
          have h3 : a.tmps[d]? = some v' := by simpa using h1
          simp only [h3]
          cases v <;> first
            | (cases h2; rfl)
            | (cases h2; simp; done)
            | (obtain ⟨_, _, rfl⟩ := h2; rfl)
            | (obtain ⟨_, _, rfl, _⟩ := h2; rfl)
            | (obtain ⟨_, rfl, _⟩ := h2; rfl)
            | (obtain ⟨_, _, rfl⟩ := sl_of h2; rfl)
      · simp at hc

theorem runOps_wp {cf : CallF} (hcf : CallOk P w0 cf) {ops : Array Oper} {Q : Exit → Act → World → Prop} : ∀ (l : List Oper) (L : List IOper), compOpers P ops l = some L → ∀ (s s' : St), runOps cf L s.1 s.2 = some s' → ∀ (μ : Mu) (a : Act) (w : World), SRel P μ w0 s a w →
    (∀ μ' a' w', SRel P μ' w0 s' a' w' → Adv μ s.2 w μ' s'.2 w' → Q .normal a' w') → wpList P ops Q l a w
  | [], L, hL, s, s', hr, μ, a, w, S, hQ => by
    simp only [compOpers, Option.some.injEq] at hL
    subst hL
    simp only [runOps, Option.some.injEq] at hr
    subst hr
    exact hQ μ a w S (Adv.refl _ _ _)
  | o :: l, L, hL, s, s', hr, μ, a, w, S, hQ => by
    simp only [compOpers] at hL
    split at hL
    · rename_i O R h1 h2
      simp only [Option.some.injEq] at hL
      subst hL
      simp only [runOps] at hr
      have hw := wanted_rel S.ts h1
      unfold wpList
      split at hr
      · rename_i hwant
        rw [if_pos (hw.trans hwant)]
        left
        split at hr
        · rename_i v h' hone
          have hcomp : compOp P o.op o.type = some O.op ∧ O.dst = o.dst := by
            unfold compOper at h1
            split at h1
            · simp at h1
            · rename_i X hX
              split at h1
              · simp only [Option.some.injEq] at h1; subst h1; exact ⟨hX, rfl⟩
              · split at h1
                · simp only [Option.some.injEq] at h1; subst h1; exact ⟨hX, rfl⟩
                · simp at h1
          refine oper_wp hcf hcomp.1 hone (fun x _ X hx => ev_rel S.W S.ts x X hx) S.W ?_
          intro v' w' μ' hv W' A'
          rw [← hcomp.2]
          exact runOps_wp hcf l R h2 (put s.1 O.dst v, h') s' hr μ' _ w' (S.put A' W' hv O.dst) (fun μ2 a2 w2 S2 A2 => hQ μ2 a2 w2 S2 (A'.trans A2))
        · simp at hr
      · rename_i hwant
        rw [if_neg (by rw [hw]; exact hwant)]
        have hd : O.dst = o.dst := by
          unfold compOper at h1
          split at h1
          · simp at h1
          · split at h1
            · simp only [Option.some.injEq] at h1; subst h1; rfl
            · split at h1
              · simp only [Option.some.injEq] at h1; subst h1; rfl
              · simp at h1
        rw [← hd]
        exact runOps_wp hcf l R h2 (put s.1 O.dst .undef, s.2) s' hr μ _ w (S.put (v := .undef) (v' := undef) (Adv.refl _ _ _) S.W ⟨_, rfl, rfl⟩ O.dst) hQ
    · simp at hL


/-! ### Code -/

def Ex.real : Ex → Exit
  | .normal => .normal
  | .exit i => .exit i
  | .goto l => .goto l
  | .ret => .ret

/-- What stands behind a code. -/
def Post (P : Program) (w0 : World) (μ : Mu) (h : H) (w : World) (e : Ex) (s' : St) : Exit → Act → World → Prop := fun e' a' w' => e' = e.real ∧ ∃ μ', SRel P μ' w0 s' a' w' ∧ Adv μ h w μ' s'.2 w'

theorem Post.trans {μ μ1 : Mu} {h h1 : H} {w w1 : World} (A : Adv μ h w μ1 h1 w1) {e : Ex} {s' : St} {e' : Exit} {a' : Act} {w' : World} (p : Post P w0 μ1 h1 w1 e s' e' a' w') : Post P w0 μ h w e s' e' a' w' := by
  obtain ⟨he, μ', S, A'⟩ := p
  exact ⟨he, μ', S, A.trans A'⟩

/-- A code within a loop. -/
def wpL (P : Program) (c : Code) (Q : Exit → Act → World → Prop) (a : Act) (w : World) : Prop :=
  ∀ (b : Frame) (k : List Item) (cs : List Frame), ∃ e a' w', Q e a' w' ∧ Arrives P (lone (b.at a (.code c :: .inLoop c :: k)) cs w) b k cs e a' w'

theorem wpL_step {c : Code} {Q : Exit → Act → World → Prop} {a : Act} {w : World} (h : c.wp P (Exit.then (wpL P c Q) Q) a w) : wpL P c Q a w := by
  intro b k cs
  obtain ⟨e, a₁, w₁, hq, harr⟩ := h b (.inLoop c :: k) cs
  cases e with
  | normal =>
    obtain ⟨e₂, a₂, w₂, hq₂, harr₂⟩ := hq b k cs
    exact ⟨e₂, a₂, w₂, hq₂, .of_steps (Steps.trans harr (.one step_inLoop)) harr₂⟩
  | exit id => exact ⟨_, a₁, w₁, hq, .pass (x := .inLoop c) rfl (fun _ _ => .inl (by simp)) harr⟩
  | goto l => exact ⟨_, a₁, w₁, hq, .pass (x := .inLoop c) rfl (fun _ _ => .inl (by simp)) harr⟩
  | ret => exact ⟨_, a₁, w₁, hq, .pass (x := .inLoop c) rfl (fun _ _ => .inl (by simp)) harr⟩
  | panic ch => exact ⟨_, a₁, w₁, hq, .pass (x := .inLoop c) rfl (fun _ _ => .inl (by simp)) harr⟩
  | outgrown => exact ⟨_, a₁, w₁, hq, .pass (x := .inLoop c) rfl (fun _ _ => .inl (by simp)) harr⟩

theorem wp_of_wpL {c : Code} {Q : Exit → Act → World → Prop} {a : Act} {w : World} (h : wpL P c Q a w) : (Code.loop c).wp P Q a w := by
  intro b k cs
  obtain ⟨e, a', w', hq, harr⟩ := h b k cs
  exact ⟨e, a', w', hq, .of_steps (.one step_loop) harr⟩

/-- A code within a scope, behind a jump. -/
def wpS (P : Program) (c r : Code) (Q : Exit → Act → World → Prop) (a : Act) (w : World) : Prop :=
  ∀ (b : Frame) (k : List Item) (cs : List Frame), ∃ e a' w', Q e a' w' ∧ Arrives P (lone (b.at a (.code r :: .inScope c :: k)) cs w) b k cs e a' w'

def ScopeQ (P : Program) (c : Code) (Q : Exit → Act → World → Prop) : Exit → Act → World → Prop
  | .goto l, a, w => match findLabel c l with
    | some r => wpS P c r Q a w
    | none => Q (.goto l) a w
  | e, a, w => Q e a w

theorem wpS_step {c r : Code} {Q : Exit → Act → World → Prop} {a : Act} {w : World} (h : r.wp P (ScopeQ P c Q) a w) : wpS P c r Q a w := by
  intro b k cs
  obtain ⟨e, a₁, w₁, hq, harr⟩ := h b (.inScope c :: k) cs
  cases e with
  | normal => exact ⟨.normal, a₁, w₁, hq, Steps.trans harr (.one step_inScope)⟩
  | exit id => exact ⟨_, a₁, w₁, hq, fun k' hk => harr k' (by simpa [exitTo] using hk)⟩
  | goto l =>
    simp only [ScopeQ] at hq
    split at hq
    · rename_i r' hf
      obtain ⟨e₂, a₂, w₂, hq₂, harr₂⟩ := hq b k cs
      exact ⟨e₂, a₂, w₂, hq₂, .of_steps (harr _ (by simp [gotoIn, hf])) harr₂⟩
    · rename_i hf
      exact ⟨_, a₁, w₁, hq, fun k' hk => harr k' (by simp [gotoIn, hf, hk])⟩
  | ret => exact ⟨_, a₁, w₁, hq, harr⟩
  | panic ch => exact ⟨_, a₁, w₁, hq, harr⟩
  | outgrown => exact ⟨_, a₁, w₁, hq, harr⟩

theorem wp_of_wpS {c : Code} {Q : Exit → Act → World → Prop} {a : Act} {w : World} (h : wpS P c c Q a w) : (Code.scope c).wp P Q a w := by
  intro b k cs
  obtain ⟨e, a', w', hq, harr⟩ := h b k cs
  exact ⟨e, a', w', hq, .of_steps (.one step_scope) harr⟩

theorem find_rel : ∀ (C : Code) (c : IC), compCode P C = some c → ∀ l, (c.find l = none → findLabel C l = none) ∧ ∀ r, c.find l = some r → ∃ R, findLabel C l = some R ∧ compCode P R = some r := by
  intro C
  induction C with
  | seq A B ihA ihB =>
    intro c hc l
    simp only [compCode] at hc
    split at hc
    · rename_i a b hA hB
      simp only [Option.some.injEq] at hc
      subst hc
      obtain ⟨a1, a2⟩ := ihA a hA l
      obtain ⟨b1, b2⟩ := ihB b hB l
      simp only [IC.find, findLabel]
      cases ea : a.find l with
      | some r =>
        obtain ⟨R, h1, h2⟩ := a2 r ea
        simp only [h1]
        refine ⟨by simp, ?_⟩
        intro r' hr'
        simp only [Option.some.injEq] at hr'
        subst hr'
        exact ⟨.seq R B, rfl, by simp [compCode, h2, hB]⟩
      | none =>
        simp only [a1 ea]
        exact ⟨b1, b2⟩
    · simp at hc
  | label l' =>
    intro c hc l
    simp only [compCode, Option.some.injEq] at hc
    subst hc
    simp only [IC.find, findLabel]
    split
    · refine ⟨by simp, fun r hr => ?_⟩
      simp only [Option.some.injEq] at hr
      subst hr
      exact ⟨.skip, rfl, rfl⟩
    · exact ⟨by simp, by simp⟩
  | region id ops d =>
    intro c hc l
    cases d <;> (simp only [compCode] at hc; obtain ⟨_, _, rfl⟩ := Option.map_eq_some_iff.1 hc; simp [IC.find, findLabel])
  | cond x A B =>
    intro c hc l
    simp only [compCode] at hc
    split at hc
    · simp only [Option.some.injEq] at hc; subst hc; simp [IC.find, findLabel]
    · simp at hc
  | rangeFunc f ps A B => intro c hc l; simp [compCode] at hc
  | refuse s => intro c hc l; simp [compCode] at hc
  | skip => intro c hc l; simp only [compCode, Option.some.injEq] at hc; subst hc; simp [IC.find, findLabel]
  | exit i => intro c hc l; simp only [compCode, Option.some.injEq] at hc; subst hc; simp [IC.find, findLabel]
  | goto i => intro c hc l; simp only [compCode, Option.some.injEq] at hc; subst hc; simp [IC.find, findLabel]
  | ret => intro c hc l; simp only [compCode, Option.some.injEq] at hc; subst hc; simp [IC.find, findLabel]
  | block i A _ => intro c hc l; simp only [compCode] at hc; obtain ⟨_, _, rfl⟩ := Option.map_eq_some_iff.1 hc; simp [IC.find, findLabel]
  | loop A _ => intro c hc l; simp only [compCode] at hc; obtain ⟨_, _, rfl⟩ := Option.map_eq_some_iff.1 hc; simp [IC.find, findLabel]
  | scope A _ => intro c hc l; simp only [compCode] at hc; obtain ⟨_, _, rfl⟩ := Option.map_eq_some_iff.1 hc; simp [IC.find, findLabel]

/-- What 'rc' says of the rest of a scope. -/
def RestOk (P : Program) (w0 : World) (rc : IC → St → Option (Ex × St)) : Prop := ∀ (C R : Code) (c r : IC), compCode P C = some c → compCode P R = some r → ∀ (s : St) (e : Ex) (s' : St), rc (.inS c r) s = some (e, s') → ∀ μ a w, SRel P μ w0 s a w → wpS P C R (Post P w0 μ s.2 w e s') a w

/-- What a drawn region says. -/
def DrawOk (P : Program) (w0 : World) (cf : CallF) : Prop := ∀ (ops : Array Oper) (dl : List DOper), compDraw P ops = some dl → ∀ (s s' : St), runDraw cf dl s.1 s.2 [] = some s' → ∀ (id : Nat) μ a w, SRel P μ w0 s a w → (Code.region id ops true).wp P (Post P w0 μ s.2 w .normal s') a w

theorem exec_wp {cf : CallF} (hcf : CallOk P w0 cf) {rc : IC → St → Option (Ex × St)} (hrc : RestOk P w0 rc) (hdr : DrawOk P w0 cf) (fuel : Nat) : ∀ (C : Code) (c : IC), compCode P C = some c → ∀ (s : St) (e : Ex) (s' : St), exec cf rc fuel c s = some (e, s') →
    ∀ μ a w, SRel P μ w0 s a w → C.wp P (Post P w0 μ s.2 w e s') a w := by
  intro C
  induction C with
  | skip =>
    intro c hc s e s' hx μ a w S
    simp only [compCode, Option.some.injEq] at hc; subst hc
    simp only [exec, Option.some.injEq, Prod.mk.injEq] at hx
    obtain ⟨rfl, rfl⟩ := hx
    exact wp_skip ⟨rfl, μ, S, Adv.refl _ _ _⟩
  | label l =>
    intro c hc s e s' hx μ a w S
    simp only [compCode, Option.some.injEq] at hc; subst hc
    simp only [exec, Option.some.injEq, Prod.mk.injEq] at hx
    obtain ⟨rfl, rfl⟩ := hx
    exact wp_label ⟨rfl, μ, S, Adv.refl _ _ _⟩
  | exit i =>
    intro c hc s e s' hx μ a w S
    simp only [compCode, Option.some.injEq] at hc; subst hc
    simp only [exec, Option.some.injEq, Prod.mk.injEq] at hx
    obtain ⟨rfl, rfl⟩ := hx
    exact wp_exit ⟨rfl, μ, S, Adv.refl _ _ _⟩
  | goto l =>
    intro c hc s e s' hx μ a w S
    simp only [compCode, Option.some.injEq] at hc; subst hc
    simp only [exec, Option.some.injEq, Prod.mk.injEq] at hx
    obtain ⟨rfl, rfl⟩ := hx
    exact wp_goto ⟨rfl, μ, S, Adv.refl _ _ _⟩
  | ret =>
    intro c hc s e s' hx μ a w S
    simp only [compCode, Option.some.injEq] at hc; subst hc
    simp only [exec, Option.some.injEq, Prod.mk.injEq] at hx
    obtain ⟨rfl, rfl⟩ := hx
    exact wp_ret ⟨rfl, μ, S, Adv.refl _ _ _⟩
  | region id ops d =>
    intro c hc s e s' hx μ a w S
    cases d with
    | false =>
      simp only [compCode] at hc
      obtain ⟨L, hL, rfl⟩ := Option.map_eq_some_iff.1 hc
      simp only [exec] at hx
      obtain ⟨s1, h1, h2⟩ := Option.map_eq_some_iff.1 hx
      simp only [Prod.mk.injEq] at h2
      obtain ⟨rfl, rfl⟩ := h2
      exact wp_region_list (runOps_wp hcf ops.toList L hL s s1 h1 μ a w S fun μ' a' w' S' A' => ⟨rfl, μ', S', A'⟩)
    | true =>
      simp only [compCode] at hc
      obtain ⟨L, hL, rfl⟩ := Option.map_eq_some_iff.1 hc
      simp only [exec] at hx
      obtain ⟨s1, h1, h2⟩ := Option.map_eq_some_iff.1 hx
      simp only [Prod.mk.injEq] at h2
      obtain ⟨rfl, rfl⟩ := h2
      exact hdr ops L hL s s1 h1 id μ a w S
  | seq A B ihA ihB =>
    intro c hc s e s' hx μ a w S
    simp only [compCode] at hc
    split at hc
    · rename_i ca cb hA hB
      simp only [Option.some.injEq] at hc; subst hc
      simp only [exec] at hx
      split at hx
      · rename_i s1 h1
        refine wp_seq (wp_mono (ihA ca hA s .normal s1 h1 μ a w S) ?_)
        rintro e1 a1 w1 ⟨rfl, μ1, S1, A1⟩
        refine wp_mono (ihB cb hB s1 e s' hx μ1 a1 w1 S1) ?_
        intro e2 a2 w2 p
        exact p.trans A1
      · rename_i r hr
        refine wp_seq (wp_mono (ihA ca hA s e s' hx μ a w S) ?_)
        rintro e1 a1 w1 ⟨rfl, p⟩
        cases e with
        | normal => exact absurd hx (hr _)
        | exit i => exact ⟨rfl, p⟩
        | goto l => exact ⟨rfl, p⟩
        | ret => exact ⟨rfl, p⟩
    · simp at hc
  | cond x A B ihA ihB =>
    intro c hc s e s' hx μ a w S
    simp only [compCode] at hc
    split at hc
    · rename_i X ca cb hX hA hB
      simp only [Option.some.injEq] at hc; subst hc
      have hr := ev_rel S.W S.ts x X hX
      simp only [exec] at hx
      split at hx
      · rename_i he; rw [he] at hr; exact wp_cond_true hr (ihA ca hA s e s' hx μ a w S)
      · rename_i he; rw [he] at hr; exact wp_cond_false hr (ihB cb hB s e s' hx μ a w S)
      · simp at hx
    · simp at hc
  | block i A ih =>
    intro c hc s e s' hx μ a w S
    simp only [compCode] at hc
    obtain ⟨ca, hA, rfl⟩ := Option.map_eq_some_iff.1 hc
    simp only [exec] at hx
    split at hx
    · rename_i j s1 h1
      refine wp_block (wp_mono (ih ca hA s (.exit j) s1 h1 μ a w S) ?_)
      rintro e1 a1 w1 ⟨rfl, p⟩
      split at hx
      · rename_i hj
        simp only [Option.some.injEq, Prod.mk.injEq] at hx
        obtain ⟨rfl, rfl⟩ := hx
        simp only [Ex.real, Exit.inBlock]
        rw [if_pos (by simpa using hj)]
        exact ⟨rfl, p⟩
      · rename_i hj
        simp only [Option.some.injEq, Prod.mk.injEq] at hx
        obtain ⟨rfl, rfl⟩ := hx
        simp only [Ex.real, Exit.inBlock]
        rw [if_neg (by simpa using hj)]
        exact ⟨rfl, p⟩
    · rename_i r hr
      refine wp_block (wp_mono (ih ca hA s e s' hx μ a w S) ?_)
      rintro e1 a1 w1 ⟨rfl, p⟩
      cases e with
      | exit i => exact absurd hx (hr _ _)
      | normal => exact ⟨rfl, p⟩
      | goto l => exact ⟨rfl, p⟩
      | ret => exact ⟨rfl, p⟩
  | loop A ih =>
    intro c hc s e s' hx μ a w S
    simp only [compCode] at hc
    obtain ⟨ca, hA, rfl⟩ := Option.map_eq_some_iff.1 hc
    simp only [exec] at hx
    have key : ∀ (n : Nat) (s : St), rounds (exec cf rc fuel ca) n s = some (e, s') → ∀ μ a w, SRel P μ w0 s a w → wpL P A (Post P w0 μ s.2 w e s') a w := by
      intro n
      induction n with
      | zero => intro s h; simp [rounds] at h
      | succ n ihn =>
        intro s h μ a w S
        simp only [rounds] at h
        split at h
        · rename_i s1 h1
          refine wpL_step (wp_mono (ih ca hA s .normal s1 h1 μ a w S) ?_)
          rintro e1 a1 w1 ⟨rfl, μ1, S1, A1⟩
          intro b k cs
          obtain ⟨e2, a2, w2, p, r⟩ := ihn s1 h μ1 a1 w1 S1 b k cs
          exact ⟨e2, a2, w2, p.trans A1, r⟩
        · rename_i r hr
          refine wpL_step (wp_mono (ih ca hA s e s' h μ a w S) ?_)
          rintro e1 a1 w1 ⟨rfl, p⟩
          cases e with
          | normal => exact absurd h (hr _)
          | exit i => exact ⟨rfl, p⟩
          | goto l => exact ⟨rfl, p⟩
          | ret => exact ⟨rfl, p⟩
    exact wp_of_wpL (key fuel s hx μ a w S)
  | scope A ih =>
    intro c hc s e s' hx μ a w S
    simp only [compCode] at hc
    obtain ⟨ca, hA, rfl⟩ := Option.map_eq_some_iff.1 hc
    simp only [exec] at hx
    refine wp_of_wpS (wpS_step ?_)
    split at hx
    · rename_i l s1 h1
      refine wp_mono (ih ca hA s (.goto l) s1 h1 μ a w S) ?_
      rintro e1 a1 w1 ⟨rfl, μ1, S1, A1⟩
      simp only [Ex.real, ScopeQ]
      split at hx
      · rename_i r hf
        obtain ⟨R, h2, h3⟩ := (find_rel A ca hA l).2 r hf
        simp only [h2]
        intro b k cs
        obtain ⟨e2, a2, w2, p, q⟩ := hrc A R ca r hA h3 s1 e s' hx μ1 a1 w1 S1 b k cs
        exact ⟨e2, a2, w2, p.trans A1, q⟩
      · rename_i hf
        simp only [(find_rel A ca hA l).1 hf]
        simp only [Option.some.injEq, Prod.mk.injEq] at hx
        obtain ⟨rfl, rfl⟩ := hx
        exact ⟨rfl, μ1, S1, A1⟩
    · rename_i r hr
      refine wp_mono (ih ca hA s e s' hx μ a w S) ?_
      rintro e1 a1 w1 ⟨rfl, p⟩
      cases e with
      | goto l => exact absurd hx (hr _ _)
      | normal => exact ⟨rfl, p⟩
      | exit i => exact ⟨rfl, p⟩
      | ret => exact ⟨rfl, p⟩
  | rangeFunc f ps A B => intro c hc; simp [compCode] at hc
  | refuse s => intro c hc; simp [compCode] at hc

theorem inS_wp {cf : CallF} (hcf : CallOk P w0 cf) {rc : IC → St → Option (Ex × St)} (hrc : RestOk P w0 rc) (hdr : DrawOk P w0 cf) (fuel : Nat) : RestOk P w0 (exec cf rc fuel) := by
  intro C R c r hC hR s e s' hx μ a w S
  simp only [exec] at hx
  refine wpS_step ?_
  split at hx
  · rename_i l s1 h1
    refine wp_mono (exec_wp hcf hrc hdr fuel R r hR s (.goto l) s1 h1 μ a w S) ?_
    rintro e1 a1 w1 ⟨rfl, μ1, S1, A1⟩
    simp only [Ex.real, ScopeQ]
    split at hx
    · rename_i r' hf
      obtain ⟨R', h2, h3⟩ := (find_rel C c hC l).2 r' hf
      simp only [h2]
      intro b k cs
      obtain ⟨e2, a2, w2, p, q⟩ := hrc C R' c r' hC h3 s1 e s' hx μ1 a1 w1 S1 b k cs
      exact ⟨e2, a2, w2, p.trans A1, q⟩
    · rename_i hf
      simp only [(find_rel C c hC l).1 hf]
      simp only [Option.some.injEq, Prod.mk.injEq] at hx
      obtain ⟨rfl, rfl⟩ := hx
      exact ⟨rfl, μ1, S1, A1⟩
  · rename_i r' hr
    refine wp_mono (exec_wp hcf hrc hdr fuel R r hR s e s' hx μ a w S) ?_
    rintro e1 a1 w1 ⟨rfl, p⟩
    cases e with
    | goto l => exact absurd hx (hr _ _)
    | normal => exact ⟨rfl, p⟩
    | exit i => exact ⟨rfl, p⟩
    | ret => exact ⟨rfl, p⟩

/-! ### Calls -/

/-- A function's contract, for the machine. -/
def NatOk (P : Program) (w0 : World) (f : FuncId) (g : NatF) : Prop := ∀ (args : List AV) (h : H) (v : AV) (h' : H), g args h = some (v, h') → ∀ (μ : Mu) (w : World) (args' : Array Value), VRels μ args args'.toList → WRel μ w0 0 h w →
  Calls P f args' w fun e w' => ∃ v' μ', e = .returned v' ∧ VRel μ' v v' ∧ WRel μ' w0 0 h' w' ∧ Adv μ h w μ' h' w'

/-- What is known of a function that is not run. -/
def KnOk (P : Program) (w0 : World) (f : FuncId) : Option NatF → Prop
  | none => ∀ W, Calls P f #[] W (fun e W' => e = .returned (.bool true) ∧ Below W.heap.size W W')
  | some g => NatOk P w0 f g

/-- The machine's functions are the program's. -/
def FOkAt (P : Program) (w0 : World) (F : FTab) : Prop := ∀ f fn, F f = some fn → ∃ fn', P.funcs[f]? = some fn' ∧ (fn'.name == "runtime.NumGoroutine") = false ∧ (compFunc P fn' = some fn ∨ (fn.known = true ∧ fn'.body.isSome = true ∧ KnOk P w0 f fn.nat))

def FOk (P : Program) (F : FTab) : Prop := ∀ w0, FOkAt P w0 F

def resF (a : Act) : ResultVar → Sem Value
  | .tmp t => pure (a.tmps.getD t undef)
  | .cell x t => do loadVar t (← asAddr (a.tmps.getD x undef))

theorem resOf_rel {μ : Mu} {s : St} {a : Act} {w : World} (S : SRel P μ w0 s a w) : ∀ (rs : List ResultVar) (L : List (Nat × Option (Option Nat))), compRes P rs = some L → ∀ vs, resOf s.2 s.1 L = some vs →
    ∃ vs' : List Value, (rs.mapM (resF a)).run P w = .ok vs' w ∧ VRels μ vs vs'
  | [], L, hL, vs, hv => by
    simp only [compRes, Option.some.injEq] at hL
    subst hL
    simp only [resOf, Option.some.injEq] at hv
    subst hv
    exact ⟨[], rfl, rfl⟩
  | .tmp t :: rs, L, hL, vs, hv => by
    simp only [compRes] at hL
    obtain ⟨L', h1, rfl⟩ := Option.map_eq_some_iff.1 hL
    simp only [resOf] at hv
    obtain ⟨vs1, h2, rfl⟩ := Option.map_eq_some_iff.1 hv
    obtain ⟨vs', h3, h4⟩ := resOf_rel S rs L' h1 vs1 h2
    have := ev_rel (P := P) S.W S.ts (.tmp t) (.t t) rfl
    exact ⟨a.tmps.getD t undef :: vs', by simp only [List.mapM_cons, resF, Sem.run_bind, Sem.run_pure, Result.andThen_ok, h3], _, _, rfl, this, h4⟩
  | .cell x t :: rs, L, hL, vs, hv => by
    simp only [compRes] at hL
    split at hL
    · rename_i g L' h0 h1
      simp only [Option.some.injEq] at hL
      subst hL
      simp only [resOf] at hv
      split at hv
      · rename_i v h' hi
        obtain ⟨vs1, h2, rfl⟩ := Option.map_eq_some_iff.1 hv
        obtain ⟨vs', h3, h4⟩ := resOf_rel S rs L' h1 vs1 h2
        have hx := ev_rel (P := P) S.W S.ts (.tmp x) (.t x) rfl
        simp only [iop] at hi
        split at hi
        · rename_i ad he
          rw [he] at hx
          have hl : s.2.ldg ad g = some v := by
            obtain ⟨v', q1, q2⟩ := Option.map_eq_some_iff.1 hi
            simp only [Ans.val.injEq] at q2
            obtain ⟨rfl, _⟩ := q2
            exact q1
          obtain ⟨u, r1, r2⟩ := load_rs S.W h0 hl hx
          obtain ⟨rb, hm, hp⟩ := hx
          have hp' : a.tmps.getD x undef = .pointer (some ⟨rb.r, ad.o, none⟩) := hp
          have r1' : (resF a (.cell x t)).run P w = .ok u w := by
            rw [← r1]
            simp only [resF, Instr.loadAt, Act.eval, hp', Instr.sureAddr, asAddr]
          exact ⟨u :: vs', by simp only [List.mapM_cons, Sem.run_bind, r1', Sem.run_pure, Result.andThen_ok, h3], _, _, rfl, r2, h4⟩
        · simp at hi
      · simp at hv
    · simp at hL

theorem retV_rel {μ : Mu} {s : St} {a : Act} {w : World} (S : SRel P μ w0 s a w) {fn : Func} {L : List (Nat × Option (Option Nat))} (hL : compRes P fn.results.toList = some L) {v : AV} (hv : retV s.2 s.1 L = some v) :
    ∃ v', (results fn a.tmps).run P w = .ok v' w ∧ VRel μ v v' := by
  unfold retV at hv
  have key : ∀ vs, resOf s.2 s.1 L = some vs → ∃ vs' : List Value, (results fn a.tmps).run P w = .ok (if h : vs'.toArray.size = 1 then vs'.toArray[0] else .tuple vs'.toArray) w ∧ VRels μ vs vs' := by
    intro vs hvs
    obtain ⟨vs', h1, h2⟩ := resOf_rel S _ L hL vs hvs
    refine ⟨vs', ?_, h2⟩
    have he : (fun x => (match x with | ResultVar.tmp t => pure (a.tmps.getD t undef) | ResultVar.cell x t => do loadVar t (← asAddr (a.tmps.getD x undef)) : Sem Value)) = resF a := by funext x; cases x <;> rfl
    unfold results
    rw [Array.mapM_eq_mapM_toList]
    simp only [Sem.run_bind, Sem.run_map]
    erw [he]
    rw [h1]
    rfl
  split at hv
  · rename_i u hu
    simp only [Option.some.injEq] at hv
    subst hv
    obtain ⟨vs', h1, h2⟩ := key _ hu
    obtain ⟨u', y, rfl, h3, h4⟩ := h2
    cases h4
    exact ⟨u', by simpa using h1, h3⟩
  · rename_i vs hne hvs
    simp only [Option.some.injEq] at hv
    subst hv
    obtain ⟨vs', h1, h2⟩ := key _ hvs
    have hlen := h2.length
    have hs : ¬ vs'.toArray.size = 1 := by
      intro e
      simp only [List.size_toArray] at e
      match vs, hne, hlen with
      | [x], hne, _ => exact hne x rfl
      | [], _, hl => simp at hl; omega
      | x :: y :: r, _, hl => simp at hl; omega
    refine ⟨.tuple vs'.toArray, by rw [dif_neg hs] at h1; exact h1, _, rfl, by simpa using h2⟩
  · simp at hv

/-- What was there stands: the state goes on. -/
theorem WRel.below {μ : Mu} {w0 : World} {ng : Nat} {h : H} {w w' : World} (W : WRel μ w0 ng h w) (hb : Below w.heap.size w w') : WRel μ w0 ng h w' ∧ Adv μ h w μ h w' := by
  refine ⟨⟨?_, W.glob, ?_, ?_, W.inj⟩, ⟨Mu.le.refl μ, hb.size, Nat.le_refl _, fun r hr _ => hb.block r hr, fun _ g rb e => .inl ⟨g, rb, e, .inl rfl⟩, fun _ _ _ => rfl⟩⟩
  · refine ⟨hb.os.trans W.base.os, hb.tape.trans W.base.tape, hb.output.trans W.base.output, Nat.le_trans W.base.size hb.size, ?_⟩
    intro k hk
    rw [hb.block k (Nat.lt_of_lt_of_le hk W.base.size)]
    exact W.base.block k hk
  · intro b g rb e
    obtain ⟨h1, h2⟩ := W.dom b g rb e
    exact ⟨Nat.lt_of_lt_of_le h1 hb.size, h2⟩
  · intro b B rb h1 h2
    obtain ⟨⟨o, h3, h4⟩, h5⟩ := W.blk b B rb h1 h2
    refine ⟨⟨o, ?_, h4⟩, h5⟩
    rw [hb.block _ (getElem?_lt h3)]
    exact h3

theorem callStep_ok {F : FTab} (hF : FOkAt P w0 F) {n : Nat} {m : Mach} (hcf : CallOk P w0 m.call) (hrc : RestOk P w0 m.code) (hdr : DrawOk P w0 m.call) : CallOk P w0 (callStep F n m) := by
  intro f args h v h' hc μ w args' hargs W
  unfold callStep at hc
  split at hc
  · simp at hc
  · rename_i fn hfn
    obtain ⟨fn', h1, h2, h3 | ⟨hk, hb, hcl⟩⟩ := hF f fn hfn
    case inr =>
      rw [if_pos hk] at hc
      split at hc
      · rename_i g hg
        rw [hg] at hcl
        exact ⟨⟨fn', h1, hb, h2⟩, hcl _ _ _ _ hc μ w args' hargs W⟩
      rename_i hg
      rw [hg] at hcl
      split at hc
      · rename_i ha
        simp only [Option.some.injEq, Prod.mk.injEq] at hc
        obtain ⟨rfl, rfl⟩ := hc
        obtain rfl : args = [] := by simpa using ha
        obtain rfl : args' = #[] := by cases args'; simp only [VRels] at hargs; simpa using hargs
        refine ⟨⟨fn', h1, hb, h2⟩, (hcl w).mono ?_⟩
        rintro e w' ⟨rfl, hbel⟩
        have W' := W.below hbel
        exact ⟨_, μ, rfl, rfl, W'.1, W'.2⟩
      · simp at hc
    unfold compFunc at h3
    split at h3
    · simp at h3
    · rename_i C hbody
      split at h3
      · rename_i c L hC hL
        simp only [Option.some.injEq] at h3
        subst h3
        simp only [Bool.false_eq_true, if_false] at hc
        refine ⟨⟨fn', h1, by simp [hbody], h2⟩, ?_⟩
        have hlen : args.length = args'.size := by simpa using hargs.length
        have S : SRel P μ w0 (args ++ List.replicate (fn'.ntmps - args.length) .undef, h) { tmps := args' ++ Array.replicate (fn'.ntmps - args'.size) undef, defers := [] } w := by
          refine ⟨?_, rfl, W⟩
          have hu : VRel μ .undef undef := ⟨_, rfl, rfl⟩
          have := hargs.append (VRels.replicate hu (fn'.ntmps - args.length))
          simpa [hlen] using this
        refine calls_of_wp h1 hbody ?_
        have fin : ∀ (e : Ex) (s' : St), (e = .normal ∨ e = .ret) → exec m.call m.code n c (args ++ List.replicate (fn'.ntmps - args.length) .undef, h) = some (e, s') → (retV s'.2 s'.1 L).map (·, s'.2) = some (v, h') →
            C.wp P (bodyPost P fn' fun e w' => ∃ v' μ', e = .returned v' ∧ VRel μ' v v' ∧ WRel μ' w0 0 h' w' ∧ Adv μ h w μ' h' w') { tmps := args' ++ Array.replicate (fn'.ntmps - args'.size) undef, defers := [] } w := by
          intro e s' he hx hr
          obtain ⟨v1, hv1, hv2⟩ := Option.map_eq_some_iff.1 hr
          simp only [Prod.mk.injEq] at hv2
          obtain ⟨rfl, rfl⟩ := hv2
          refine wp_mono (exec_wp hcf hrc hdr n C c hC _ e s' hx μ _ w S) ?_
          rintro e1 a1 w1 ⟨rfl, μ1, S1, A1⟩
          obtain ⟨v', r1, r2⟩ := retV_rel S1 hL hv1
          rcases he with rfl | rfl
          · exact ⟨S1.df, v', r1, v', μ1, rfl, r2, S1.W, A1⟩
          · exact ⟨S1.df, v', r1, v', μ1, rfl, r2, S1.W, A1⟩
        split at hc
        · rename_i s' hx; exact fin .normal s' (.inl rfl) hx hc
        · rename_i s' hx; exact fin .ret s' (.inr rfl) hx hc
        · simp at hc
      · simp at h3

theorem mach_ok {F : FTab} (hF : FOkAt P w0 F) (hdr : ∀ cf, CallOk P w0 cf → DrawOk P w0 cf) : ∀ n, CallOk P w0 (mach F n).call ∧ RestOk P w0 (mach F n).code
  | 0 => ⟨by intro f args h v h' hc; simp [mach, Mach.none] at hc, by intro C R c r _ _ s e s' hx; simp [mach, Mach.none] at hx⟩
  | n + 1 => by
    obtain ⟨h1, h2⟩ := mach_ok hF hdr n
    exact ⟨callStep_ok hF h1 h2 (hdr _ h1), inS_wp h1 h2 (hdr _ h1) n⟩

end
end Go.Det
