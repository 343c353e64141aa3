/- The deterministic machine without its fuel: what a code comes to, rule by rule. -/
import Derived.Test.YtcobmomjdbmacaaDoorDetCore
set_option linter.unusedVariables false
set_option linter.unusedSimpArgs false
set_option linter.unusedSectionVars false
namespace Go.Det

/-! ### More fuel changes no answer -/

def CLe (f g : CallF) : Prop := ∀ i args h r, f i args h = some r → g i args h = some r
def RLe (f g : IC → St → Option (Ex × St)) : Prop := ∀ c s r, f c s = some r → g c s = some r

section mono
variable {cf cf' : CallF} (hc : CLe cf cf')

include hc in
theorem oneOp_mono {op : IOp} {ts : List AV} {h : H} {r : AV × H} (ho : oneOp cf op ts h = some r) : oneOp cf' op ts h = some r := by
  unfold oneOp at ho ⊢
  split at ho
  · exact ho
  · exact hc _ _ _ _ ho
  · simp at ho

include hc in
theorem runOps_mono : ∀ (l : List IOper) (ts : List AV) (h : H) (r : List AV × H), runOps cf l ts h = some r → runOps cf' l ts h = some r
  | [], ts, h, r, hr => hr
  | o :: l, ts, h, r, hr => by
    simp only [runOps] at hr ⊢
    split at hr
    · rename_i hw
      rw [if_pos hw]
      split at hr
      · rename_i ho
        rw [oneOp_mono hc ho]
        exact runOps_mono l _ _ _ hr
      · simp at hr
    · rename_i hw
      rw [if_neg hw]
      exact runOps_mono l _ _ _ hr

include hc in
theorem runDraw_mono : ∀ (l : List DOper) (ts : List AV) (h : H) (p : Pend) (r : List AV × H), runDraw cf l ts h p = some r → runDraw cf' l ts h p = some r
  | [], ts, h, p, r, hr => hr
  | o :: l, ts, h, p, r, hr => by
    simp only [runDraw] at hr ⊢
    split at hr
    · rename_i ha
      rw [if_pos ha]
      split at hr
      · rename_i hp
        rw [if_pos hp]
        split at hr
        · rename_i hw
          rw [if_pos hw]
          split at hr
          · rename_i ho
            rw [oneOp_mono hc ho]
            exact runDraw_mono l _ _ _ _ hr
          · simp at hr
        · rename_i hw
          rw [if_neg hw]
          exact runDraw_mono l _ _ _ _ hr
      · simp at hr
    · rename_i ha
      rw [if_neg ha]
      split at hr
      · rename_i hw
        rw [if_pos hw]
        split at hr
        · rename_i ho
          rw [oneOp_mono hc ho]
          exact runDraw_mono l _ _ _ _ hr
        · simp at hr
      · rename_i hw
        rw [if_neg hw]
        exact runDraw_mono l _ _ _ _ hr

theorem rounds_mono {S : Type} {f g : S → Option (Ex × S)} (hfg : ∀ s r, f s = some r → g s = some r) : ∀ (n m : Nat) (s : S) (r : Ex × S), n ≤ m → rounds f n s = some r → rounds g m s = some r
  | 0, m, s, r, h, hr => by simp [rounds] at hr
  | n + 1, 0, s, r, h, hr => by omega
  | n + 1, m + 1, s, r, h, hr => by
    simp only [rounds] at hr ⊢
    split at hr
    · rename_i s' hf
      rw [hfg _ _ hf]
      exact rounds_mono hfg n m s' r (by omega) hr
    · rename_i hne
      rw [hfg _ _ hr]
      obtain ⟨e, s'⟩ := r
      cases e with
      | normal => exact absurd hr (hne _)
      | _ => rfl

include hc in
theorem exec_mono {rc rc' : IC → St → Option (Ex × St)} (hrc : RLe rc rc') {n m : Nat} (hn : n ≤ m) : ∀ (c : IC) (s : St) (r : Ex × St), exec cf rc n c s = some r → exec cf' rc' m c s = some r := by
  intro c
  induction c with
  | skip => intro s r hr; exact hr
  | label _ => intro s r hr; exact hr
  | exit _ => intro s r hr; exact hr
  | ret => intro s r hr; exact hr
  | goto _ => intro s r hr; exact hr
  | region ops =>
    intro s r hr
    simp only [exec, Option.map_eq_some_iff] at hr ⊢
    obtain ⟨x, h1, h2⟩ := hr
    exact ⟨x, runOps_mono hc _ _ _ _ h1, h2⟩
  | draw ops =>
    intro s r hr
    simp only [exec, Option.map_eq_some_iff] at hr ⊢
    obtain ⟨x, h1, h2⟩ := hr
    exact ⟨x, runDraw_mono hc _ _ _ _ _ h1, h2⟩
  | seq a b iha ihb =>
    intro s r hr
    simp only [exec] at hr ⊢
    split at hr
    · rename_i s' ha
      rw [iha _ _ ha]
      exact ihb _ _ hr
    · rename_i hne
      rw [iha _ _ hr]
      obtain ⟨e, s'⟩ := r
      cases e with
      | normal => exact absurd hr (hne _)
      | _ => rfl
  | cond x a b iha ihb =>
    intro s r hr
    simp only [exec] at hr ⊢
    split at hr
    · exact iha _ _ hr
    · exact ihb _ _ hr
    · simp at hr
  | block id a iha =>
    intro s r hr
    simp only [exec] at hr ⊢
    split at hr
    · rename_i i s' ha
      rw [iha _ _ ha]
      exact hr
    · rename_i hne
      rw [iha _ _ hr]
      obtain ⟨e, s'⟩ := r
      cases e with
      | exit i => exact absurd hr (hne _ _)
      | _ => rfl
  | loop a iha =>
    intro s r hr
    simp only [exec] at hr ⊢
    exact rounds_mono iha n m s r hn hr
  | scope a iha =>
    intro s r hr
    simp only [exec] at hr ⊢
    split at hr
    · rename_i l s' ha
      rw [iha _ _ ha]
      simp only []
      split at hr
      · exact hrc _ _ _ hr
      · exact hr
    · rename_i hne
      rw [iha _ _ hr]
      obtain ⟨e, s'⟩ := r
      cases e with
      | goto l => exact absurd hr (hne _ _)
      | _ => rfl
  | inS a b _ ihb =>
    intro s r hr
    simp only [exec] at hr ⊢
    split at hr
    · rename_i l s' ha
      rw [ihb _ _ ha]
      simp only []
      split at hr
      · exact hrc _ _ _ hr
      · exact hr
    · rename_i hne
      rw [ihb _ _ hr]
      obtain ⟨e, s'⟩ := r
      cases e with
      | goto l => exact absurd hr (hne _ _)
      | _ => rfl
end mono

theorem mach_succ (F : FTab) : ∀ n, CLe (mach F n).call (mach F (n + 1)).call ∧ RLe (mach F n).code (mach F (n + 1)).code
  | 0 => ⟨fun _ _ _ _ h => by simp [mach, Mach.none] at h, fun _ _ _ h => by simp [mach, Mach.none] at h⟩
  | n + 1 => by
    obtain ⟨h1, h2⟩ := mach_succ F n
    refine ⟨?_, fun c s r h => exec_mono h1 h2 (Nat.le_succ n) c s r h⟩
    intro f args h r hr
    have hr : callStep F n (mach F n) f args h = some r := hr
    show callStep F (n + 1) (mach F (n + 1)) f args h = some r
    unfold callStep at hr ⊢
    split at hr
    · simp at hr
    · rename_i fn hf
      split at hr
      · rename_i hk; rw [if_pos hk]; exact hr
      rename_i hk
      rw [if_neg hk]
      split at hr
      · rename_i s he; rw [exec_mono h1 h2 (Nat.le_succ n) _ _ _ he]; exact hr
      · rename_i s he; rw [exec_mono h1 h2 (Nat.le_succ n) _ _ _ he]; exact hr
      · simp at hr

theorem mach_le (F : FTab) {n m : Nat} (h : n ≤ m) : CLe (mach F n).call (mach F m).call ∧ RLe (mach F n).code (mach F m).code := by
  induction h with
  | refl => exact ⟨fun _ _ _ _ h => h, fun _ _ _ h => h⟩
  | step _ ih => exact ⟨fun i a h r x => (mach_succ F _).1 _ _ _ _ (ih.1 i a h r x), fun c s r x => (mach_succ F _).2 _ _ _ (ih.2 c s r x)⟩

/-! ### Without fuel -/

/-- The call answers so. -/
def Runs (F : FTab) (f : FuncId) (args : List AV) (h : H) (v : AV) (h' : H) : Prop := ∃ n, (mach F n).call f args h = some (v, h')

/-- The code comes to an exit and a state of which Q holds. -/
def Wp (F : FTab) (c : IC) (s : St) (Q : Ex → St → Prop) : Prop := ∃ n e s', exec (mach F n).call (mach F n).code n c s = some (e, s') ∧ Q e s'

/-- The operations come to a state of which Q holds. -/
def Wo (F : FTab) (l : List IOper) (ts : List AV) (h : H) (Q : List AV → H → Prop) : Prop := ∃ n ts' h', runOps (mach F n).call l ts h = some (ts', h') ∧ Q ts' h'

section rules
variable {F : FTab}

theorem exec_le {n m : Nat} (h : n ≤ m) {c : IC} {s : St} {r : Ex × St} (hr : exec (mach F n).call (mach F n).code n c s = some r) : exec (mach F m).call (mach F m).code m c s = some r :=
  exec_mono (mach_le F h).1 (mach_le F h).2 h c s r hr

theorem Wp.mono {c : IC} {s : St} {Q Q' : Ex → St → Prop} (h : Wp F c s Q) (hq : ∀ e s', Q e s' → Q' e s') : Wp F c s Q' := by
  obtain ⟨n, e, s', h1, h2⟩ := h
  exact ⟨n, e, s', h1, hq _ _ h2⟩

theorem Wp.skip {s : St} {Q : Ex → St → Prop} (h : Q .normal s) : Wp F .skip s Q := ⟨0, _, _, rfl, h⟩
theorem Wp.ret {s : St} {Q : Ex → St → Prop} (h : Q .ret s) : Wp F .ret s Q := ⟨0, _, _, rfl, h⟩
theorem Wp.exit {i : Nat} {s : St} {Q : Ex → St → Prop} (h : Q (.exit i) s) : Wp F (.exit i) s Q := ⟨0, _, _, rfl, h⟩
theorem Wp.label {i : Nat} {s : St} {Q : Ex → St → Prop} (h : Q .normal s) : Wp F (.label i) s Q := ⟨0, _, _, rfl, h⟩
theorem Wp.goto {i : Nat} {s : St} {Q : Ex → St → Prop} (h : Q (.goto i) s) : Wp F (.goto i) s Q := ⟨0, _, _, rfl, h⟩

/-- What stands behind goes on where it came through. -/
def thenQ (F : FTab) (b : IC) (Q : Ex → St → Prop) : Ex → St → Prop
  | .normal, s => Wp F b s Q
  | e, s => Q e s

theorem Wp.seq {a b : IC} {s : St} {Q : Ex → St → Prop} (h : Wp F a s (thenQ F b Q)) : Wp F (.seq a b) s Q := by
  obtain ⟨n, e, s', h1, h2⟩ := h
  cases e with
  | normal =>
    obtain ⟨m, e2, s2, h3, h4⟩ := h2
    refine ⟨max n m, e2, s2, ?_, h4⟩
    simp only [exec]
    rw [exec_le (Nat.le_max_left n m) h1]
    exact exec_le (Nat.le_max_right n m) h3
  | _ => exact ⟨n, _, s', by simp only [exec]; rw [h1], h2⟩

theorem Wp.cond {x : IX} {a b : IC} {s : St} {Q : Ex → St → Prop} (c : Bool) (hx : ev s.1 x = .bool c) (h : if c = true then Wp F a s Q else Wp F b s Q) : Wp F (.cond x a b) s Q := by
  cases c with
  | true =>
    obtain ⟨n, e, s', h1, h2⟩ : Wp F a s Q := by simpa using h
    exact ⟨n, e, s', by simp only [exec, hx]; exact h1, h2⟩
  | false =>
    obtain ⟨n, e, s', h1, h2⟩ : Wp F b s Q := by simpa using h
    exact ⟨n, e, s', by simp only [exec, hx]; exact h1, h2⟩

/-- A block's exit ends it. -/
def blockQ (id : Nat) (Q : Ex → St → Prop) : Ex → St → Prop
  | .exit i, s => if i = id then Q .normal s else Q (.exit i) s
  | e, s => Q e s

theorem Wp.block {id : Nat} {a : IC} {s : St} {Q : Ex → St → Prop} (h : Wp F a s (blockQ id Q)) : Wp F (.block id a) s Q := by
  obtain ⟨n, e, s', h1, h2⟩ := h
  cases e with
  | exit i =>
    have h2 : if i = id then Q .normal s' else Q (.exit i) s' := h2
    by_cases hi : i = id
    · rw [if_pos hi] at h2
      exact ⟨n, .normal, s', by simp only [exec]; rw [h1]; simp [hi], h2⟩
    · rw [if_neg hi] at h2
      exact ⟨n, .exit i, s', by simp only [exec]; rw [h1]; simp [hi], h2⟩
  | _ => exact ⟨n, _, s', by simp only [exec]; rw [h1], h2⟩

theorem Wp.loop {a : IC} {s : St} {Q : Ex → St → Prop} (h : Wp F a s (thenQ F (.loop a) Q)) : Wp F (.loop a) s Q := by
  obtain ⟨n, e, s', h1, h2⟩ := h
  cases e with
  | normal =>
    obtain ⟨m, e2, s2, h3, h4⟩ := h2
    refine ⟨max n m + 1, e2, s2, ?_, h4⟩
    simp only [exec, rounds]
    rw [exec_le (by omega : n ≤ max n m + 1) h1]
    simp only []
    have h3 : rounds (exec (mach F m).call (mach F m).code m a) m s' = some (e2, s2) := h3
    exact rounds_mono (fun s r h => exec_le (by omega) h) m (max n m) s' _ (by omega) h3
  | _ => exact ⟨n + 1, _, s', by simp only [exec, rounds]; rw [exec_le (Nat.le_succ n) h1], h2⟩

theorem Wp.region {l : List IOper} {ts : List AV} {h : H} {Q : Ex → St → Prop} (hw : Wo F l ts h (fun ts' h' => Q .normal (ts', h'))) : Wp F (.region l) (ts, h) Q := by
  obtain ⟨n, ts', h', h1, h2⟩ := hw
  exact ⟨n, .normal, (ts', h'), by simp only [exec, h1]; rfl, h2⟩

theorem Wo.nil {ts : List AV} {h : H} {Q : List AV → H → Prop} (hq : Q ts h) : Wo F [] ts h Q := ⟨0, ts, h, rfl, hq⟩

/-- An operation that answers by itself. -/
theorem Wo.val {o : IOper} {l : List IOper} {ts : List AV} {h : H} {Q : List AV → H → Prop} (v : AV) (h' : H) (hg : wanted o.guard ts = true) (hi : iop o.op (ev ts) h = some (.val v h')) (hw : Wo F l (put ts o.dst v) h' Q) : Wo F (o :: l) ts h Q := by
  obtain ⟨n, ts2, h2, h3, h4⟩ := hw
  exact ⟨n, ts2, h2, by simp only [runOps, oneOp, hg, hi, if_true]; exact h3, h4⟩

theorem Wo.call {o : IOper} {l : List IOper} {ts : List AV} {h : H} {Q : List AV → H → Prop} {f : FuncId} {args : List AV} (hg : wanted o.guard ts = true) (hi : iop o.op (ev ts) h = some (.call f args)) {v : AV} {h' : H} (hr : Runs F f args h v h') (hw : Wo F l (put ts o.dst v) h' Q) : Wo F (o :: l) ts h Q := by
  obtain ⟨n, h1⟩ := hr
  obtain ⟨m, ts2, h2, h3, h4⟩ := hw
  refine ⟨max n m, ts2, h2, ?_, h4⟩
  have e1 := (mach_le F (Nat.le_max_left n m)).1 _ _ _ _ h1
  have e2 := runOps_mono (mach_le F (Nat.le_max_right n m)).1 _ _ _ _ h3
  simp only [runOps, oneOp, hg, hi, if_true, e1]
  exact e2

theorem Wo.not {o : IOper} {l : List IOper} {ts : List AV} {h : H} {Q : List AV → H → Prop} (hg : wanted o.guard ts = false) (hw : Wo F l (put ts o.dst .undef) h Q) : Wo F (o :: l) ts h Q := by
  obtain ⟨n, ts2, h2, h3, h4⟩ := hw
  exact ⟨n, ts2, h2, by simp only [runOps, hg]; exact h3, h4⟩

/-- A function's run is its code's. -/
theorem Runs.of {f : FuncId} {fn : IFunc} (hF : F f = some fn) (hk : fn.known = false) {args : List AV} {h : H} {v : AV} {h' : H}
    (hw : Wp F fn.body (args ++ List.replicate (fn.ntmps - args.length) .undef, h) (fun e s => (e = .normal ∨ e = .ret) ∧ s.2 = h' ∧ retV s.2 s.1 fn.results = some v)) : Runs F f args h v h' := by
  obtain ⟨n, e, s', h1, h2, h3, h4⟩ := hw
  refine ⟨n + 1, ?_⟩
  show callStep F n (mach F n) f args h = _
  unfold callStep
  rw [hF]
  simp only [hk, Bool.false_eq_true, if_false, h1]
  subst h3
  rcases h2 with rfl | rfl <;> simp only [h4, Option.map_some]

/-! ### The same as equivalences, for simp: a walk is one simp up to loops and calls -/

theorem skip_iff {s : St} {Q : Ex → St → Prop} : Wp F .skip s Q ↔ Q .normal s :=
  ⟨fun ⟨n, e, s', h1, h2⟩ => by simp only [exec, Option.some.injEq, Prod.mk.injEq] at h1; obtain ⟨rfl, rfl⟩ := h1; exact h2, Wp.skip⟩
theorem ret_iff {s : St} {Q : Ex → St → Prop} : Wp F .ret s Q ↔ Q .ret s :=
  ⟨fun ⟨n, e, s', h1, h2⟩ => by simp only [exec, Option.some.injEq, Prod.mk.injEq] at h1; obtain ⟨rfl, rfl⟩ := h1; exact h2, Wp.ret⟩
theorem exit_iff {i : Nat} {s : St} {Q : Ex → St → Prop} : Wp F (.exit i) s Q ↔ Q (.exit i) s :=
  ⟨fun ⟨n, e, s', h1, h2⟩ => by simp only [exec, Option.some.injEq, Prod.mk.injEq] at h1; obtain ⟨rfl, rfl⟩ := h1; exact h2, Wp.exit⟩

theorem seq_iff {a b : IC} {s : St} {Q : Ex → St → Prop} : Wp F (.seq a b) s Q ↔ Wp F a s (thenQ F b Q) := by
  refine ⟨?_, Wp.seq⟩
  rintro ⟨n, e, s', h1, h2⟩
  simp only [exec] at h1
  split at h1
  · rename_i s1 h3; exact ⟨n, _, s1, h3, n, e, s', h1, h2⟩
  · rename_i hne
    refine ⟨n, e, s', h1, ?_⟩
    cases e with
    | normal => exact absurd h1 (hne _)
    | _ => exact h2

theorem block_iff {id : Nat} {a : IC} {s : St} {Q : Ex → St → Prop} : Wp F (.block id a) s Q ↔ Wp F a s (blockQ id Q) := by
  refine ⟨?_, Wp.block⟩
  rintro ⟨n, e, s', h1, h2⟩
  simp only [exec] at h1
  split at h1
  · rename_i i s1 h3
    refine ⟨n, _, s1, h3, ?_⟩
    show if i = id then Q .normal s1 else Q (.exit i) s1
    by_cases hi : i = id
    · rw [if_pos hi]; simp only [hi, BEq.rfl, if_true, Option.some.injEq, Prod.mk.injEq] at h1; obtain ⟨rfl, rfl⟩ := h1; exact h2
    · rw [if_neg hi]; rw [if_neg (by simpa using hi)] at h1; simp only [Option.some.injEq, Prod.mk.injEq] at h1; obtain ⟨rfl, rfl⟩ := h1; exact h2
  · rename_i hne
    refine ⟨n, e, s', h1, ?_⟩
    cases e with
    | exit i => exact absurd h1 (hne _ _)
    | _ => exact h2

theorem thenQ_normal {b : IC} {Q : Ex → St → Prop} {s : St} : thenQ F b Q .normal s ↔ Wp F b s Q := Iff.rfl
theorem thenQ_ret {b : IC} {Q : Ex → St → Prop} {s : St} : thenQ F b Q .ret s ↔ Q .ret s := Iff.rfl
theorem thenQ_exit {b : IC} {Q : Ex → St → Prop} {s : St} {i : Nat} : thenQ F b Q (.exit i) s ↔ Q (.exit i) s := Iff.rfl
theorem thenQ_goto {b : IC} {Q : Ex → St → Prop} {s : St} {i : Nat} : thenQ F b Q (.goto i) s ↔ Q (.goto i) s := Iff.rfl
theorem blockQ_normal {id : Nat} {Q : Ex → St → Prop} {s : St} : blockQ id Q .normal s ↔ Q .normal s := Iff.rfl
theorem blockQ_ret {id : Nat} {Q : Ex → St → Prop} {s : St} : blockQ id Q .ret s ↔ Q .ret s := Iff.rfl
theorem blockQ_exit {id i : Nat} {Q : Ex → St → Prop} {s : St} : blockQ id Q (.exit i) s ↔ if i = id then Q .normal s else Q (.exit i) s := Iff.rfl
theorem blockQ_goto {id i : Nat} {Q : Ex → St → Prop} {s : St} : blockQ id Q (.goto i) s ↔ Q (.goto i) s := Iff.rfl

/-- Two ways, by a value. -/
def condQ (v : AV) (A B : Prop) : Prop := match v with
  | .bool c => (c = true → A) ∧ (c = false → B)
  | _ => False

theorem condQ_bool {c : Bool} {A B : Prop} : condQ (.bool c) A B ↔ if c = true then A else B := by cases c <;> simp [condQ]

theorem cond_iff {x : IX} {a b : IC} {ts : List AV} {h : H} {Q : Ex → St → Prop} : Wp F (.cond x a b) (ts, h) Q ↔ condQ (ev ts x) (Wp F a (ts, h) Q) (Wp F b (ts, h) Q) := by
  constructor
  · rintro ⟨n, e, s', h1, h2⟩
    simp only [exec] at h1
    split at h1
    · rename_i hx; rw [hx]; exact ⟨fun _ => ⟨n, e, s', h1, h2⟩, fun h => by simp at h⟩
    · rename_i hx; rw [hx]; exact ⟨fun h => by simp at h, fun _ => ⟨n, e, s', h1, h2⟩⟩
    · simp at h1
  · intro hc
    unfold condQ at hc
    split at hc
    · rename_i c hx
      refine Wp.cond c hx ?_
      cases c with
      | true => simpa using hc.1
      | false => simpa using hc.2
    · exact hc.elim

theorem region_iff {l : List IOper} {ts : List AV} {h : H} {Q : Ex → St → Prop} : Wp F (.region l) (ts, h) Q ↔ Wo F l ts h (fun ts' h' => Q .normal (ts', h')) := by
  refine ⟨?_, Wp.region⟩
  rintro ⟨n, e, s', h1, h2⟩
  simp only [exec, Option.map_eq_some_iff, Prod.mk.injEq] at h1
  obtain ⟨⟨ts', h'⟩, h3, rfl, rfl⟩ := h1
  exact ⟨n, ts', h', h3, h2⟩

theorem wo_nil {ts : List AV} {h : H} {Q : List AV → H → Prop} : Wo F [] ts h Q ↔ Q ts h :=
  ⟨fun ⟨n, ts', h', h1, h2⟩ => by simp only [runOps, Option.some.injEq, Prod.mk.injEq] at h1; obtain ⟨rfl, rfl⟩ := h1; exact h2, Wo.nil⟩

/-- What an operation's answer leads to. -/
def ansQ (F : FTab) (a : Option Ans) (h : H) (K : AV → H → Prop) : Prop := match a with
  | some (.val v h') => K v h'
  | some (.call f args) => ∃ v h', Runs F f args h v h' ∧ K v h'
  | none => False

theorem ansQ_val {v : AV} {h h' : H} {K : AV → H → Prop} : ansQ F (some (.val v h')) h K ↔ K v h' := Iff.rfl
theorem ansQ_call {f : FuncId} {args : List AV} {h : H} {K : AV → H → Prop} : ansQ F (some (.call f args)) h K ↔ ∃ v h', Runs F f args h v h' ∧ K v h' := Iff.rfl

/-- Simp goes into an answer, not into what it leads to. -/
theorem ansQ_congr {a a' : Option Ans} {h : H} {K : AV → H → Prop} (e : a = a') : ansQ F a h K = ansQ F a' h K := by rw [e]
theorem condQ_congr {v v' : AV} {A B : Prop} (e : v = v') : condQ v A B = condQ v' A B := by rw [e]

theorem Wo_congr {l : List IOper} {ts ts' : List AV} {h h' : H} {Q : List AV → H → Prop} (e : ts = ts') (e' : h = h') : Wo F l ts h Q = Wo F l ts' h' Q := by rw [e, e']
theorem Wp_congr {c : IC} {s s' : St} {Q : Ex → St → Prop} (e : s = s') : Wp F c s Q = Wp F c s' Q := by rw [e]

theorem wo_cons {d : Option Nat} {op : IOp} {l : List IOper} {ts : List AV} {h : H} {Q : List AV → H → Prop} : Wo F (⟨d, op, none⟩ :: l) ts h Q ↔ ansQ F (iop op (ev ts) h) h (fun v h' => Wo F l (put ts d v) h' Q) := by
  constructor
  · rintro ⟨n, ts', h', h1, h2⟩
    simp only [runOps, wanted, if_true, oneOp] at h1
    unfold ansQ
    split at h1
    · rename_i v h3 h4
      split at h4
      · rename_i hi
        simp only [Option.some.injEq, Prod.mk.injEq] at h4
        obtain ⟨rfl, rfl⟩ := h4
        rw [hi]
        exact ⟨n, ts', h', h1, h2⟩
      · rename_i hi
        rw [hi]
        exact ⟨v, h3, ⟨n, h4⟩, n, ts', h', h1, h2⟩
      · simp at h4
    · simp at h1
  · intro hq
    unfold ansQ at hq
    split at hq
    · rename_i hi; exact Wo.val _ _ rfl hi hq
    · rename_i hi; obtain ⟨v, h', h1, h2⟩ := hq; exact Wo.call rfl hi h1 h2
    · exact hq.elim

/-- An operation under a guard. -/
theorem wo_guard {d : Option Nat} {op : IOp} {t : Nat} {w : Bool} {l : List IOper} {ts : List AV} {h : H} {Q : List AV → H → Prop} : Wo F (⟨d, op, some (t, w)⟩ :: l) ts h Q ↔ if wanted (some (t, w)) ts = true then Wo F (⟨d, op, none⟩ :: l) ts h Q else Wo F l (put ts d .undef) h Q := by
  constructor
  · rintro ⟨n, ts', h', h1, h2⟩
    simp only [runOps] at h1
    split at h1
    · rename_i hw
      rw [if_pos hw]
      exact ⟨n, ts', h', by simp only [runOps, wanted, if_true]; exact h1, h2⟩
    · rename_i hw
      rw [if_neg hw]
      exact ⟨n, ts', h', h1, h2⟩
  · intro hq
    split at hq
    · rename_i hw
      obtain ⟨n, ts', h', h3, h4⟩ := hq
      refine ⟨n, ts', h', ?_, h4⟩
      simp only [runOps, wanted, if_true] at h3
      simp only [runOps]
      rw [if_pos hw]
      exact h3
    · rename_i hw
      obtain ⟨n, ts', h', h3, h4⟩ := hq
      refine ⟨n, ts', h', ?_, h4⟩
      simp only [runOps]
      rw [if_neg hw]
      exact h3

/-- A function of which a contract is known. -/
theorem Runs.nat {f : FuncId} {fn : IFunc} {g : NatF} (hF : F f = some { fn with known := true, nat := some g }) {args : List AV} {h h' : H} {v : AV} (hg : g args h = some (v, h')) : Runs F f args h v h' := by
  refine ⟨1, ?_⟩
  show callStep F 0 (mach F 0) f args h = _
  unfold callStep
  rw [hF]
  exact hg

/-- A function that is known. -/
theorem Runs.known {f : FuncId} (hF : F f = some { ntmps := 0, results := [], body := .skip, known := true }) (h : H) : Runs F f [] h (.bool true) h := by
  refine ⟨1, ?_⟩
  show callStep F 0 (mach F 0) f [] h = _
  unfold callStep
  rw [hF]
  rfl

end rules

/-- The walk: what simp takes. -/
theorem Runs.of' {F : FTab} {f : FuncId} {fn : IFunc} (hF : F f = some fn) {args : List AV} {h : H} {v : AV} {h' : H} {n : Nat} {R : List (Nat × Option (Option Nat))} {B : IC} (hfn : fn = { ntmps := n, results := R, body := B, known := false })
    (hw : Wp F B (args ++ List.replicate (n - args.length) .undef, h) (fun e s => (e = .normal ∨ e = .ret) ∧ s.2 = h' ∧ retV s.2 s.1 R = some v)) : Runs F f args h v h' := by
  subst hfn
  exact Runs.of hF rfl hw

/-- The same where the result is not named ahead. -/
theorem Runs.ofP {F : FTab} {f : FuncId} {fn : IFunc} (hF : F f = some fn) {args : List AV} {h : H} {P : AV → H → Prop} {n : Nat} {R : List (Nat × Option (Option Nat))} {B : IC} (hfn : fn = { ntmps := n, results := R, body := B, known := false })
    (hw : Wp F B (args ++ List.replicate (n - args.length) .undef, h) (fun e s => (e = .normal ∨ e = .ret) ∧ ∃ v, retV s.2 s.1 R = some v ∧ P v s.2)) : ∃ v h', Runs F f args h v h' ∧ P v h' := by
  obtain ⟨k, e, s', h1, h2, v, h3, h4⟩ := hw
  refine ⟨v, s'.2, Runs.of' hF hfn ⟨k, e, s', h1, h2, rfl, h3⟩, h4⟩

end Go.Det
