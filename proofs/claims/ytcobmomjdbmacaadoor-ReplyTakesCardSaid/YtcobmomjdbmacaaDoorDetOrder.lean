/- A region whose order is drawn, the proof: whatever is taken next, the state stays that of the run in one order. -/
import Derived.Test.YtcobmomjdbmacaaDoorDetDraw
set_option linter.unusedVariables false
set_option linter.unusedSimpArgs false
set_option linter.unusedSectionVars false
namespace Go.Det
open Go.RowKit

theorem WRel.ext {μ : Mu} {w0 : World} {ng : Nat} {h h2 : H} {w : World} (W : WRel μ w0 ng h w) (hn : h.n ≤ h2.n) (hg : ∀ b, b < h.n → h2.get b = h.get b) : WRel μ w0 ng h2 w ∧ Adv μ h w μ h2 w := by
  have back : ∀ b g rb, μ b g = some rb → h2.get b = h.get b := fun b g rb e => hg b (W.dom b g rb e).2.1
  refine ⟨⟨W.base, W.glob, ?_, ?_, ?_⟩, ⟨Mu.le.refl μ, Nat.le_refl _, hn, fun _ _ _ => rfl, fun _ g rb e => .inl ⟨g, rb, e, .inl rfl⟩, fun b hb _ => hg b hb⟩⟩
  · intro b g rb e
    obtain ⟨h1, h2', B, h3, h4⟩ := W.dom b g rb e
    exact ⟨h1, Nat.lt_of_lt_of_le h2' hn, B, by rw [back b g rb e]; exact h3, h4⟩
  · intro b B rb h1 h2'
    exact W.blk b B rb (by rw [← back _ _ _ h2']; exact h1) h2'
  · intro b B rb b' B' rb' h1 h2' h3 h4
    exact W.inj b B rb b' B' rb' (by rw [← back _ _ _ h3]; exact h1) (by rw [← back _ _ _ h4]; exact h2') h3 h4

section
variable {P : Program} {w0 : World} {cf : CallF} {ops : Array Oper} {dl : List DOper} (E : Env P ops dl)
  {T : Nat → List AV} {Hh : Nat → H} {Pp : Nat → Pend} {V : Nat → AV}
  (step : ∀ (p : Nat) (o : DOper), dl[p]? = some o → StepD cf o (T p) (Hh p) (Pp p) (V p) (T (p + 1)) (Hh (p + 1)) (Pp (p + 1)))

theorem comp_of {O : Oper} {o : IOper} (h : compOper P ops O = some o) : compOp P O.op O.type = some o.op ∧ O.dst = o.dst ∧ (O.guard = none → o.guard = none) ∧ ∀ j w, O.guard = some (j, w) → ∃ d, (ops[j]?).bind (·.dst) = some d ∧ o.guard = some (d, w) := by
  unfold compOper at h
  split at h
  · simp at h
  · rename_i X hX
    split at h
    · rename_i hg
      simp only [Option.some.injEq] at h
      subst h
      exact ⟨hX, rfl, fun _ => rfl, fun j w e => by rw [hg] at e; simp at e⟩
    · rename_i j wt hg
      split at h
      · rename_i d hd
        simp only [Option.some.injEq] at h
        subst h
        exact ⟨hX, rfl, fun e => by rw [hg] at e; simp at e, fun j' w' e => by rw [hg] at e; simp only [Option.some.injEq, Prod.mk.injEq] at e; obtain ⟨rfl, rfl⟩ := e; exact ⟨d, hd, rfl⟩⟩
      · simp at h

/-- An operation that is no act answers by itself. -/
theorem quiet_one {X : IOp} (hq : isAct X = false) {ts : List AV} {h h' : H} {v : AV} (ho : oneOp cf X ts h = some (v, h')) : iop X (ev ts) h = some (.val v h') := by
  unfold oneOp at ho
  split at ho
  · rename_i v1 h1 hi
    simp only [Option.some.injEq, Prod.mk.injEq] at ho
    obtain ⟨rfl, rfl⟩ := ho
    exact hi
  · rename_i f args hi
    exfalso
    rcases iop_is_call hi with ⟨as, rfl, _⟩ | ⟨g, as, _, _, rfl, _⟩ <;> simp [isAct, isPure, isAl, isRd] at hq
  · simp at ho

include E step in
theorem quiet_step {p : Nat} {x : DOper} (hx : dl[p]? = some x) (hq : x.act = false) : Hh (p + 1) = Hh p ∨ (isAl x.op = true ∧ wanted x.guard (T p) = true ∧ ∃ B, Hh (p + 1) = (Hh p).new B) := by
  obtain ⟨O, hO, hc, hact⟩ := E.comp p x hx
  obtain ⟨s1, s2, s3, s4, s5⟩ := step p x hx
  rw [hact] at hq
  by_cases hw : wanted x.guard (T p) = true
  · have hi := quiet_one hq (s3 hw)
    have hcls : isPure x.op = true ∨ isAl x.op = true ∨ isRd x.op = true := by
      simp only [isAct, Bool.not_eq_false', Bool.or_eq_true] at hq
      rcases hq with (h | h) | h
      · exact .inl h
      · exact .inr (.inl h)
      · exact .inr (.inr h)
    rcases hcls with h | h | h
    · exact .inl (pure_any h hi).1
    · obtain ⟨B, Vb, h1, _⟩ := al_sound (comp_of hc).1 h hi none "" #[] none
      exact .inr ⟨h, hw, B, h1⟩
    · exact .inl (rd_still h hi)
  · exact .inl (s4 (by simpa using hw)).2

include E step in
theorem seg {s e : Nat} (hse : s ≤ e) (hq : ∀ (q : Nat) (x : DOper), s ≤ q → q < e → dl[q]? = some x → x.act = false) (hl : e ≤ dl.length) : (Hh s).n ≤ (Hh e).n ∧ (∀ b, b < (Hh s).n → (Hh e).get b = (Hh s).get b) ∧ ∀ z, z ∈ Pp s → z ∈ Pp e := by
  induction e with
  | zero => have : s = 0 := by omega
            subst this; exact ⟨Nat.le_refl _, fun _ _ => rfl, fun _ h => h⟩
  | succ e ih =>
    by_cases hs : s = e + 1
    · subst hs; exact ⟨Nat.le_refl _, fun _ _ => rfl, fun _ h => h⟩
    · obtain ⟨h1, h2, h3⟩ := ih (by omega) (fun q x a b c => hq q x a (by omega) c) (by omega)
      have hx : dl[e]? = some dl[e] := by simp
      have hact := hq e _ (by omega) (by omega) hx
      obtain ⟨s1, s2, s3, s4, s5⟩ := step e _ hx
      have hpend : ∀ z, z ∈ Pp s → z ∈ Pp (e + 1) := by
        intro z hz
        rw [s5 hact]
        split
        · unfold Pend.add; split
          · exact List.mem_cons_of_mem _ (h3 z hz)
          · exact h3 z hz
        · exact h3 z hz
      rcases quiet_step E step hx hact with he | ⟨_, _, B, he⟩
      · rw [he]; exact ⟨h1, h2, hpend⟩
      · rw [he]
        exact ⟨by simp; omega, fun b hb => by rw [(Hh e).get_new_ne b B (by omega)]; exact h2 b hb, hpend⟩

theorem next_act (dl : List DOper) (s : Nat) (hs : s ≤ dl.length) : ∃ c, s ≤ c ∧ c ≤ dl.length ∧ (c = dl.length ∨ ∃ x, dl[c]? = some x ∧ x.act = true) ∧ ∀ (q : Nat) (x : DOper), s ≤ q → q < c → dl[q]? = some x → x.act = false := by
  obtain ⟨k, hk⟩ : ∃ k, k = dl.length - s := ⟨_, rfl⟩
  induction k generalizing s with
  | zero => exact ⟨s, Nat.le_refl _, hs, .inl (by omega), fun q x a b => by omega⟩
  | succ k ih =>
    have hx : dl[s]? = some dl[s] := by simp
    cases ha : dl[s].act with
    | true => exact ⟨s, Nat.le_refl _, hs, .inr ⟨_, hx, ha⟩, fun q x a b => by omega⟩
    | false =>
      obtain ⟨c, h1, h2, h3, h4⟩ := ih (s + 1) (by omega) (by omega)
      refine ⟨c, by omega, h2, h3, ?_⟩
      intro q x a b hq
      by_cases e : q = s
      · subst e; rw [hx] at hq; cases hq; exact ha
      · exact h4 q x (by omega) b hq

/-! ### The slots -/

/-- A slot's value, when just the operations of D have been taken. -/
def vD (dl : List DOper) (V : Nat → AV) (ts0 : List AV) (D : Nat → Bool) : Nat → Nat → Option AV
  | 0, t => getL ts0 t
  | q + 1, t => match dl[q]? with
    | some x => if D x.id = true ∧ x.dst = some t ∧ t < ts0.length then some (V q) else vD dl V ts0 D q t
    | none => vD dl V ts0 D q t

theorem getL_setL {α : Type} : ∀ (l : List α) (i : Nat) (v : α) (t : Nat), getL (setL l i v) t = if t = i ∧ t < l.length then some v else getL l t
  | [], i, v, t => by simp [setL, getL]
  | x :: l, 0, v, 0 => by simp [setL, getL]
  | x :: l, 0, v, t + 1 => by simp [setL, getL]
  | x :: l, i + 1, v, 0 => by simp [setL, getL]
  | x :: l, i + 1, v, t + 1 => by simp [setL, getL, getL_setL l i v t]

theorem length_setL {α : Type} : ∀ (l : List α) (i : Nat) (v : α), (setL l i v).length = l.length
  | [], _, _ => rfl
  | _ :: _, 0, _ => rfl
  | _ :: l, i + 1, v => by simp [setL, length_setL l i v]

include step in
theorem T_len {n0 : Nat} (h0 : (T 0).length = n0) : ∀ p, p ≤ dl.length → (T p).length = n0
  | 0, _ => h0
  | p + 1, hp => by
    have hx : dl[p]? = some dl[p] := by simp
    rw [(step p _ hx).1]
    unfold Det.put
    split
    · exact T_len h0 p (by omega)
    · rw [length_setL]; exact T_len h0 p (by omega)

include step in
theorem T_is : ∀ p, p ≤ dl.length → ∀ t, getL (T p) t = vD dl V (T 0) (fun _ => true) p t
  | 0, _, t => rfl
  | p + 1, hp, t => by
    have hx : dl[p]? = some dl[p] := by simp
    have ih := T_is p (by omega) t
    have hlen := T_len (dl := dl) (T := T) step rfl p (by omega)
    rw [(step p _ hx).1]
    simp only [vD, hx, true_and]
    unfold Det.put
    cases hd : dl[p].dst with
    | none => simp [ih]
    | some d =>
      simp only [getL_setL, hlen, ih, Option.some.injEq]
      by_cases e : t = d
      · subst e; by_cases hl : t < (T 0).length <;> simp [hl]
      · simp [e, Ne.symm e]

/-- Until p: where all that write the slot have been taken. -/
theorem vD_all {ts0 : List AV} {D : Nat → Bool} {t : Nat} : ∀ q, (∀ (q' : Nat) (x : DOper), q' < q → dl[q']? = some x → x.dst = some t → D x.id = true) → vD dl V ts0 D q t = vD dl V ts0 (fun _ => true) q t
  | 0, _ => rfl
  | q + 1, h => by
    have ih := vD_all (ts0 := ts0) q (fun q' x a b c => h q' x (by omega) b c)
    simp only [vD]
    split
    · rename_i x hx
      by_cases hd : x.dst = some t
      · simp [h q x (by omega) hx hd, hd, ih]
      · simp [hd, ih]
    · exact ih

/-- Between: where none that writes the slot has been taken. -/
theorem vD_none {ts0 : List AV} {D : Nat → Bool} {t : Nat} {p : Nat} : ∀ q, p ≤ q → (∀ (q' : Nat) (x : DOper), p ≤ q' → q' < q → dl[q']? = some x → x.dst = some t → D x.id = false) → vD dl V ts0 D q t = vD dl V ts0 D p t
  | 0, hp, _ => by have : p = 0 := by omega
                   subst this; rfl
  | q + 1, hp, h => by
    by_cases e : p = q + 1
    · subst e; rfl
    · have ih := vD_none (ts0 := ts0) q (by omega) (fun q' x a b c d => h q' x a (by omega) c d)
      simp only [vD]
      split
      · rename_i x hx
        by_cases hd : x.dst = some t
        · simp [h q x (by omega) (by omega) hx hd, ih]
        · simp [hd, ih]
      · exact ih

/-- D, and one more. -/
def more (D : Nat → Bool) (i : Nat) : Nat → Bool := fun j => D j || j == i

include E in
/-- One more is taken: its own slot is its own value. -/
theorem vD_more {ts0 : List AV} {D : Nat → Bool} (hclos : ∀ (p : Nat) (x : DOper), dl[p]? = some x → D x.id = true → ∀ A, x.mask.testBit A = true → D A = true) {p : Nat} {x : DOper} (hx : dl[p]? = some x) (hp : D x.id = false) (t : Nat) :
    vD dl V ts0 (more D x.id) dl.length t = if x.dst = some t ∧ t < ts0.length then some (V p) else vD dl V ts0 D dl.length t := by
  have hlt : p < dl.length := (List.getElem?_eq_some_iff.1 hx).1
  -- behind p no writer of its slot has been taken
  have hbehind : x.dst = some t → ∀ (q : Nat) (y : DOper), p + 1 ≤ q → q < dl.length → dl[q]? = some y → y.dst = some t → more D x.id y.id = false := by
    intro hd q y h1 h2 hy hyd
    obtain ⟨O, hO, _, _⟩ := E.comp q y hy
    have hne : p ≠ q := by omega
    have hid : y.id ≠ x.id := fun e => hne (E.inj p q x y hx hy e.symm)
    cases hDy : D y.id with
    | false => simp [more, hDy, hid]
    | true =>
      exfalso
      rcases E.slots p q x y hne hx hy t O hd hO (.inl hyd) with h | h
      · have := hclos q y hy hDy _ h; rw [hp] at this; simp at this
      · rw [E.topo p q x y (by omega) hx hy] at h; simp at h
  have hother : ∀ q, q ≤ dl.length → ¬ (x.dst = some t ∧ t < ts0.length) → vD dl V ts0 (more D x.id) q t = vD dl V ts0 D q t := by
    intro q
    induction q with
    | zero => intro _ _; rfl
    | succ q ih =>
      intro hq hn
      have ih := ih (by omega) hn
      simp only [vD]
      split
      · rename_i y hy
        by_cases hyx : y.id = x.id
        · have := E.inj q p y x hy hx hyx
          subst this
          rw [hx] at hy; cases hy
          rw [if_neg (fun h => hn h.2), if_neg (fun h => hn h.2), ih]
        · have : more D x.id y.id = D y.id := by simp [more, hyx]
          rw [this, ih]
      · exact ih
  by_cases hd : x.dst = some t ∧ t < ts0.length
  · rw [if_pos hd, vD_none dl.length (by omega : p + 1 ≤ dl.length) (hbehind hd.1)]
    simp [vD, hx, more, hd]
  · rw [if_neg hd]
    exact hother dl.length (Nat.le_refl _) hd

include E step in
/-- What an operation that is to be taken reads is what it reads in the one order. -/
theorem vD_reads {D : Nat → Bool} (hclos : ∀ (p : Nat) (x : DOper), dl[p]? = some x → D x.id = true → ∀ A, x.mask.testBit A = true → D A = true) {p : Nat} {x : DOper} (hx : dl[p]? = some x) (hp : D x.id = false) (hpre : ∀ A, x.mask.testBit A = true → D A = true)
    {O : Oper} (hO : ops[x.id]? = some O) {t : Nat} (ht : t ∈ namesOf ops O) : vD dl V (T 0) D dl.length t = getL (T p) t := by
  have hlt : p < dl.length := (List.getElem?_eq_some_iff.1 hx).1
  rw [T_is step p (by omega) t]
  have key : ∀ (q : Nat) (y : DOper), q ≠ p → dl[q]? = some y → y.dst = some t → x.mask.testBit y.id = true ∨ y.mask.testBit x.id = true := fun q y hne hy hd => E.slots q p y x hne hy hx t O hd hO (.inr ht)
  rw [vD_none (p := p) dl.length (by omega)]
  · refine vD_all p ?_
    intro q y hq hy hd
    rcases key q y (by omega) hy hd with h | h
    · exact hpre _ h
    · rw [E.topo q p y x (by omega) hy hx] at h; simp at h
  · intro q y h1 h2 hy hd
    by_cases e : q = p
    · subst e; rw [hx] at hy; cases hy; exact hp
    · rcases key q y e hy hd with h | h
      · rw [E.topo p q x y (by omega) hx hy] at h; simp at h
      · cases hDy : D y.id with
        | false => rfl
        | true => have := hclos q y hy hDy _ h; rw [hp] at this; simp at this

/-! ### The state, wherever the real machine stands -/

structure Inv (P : Program) (w0 : World) (ops : Array Oper) (dl : List DOper) (T : Nat → List AV) (Hh : Nat → H) (Pp : Nat → Pend) (V : Nat → AV) (μ0 : Mu) (wi : World) (D : Nat → Bool) (c : Nat) (μ : Mu) (a : Act) (w : World) : Prop where
  down : ∀ (j : Nat) (O : Oper), ops[j]? = some O → D j = true → ∀ e ∈ O.after, Region.binds .any e = true → D e.on = true
  cle : c ≤ dl.length
  lt : ∀ (p : Nat) (x : DOper), dl[p]? = some x → D x.id = true → p < c
  acts : ∀ (p : Nat) (x : DOper), dl[p]? = some x → p < c → x.act = true → D x.id = true
  sz : a.tmps.size = (T 0).length
  tm : ∀ t v, vD dl V (T 0) D dl.length t = some v → ∃ v', a.tmps[t]? = some v' ∧ VRel μ v v'
  df : a.defers = []
  W : WRel μ w0 0 (Hh c) w
  A : Adv μ0 (Hh 0) wi μ (Hh c) w
  mono : ∀ p q, p ≤ q → q ≤ c → (Hh p).n ≤ (Hh q).n
  al : ∀ (p : Nat) (x : DOper) (B : Blk), dl[p]? = some x → p < c → D x.id = false → isAl x.op = true → wanted x.guard (T p) = true → Hh (p + 1) = (Hh p).new B → (Hh c).get (Hh p).n = some B ∧ ∀ g rb, μ (Hh p).n g ≠ some rb
  rd : ∀ (p : Nat) (x : DOper) (r : IOp), dl[p]? = some x → p < c → D x.id = false → x.act = false → wanted x.guard (T p) = true → rdOp (ev (T p)) x.op = some r → (r, V p, x.id) ∈ Pp c

include E in
theorem Inv.clos {μ0 : Mu} {wi : World} {D : Nat → Bool} {c : Nat} {μ : Mu} {a : Act} {w : World} (I : Inv P w0 ops dl T Hh Pp V μ0 wi D c μ a w) : ∀ (p : Nat) (x : DOper), dl[p]? = some x → D x.id = true → ∀ A, x.mask.testBit A = true → D A = true :=
  E.clos D I.down

include E step in
/-- The operands of an operation that is to be taken. -/
theorem Inv.opd {μ0 : Mu} {wi : World} {D : Nat → Bool} {c : Nat} {μ : Mu} {a : Act} {w : World} (I : Inv P w0 ops dl T Hh Pp V μ0 wi D c μ a w) {p : Nat} {x : DOper} (hx : dl[p]? = some x) (hp : D x.id = false) (hpre : ∀ A, x.mask.testBit A = true → D A = true) {O : Oper} (hO : ops[x.id]? = some O) :
    (∀ t ∈ namesOf ops O, match getL (T p) t with | none => a.tmps[t]? = none | some v => ∃ v', a.tmps[t]? = some v' ∧ VRel μ v v') := by
  intro t ht
  have hlt : p < dl.length := (List.getElem?_eq_some_iff.1 hx).1
  have hr := vD_reads E step (I.clos E) hx hp hpre hO ht
  cases hg : getL (T p) t with
  | none =>
    have hlen : (T p).length = (T 0).length := T_len (dl := dl) (T := T) step rfl p (by omega)
    have hge : (T 0).length ≤ t := by
      rw [getL_eq, List.getElem?_eq_none_iff, hlen] at hg
      exact hg
    exact Array.getElem?_eq_none (by rw [I.sz]; exact hge)
  | some v => exact I.tm t v (hr.trans hg)

include E step in
theorem Inv.hρ {μ0 : Mu} {wi : World} {D : Nat → Bool} {c : Nat} {μ : Mu} {a : Act} {w : World} (I : Inv P w0 ops dl T Hh Pp V μ0 wi D c μ a w) {p : Nat} {x : DOper} (hx : dl[p]? = some x) (hp : D x.id = false) (hpre : ∀ A, x.mask.testBit A = true → D A = true) {O : Oper} (hO : ops[x.id]? = some O) :
    ∀ y ∈ O.op.operands, ∀ X, ofOpd P y = some X → VRel μ (ev (T p) X) (a.eval y) := by
  intro y hy X hX
  have hn := I.opd E step hx hp hpre hO
  cases y with
  | tmp t =>
    have ht : t ∈ namesOf ops O := by
      unfold namesOf
      refine List.mem_append_right _ (List.mem_filterMap.2 ⟨.tmp t, by simpa using hy, rfl⟩)
    have := hn t ht
    simp only [ofOpd, Option.some.injEq] at hX
    subst hX
    simp only [ev, Act.eval]
    cases e : getL (T p) t with
    | none =>
      rw [e] at this
      simp only [] at this
      simp only [Option.getD_none, Array.getD_eq_getD_getElem?, this]
      exact ⟨_, rfl, rfl⟩
    | some v =>
      rw [e] at this
      obtain ⟨v', h3, h4⟩ := this
      simpa only [Option.getD_some, Array.getD_eq_getD_getElem?, h3] using h4
  | const v =>
    have h := ev_rel (P := P) I.W (ts := []) (a := ⟨#[], []⟩) rfl (.const v) X hX
    simp only [ofOpd, Option.map_eq_some_iff] at hX
    obtain ⟨z, _, rfl⟩ := hX
    exact h
  | global g => simp [ofOpd] at hX
  | func f =>
    have h := ev_rel (P := P) I.W (ts := []) (a := ⟨#[], []⟩) rfl (.func f) X hX
    simp only [ofOpd, Option.some.injEq] at hX
    subst hX
    exact h

include E step in
theorem Inv.want {μ0 : Mu} {wi : World} {D : Nat → Bool} {c : Nat} {μ : Mu} {a : Act} {w : World} (I : Inv P w0 ops dl T Hh Pp V μ0 wi D c μ a w) {p : Nat} {x : DOper} (hx : dl[p]? = some x) (hp : D x.id = false) (hpre : ∀ A, x.mask.testBit A = true → D A = true) {O : Oper} (hO : ops[x.id]? = some O) (hc : compOper P ops O = some x.toIOper) :
    Region.wanted O (yielded ops a.tmps) = wanted x.guard (T p) := by
  obtain ⟨_, _, h1, h2⟩ := comp_of hc
  cases hg : O.guard with
  | none => rw [h1 hg]; simp [Region.wanted, hg, Det.wanted]
  | some jw =>
    obtain ⟨j, wt⟩ := jw
    obtain ⟨d, hd, hgd⟩ := h2 j wt hg
    rw [hgd]
    have ht : d ∈ namesOf ops O := by
      unfold namesOf
      simp only [hg]
      exact List.mem_append_left _ (by simp [hd])
    have hn := I.opd E step hx hp hpre hO d ht
    simp only [Region.wanted, hg, Det.wanted, yielded, hd, Option.bind_some]
    cases e : getL (T p) d with
    | none => rw [e] at hn; simp only [] at hn; simp [hn]
    | some v =>
      rw [e] at hn
      obtain ⟨v', h3, h4⟩ := hn
      simp only [h3]
      cases v <;> first
        | (cases h4; rfl)
        | (cases h4; simp; done)
        | (obtain ⟨_, _, rfl⟩ := h4; rfl)
        | (obtain ⟨_, _, rfl, _⟩ := h4; rfl)
        | (obtain ⟨_, rfl, _⟩ := h4; rfl)
        | (obtain ⟨_, _, rfl⟩ := sl_of h4; rfl)

end
end Go.Det
