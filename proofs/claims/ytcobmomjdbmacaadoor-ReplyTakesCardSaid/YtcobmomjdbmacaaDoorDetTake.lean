/- A region whose order is drawn: each operation that may be taken next keeps the state, so the whole region does what the run in one order does. -/
import Derived.Test.YtcobmomjdbmacaaDoorDetOrder
set_option linter.unusedVariables false
set_option linter.unusedSimpArgs false
set_option linter.unusedSectionVars false
namespace Go.Det
open Go.RowKit

/-- A block that was made before is only now given its place. -/
theorem WRel.late {μ : Mu} {w0 : World} {ng : Nat} {h : H} {w w' : World} (W : WRel μ w0 ng h w) (b : Nat) (B : Blk) (rb : RB) (o : Obj)
    (hget : h.get b = some B) (hbn : b < h.n) (hno : ∀ g rb, μ b g ≠ some rb) (hc : Chg w w' w.heap.size o) (hsz : w'.heap.size = w.heap.size + 1) (hr : rb.r = w.heap.size) (hro : B.ro = false) (ho : ORel μ rb.n B o) :
    μ.le (μ.put b B.gen rb) ∧ WRel (μ.put b B.gen rb) w0 ng h w' := by
  have hle : μ.le (μ.put b B.gen rb) := by
    intro k g rb1 e
    unfold Mu.put
    split
    · rename_i hk; obtain ⟨rfl, rfl⟩ := hk; exact absurd e (hno _ _)
    · exact e
  have hback : ∀ k g rb1, (μ.put b B.gen rb) k g = some rb1 → (k = b ∧ g = B.gen ∧ rb1 = rb) ∨ μ k g = some rb1 := by
    intro k g rb1 e
    unfold Mu.put at e
    split at e
    · rename_i hk; exact .inl ⟨hk.1, hk.2, by simpa using e.symm⟩
    · exact .inr e
  have hw0 : w0.heap.size ≤ rb.r := by rw [hr]; exact W.base.size
  have hfar : ∀ k g rbk, μ k g = some rbk → rbk.r < w.heap.size := fun k g rbk e => (W.dom k g rbk e).1
  have es : ∀ k Bk rbk, h.get k = some Bk → (μ.put b B.gen rb) k Bk.gen = some rbk → (k = b ∧ Bk = B ∧ rbk = rb) ∨ (k ≠ b ∧ μ k Bk.gen = some rbk) := by
    intro k Bk rbk h1 h2
    by_cases hk : k = b
    · subst hk
      rw [hget] at h1
      cases h1
      rcases hback _ _ _ h2 with ⟨_, _, e⟩ | e
      · exact .inl ⟨rfl, rfl, e⟩
      · exact absurd e (hno _ _)
    · rcases hback _ _ _ h2 with ⟨e, _, _⟩ | e
      · exact absurd e hk
      · exact .inr ⟨hk, e⟩
  refine ⟨hle, ?_, ?_, ?_, ?_, ?_⟩
  · refine ⟨hc.os.trans W.base.os, hc.tape.trans W.base.tape, hc.output.trans W.base.output, Nat.le_trans W.base.size hc.size, ?_⟩
    intro k hk
    have := W.base.size
    rw [hc.there k (by omega) (by omega)]
    exact W.base.block k hk
  · intro g hg
    obtain ⟨n, hn⟩ := W.glob g hg
    exact ⟨n, hle _ _ _ hn⟩
  · intro k g rb1 e
    rcases hback k g rb1 e with ⟨rfl, rfl, rfl⟩ | e2
    · exact ⟨by omega, hbn, B, hget, Nat.le_refl _⟩
    · obtain ⟨h1, h2, B1, h3, h4⟩ := W.dom k g rb1 e2
      exact ⟨by omega, h2, B1, h3, h4⟩
  · intro k Bk rbk h1 h2
    rcases es k Bk rbk h1 h2 with ⟨rfl, rfl, rfl⟩ | ⟨hk, e⟩
    · exact ⟨⟨o, by rw [hr]; exact hc.here, .inl (ho.mono hle)⟩, fun _ => hw0⟩
    · obtain ⟨⟨o', h3, h4⟩, h5⟩ := W.blk k Bk rbk h1 e
      refine ⟨⟨o', ?_, h4.imp (·.mono hle) (·.mono hle)⟩, h5⟩
      have := hfar _ _ _ e
      rw [hc.there _ (by omega) this]
      exact h3
  · intro k Bk rbk k' Bk' rbk' h1 h2 h3 h4 h5 h6
    rcases es k Bk rbk h1 h3 with ⟨rfl, rfl, rfl⟩ | ⟨n1, m1⟩ <;> rcases es k' Bk' rbk' h2 h4 with ⟨rfl, rfl, rfl⟩ | ⟨n2, m2⟩
    · rfl
    · have := hfar _ _ _ m2; omega
    · have := hfar _ _ _ m1; omega
    · exact W.inj _ _ _ _ _ _ h1 h2 m1 m2 h5 h6

theorem rels_of {μ : Mu} : ∀ (l : List AV) (v : List Value), l.length = v.length → (∀ t x, getL l t = some x → ∃ y, v[t]? = some y ∧ VRel μ x y) → VRels μ l v
  | [], [], _, _ => rfl
  | a :: l, y :: v, hl, h => by
    obtain ⟨y', h1, h2⟩ := h 0 a rfl
    simp only [List.getElem?_cons_zero, Option.some.injEq] at h1
    subst h1
    refine ⟨y, v, rfl, h2, rels_of l v (by simpa using hl) ?_⟩
    intro t x hx
    obtain ⟨z, h3, h4⟩ := h (t + 1) x hx
    exact ⟨z, by simpa using h3, h4⟩

section
variable {P : Program} {w0 : World} {cf : CallF} {ops : Array Oper} {dl : List DOper} (E : Env P ops dl)
  {T : Nat → List AV} {Hh : Nat → H} {Pp : Nat → Pend} {V : Nat → AV}
  (step : ∀ (p : Nat) (o : DOper), dl[p]? = some o → StepD cf o (T p) (Hh p) (Pp p) (V p) (T (p + 1)) (Hh (p + 1)) (Pp (p + 1)))

omit E in
include step in
theorem add_mem {p : Nat} {x : DOper} {r : IOp} (hx : dl[p]? = some x) (hq : x.act = false) (hw : wanted x.guard (T p) = true) (hr : rdOp (ev (T p)) x.op = some r) : (r, V p, x.id) ∈ Pp (p + 1) := by
  obtain ⟨s1, s2, s3, s4, s5⟩ := step p x hx
  rw [s5 hq, if_pos hw]
  unfold Pend.add
  rw [hr]
  exact List.mem_cons_self

include E step in
/-- The acts that stand next are awaited; what is no act is passed. -/
theorem Inv.on {μ0 : Mu} {wi : World} {D : Nat → Bool} {s : Nat} {μ : Mu} {a : Act} {w : World} (I : Inv P w0 ops dl T Hh Pp V μ0 wi D s μ a w) : ∃ c, Inv P w0 ops dl T Hh Pp V μ0 wi D c μ a w ∧ (c = dl.length ∨ ∃ x, dl[c]? = some x ∧ x.act = true) := by
  obtain ⟨c, h1, h2, h3, h4⟩ := next_act dl s I.cle
  have sg : ∀ q e, s ≤ q → q ≤ e → e ≤ c → (Hh q).n ≤ (Hh e).n ∧ (∀ b, b < (Hh q).n → (Hh e).get b = (Hh q).get b) ∧ ∀ z, z ∈ Pp q → z ∈ Pp e :=
    fun q e a b d => seg E step b (fun k x k1 k2 hk => h4 k x (by omega) (by omega) hk) (by omega)
  obtain ⟨g1, g2, g3⟩ := sg s c (Nat.le_refl _) h1 (Nat.le_refl _)
  obtain ⟨W', A'⟩ := I.W.ext g1 g2
  refine ⟨c, ⟨I.down, h2, fun p x hx hD => Nat.lt_of_lt_of_le (I.lt p x hx hD) h1, ?_, I.sz, I.tm, I.df, W', I.A.trans A', ?_, ?_, ?_⟩, h3⟩
  · intro p x hx hp hact
    by_cases hs : p < s
    · exact I.acts p x hx hs hact
    · have := h4 p x (by omega) hp hx
      rw [hact] at this; simp at this
  · intro p q hpq hq
    by_cases hs : q ≤ s
    · exact I.mono p q hpq hs
    · have e2 := (sg s q (Nat.le_refl _) (by omega) hq).1
      by_cases hs' : p ≤ s
      · exact Nat.le_trans (I.mono p s hs' (Nat.le_refl _)) e2
      · exact (sg p q (by omega) hpq hq).1
  · intro p x B hx hp hD hal hw hn
    by_cases hs : p < s
    · obtain ⟨e1, e2⟩ := I.al p x B hx hs hD hal hw hn
      refine ⟨?_, e2⟩
      rw [g2 _ ?_]
      · exact e1
      · have := I.mono (p + 1) s (by omega) (Nat.le_refl _)
        rw [hn] at this
        simp at this
        omega
    · obtain ⟨e1, e2, _⟩ := sg (p + 1) c (by omega) (by omega) (Nat.le_refl _)
      refine ⟨?_, ?_⟩
      · rw [e2 _ (by rw [hn]; simp), hn]
        exact (Hh p).get_new B
      · intro g rb e
        have := (I.W.dom _ _ _ e).2.1
        have := (sg s p (Nat.le_refl _) (by omega) (by omega)).1
        omega
  · intro p x r hx hp hD hact hw hr
    by_cases hs : p < s
    · exact g3 _ (I.rd p x r hx hs hD hact hw hr)
    · exact (sg (p + 1) c (by omega) (by omega) (Nat.le_refl _)).2.2 _ (add_mem step hx hact hw hr)

include E in
/-- The slots, when one more is taken. -/
theorem Inv.slots {μ0 : Mu} {wi : World} {D : Nat → Bool} {c : Nat} {μ : Mu} {a : Act} {w : World} (I : Inv P w0 ops dl T Hh Pp V μ0 wi D c μ a w) {p : Nat} {x : DOper} (hx : dl[p]? = some x) (hD : D x.id = false) {μ' : Mu} (hm : μ.le μ') {v' : Value} (hv : VRel μ' (V p) v') :
    (a.put x.dst v').tmps.size = (T 0).length ∧ (∀ t v, vD dl V (T 0) (more D x.id) dl.length t = some v → ∃ u, (a.put x.dst v').tmps[t]? = some u ∧ VRel μ' v u) ∧ (a.put x.dst v').defers = [] := by
  have hsz := I.sz
  refine ⟨?_, ?_, ?_⟩
  · unfold Act.put; split <;> simp [hsz]
  · intro t v hvt
    rw [vD_more E (I.clos E) hx hD t] at hvt
    split at hvt
    · rename_i hc
      simp only [Option.some.injEq] at hvt
      subst hvt
      refine ⟨v', ?_, hv⟩
      unfold Act.put
      rw [hc.1]
      simp [hsz, hc.2]
    · rename_i hc
      obtain ⟨u, h1, h2⟩ := I.tm t v hvt
      refine ⟨u, ?_, VRel.mono hm _ _ h2⟩
      have hlt : t < (T 0).length := by rw [← hsz]; exact (Array.getElem?_eq_some_iff.1 h1).1
      unfold Act.put
      cases hd : x.dst with
      | none => exact h1
      | some d =>
        have : d ≠ t := fun e => hc ⟨by rw [hd, e], hlt⟩
        simp only [Array.getElem?_setIfInBounds_ne this]
        exact h1
  · unfold Act.put; split <;> exact I.df

theorem more_false {D : Nat → Bool} {i j : Nat} (h : more D i j = false) : D j = false ∧ j ≠ i := by
  simp only [more, Bool.or_eq_false_iff, beq_eq_false_iff_ne] at h; exact h

theorem more_true {D : Nat → Bool} {i j : Nat} (h : more D i j = true) : D j = true ∨ j = i := by
  simpa [more] using h

include E in
/-- One that is no act is taken, and the heap stands where it stood. -/
theorem Inv.still {μ0 : Mu} {wi : World} {D : Nat → Bool} {c : Nat} {μ : Mu} {a : Act} {w : World} (I : Inv P w0 ops dl T Hh Pp V μ0 wi D c μ a w) {p : Nat} {x : DOper} (hx : dl[p]? = some x) (hD : D x.id = false) (hp : p < c)
    (hdown : ∀ (j : Nat) (O : Oper), ops[j]? = some O → more D x.id j = true → ∀ e ∈ O.after, Region.binds .any e = true → more D x.id e.on = true)
    {μ' : Mu} {w' : World} {v' : Value} (hv : VRel μ' (V p) v') (W' : WRel μ' w0 0 (Hh c) w') (A' : Adv μ (Hh c) w μ' (Hh c) w') :
    Inv P w0 ops dl T Hh Pp V μ0 wi (more D x.id) c μ' (a.put x.dst v') w' := by
  obtain ⟨b1, b2, b3⟩ := I.slots E hx hD A'.le hv
  refine ⟨hdown, I.cle, ?_, fun q y hy hq hact => by simp [more, I.acts q y hy hq hact], b1, b2, b3, W', I.A.trans A', I.mono, ?_, ?_⟩
  · intro q y hy hDy
    rcases more_true hDy with h | h
    · exact I.lt q y hy h
    · rw [E.inj q p y x hy hx h]; exact hp
  · intro q y B hy hq hDy hal hw hn
    obtain ⟨e1, e2⟩ := I.al q y B hy hq (more_false hDy).1 hal hw hn
    refine ⟨e1, ?_⟩
    intro g rb e
    have := I.mono (q + 1) c (by omega) (Nat.le_refl _)
    rw [hn] at this
    simp at this
    rcases A'.new _ _ _ e with ⟨g0, rb0, e0, _⟩ | ⟨h1, _⟩
    · exact e2 _ _ e0
    · omega
  · intro q y r hy hq hDy hact hw hr
    exact I.rd q y r hy hq (more_false hDy).1 hact hw hr

include E step in
/-- An act is taken. -/
theorem Inv.acted {μ0 : Mu} {wi : World} {D : Nat → Bool} {c : Nat} {μ : Mu} {a : Act} {w : World} (I : Inv P w0 ops dl T Hh Pp V μ0 wi D c μ a w) {x : DOper} (hx : dl[c]? = some x) (hD : D x.id = false) (hact : x.act = true) (hpre : ∀ A, x.mask.testBit A = true → D A = true)
    (hdown : ∀ (j : Nat) (O : Oper), ops[j]? = some O → more D x.id j = true → ∀ e ∈ O.after, Region.binds .any e = true → more D x.id e.on = true)
    {μ' : Mu} {w' : World} {v' : Value} (hv : VRel μ' (V c) v') (W' : WRel μ' w0 0 (Hh (c + 1)) w') (A' : Adv μ (Hh c) w μ' (Hh (c + 1)) w') :
    Inv P w0 ops dl T Hh Pp V μ0 wi (more D x.id) (c + 1) μ' (a.put x.dst v') w' := by
  have hlt : c < dl.length := (List.getElem?_eq_some_iff.1 hx).1
  obtain ⟨b1, b2, b3⟩ := I.slots E hx hD A'.le hv
  obtain ⟨s1, s2, s3, s4, s5⟩ := step c x hx
  refine ⟨hdown, hlt, ?_, ?_, b1, b2, b3, W', I.A.trans A', ?_, ?_, ?_⟩
  · intro q y hy hDy
    rcases more_true hDy with h | h
    · have := I.lt q y hy h; omega
    · rw [E.inj q c y x hy hx h]; omega
  · intro q y hy hq hya
    by_cases e : q = c
    · subst e; rw [hx] at hy; cases hy; simp [more]
    · simp [more, I.acts q y hy (by omega) hya]
  · intro p q hpq hq
    by_cases e : q = c + 1
    · by_cases e' : p = c + 1
      · rw [e, e']; exact Nat.le_refl _
      · rw [e]; exact Nat.le_trans (I.mono p c (by omega) (Nat.le_refl _)) A'.n
    · exact I.mono p q hpq (by omega)
  · intro q y B hy hq hDy hal hw hn
    have hqc : q < c := by
      by_cases e : q = c
      · subst e; rw [hx] at hy; cases hy; exact absurd rfl (more_false hDy).2
      · omega
    obtain ⟨e1, e2⟩ := I.al q y B hy hqc (more_false hDy).1 hal hw hn
    have hb := I.mono (q + 1) c (by omega) (Nat.le_refl _)
    rw [hn] at hb
    simp at hb
    refine ⟨?_, ?_⟩
    · rw [A'.own _ (by omega) e2]; exact e1
    · intro g rb e
      rcases A'.new _ _ _ e with ⟨g0, rb0, e0, _⟩ | ⟨h1, _⟩
      · exact e2 _ _ e0
      · omega
  · intro q y r hy hq hDy hya hw hr
    have hqc : q < c := by
      by_cases e : q = c
      · subst e; rw [hx] at hy; cases hy; exact absurd rfl (more_false hDy).2
      · omega
    have hm := I.rd q y r hy hqc (more_false hDy).1 hya hw hr
    rw [(s2 hact).2]
    refine List.mem_filter.2 ⟨hm, ?_⟩
    cases hb : x.mask.testBit y.id with
    | false => simp
    | true => exfalso; have := hpre _ hb; rw [(more_false hDy).1] at this; simp at this

include E step in
/-- Whatever may be taken next. -/
theorem Inv.next (hcf : CallOk P w0 cf) (hfin : (Pp dl.length).holds (Hh dl.length) = true) {μ0 : Mu} {wi : World} {D : Nat → Bool} {c : Nat} {μ : Mu} {a : Act} {w : World} (I : Inv P w0 ops dl T Hh Pp V μ0 wi D c μ a w) (hat : c = dl.length ∨ ∃ x, dl[c]? = some x ∧ x.act = true)
    {i : Nat} {O : Oper} (hO : ops[i]? = some O) (hDi : D i = false) (hp0 : ∀ e ∈ O.after, Region.binds .any e = true → D e.on = true) {Q : Exit → Act → World → Prop} {K : Act → World → Prop}
    (hK : ∀ c' μ' a' w', Inv P w0 ops dl T Hh Pp V μ0 wi (more D i) c' μ' a' w' → K a' w') : wpOp P ops Q i K a w := by
  obtain ⟨p, x, hx, rfl⟩ := E.surj i (Array.getElem?_eq_some_iff.1 hO).1
  obtain ⟨O', hO', hcomp, hactEq⟩ := E.comp p x hx
  rw [hO] at hO'
  cases hO'
  have hdown : ∀ (j : Nat) (O : Oper), ops[j]? = some O → more D x.id j = true → ∀ e ∈ O.after, Region.binds .any e = true → more D x.id e.on = true := by
    intro j Oj hj hDj e he hb
    rcases more_true hDj with h | h
    · simp [more, I.down j Oj hj h e he hb]
    · subst h; rw [hO] at hj; cases hj; simp [more, hp0 e he hb]
  have hpre : ∀ A, x.mask.testBit A = true → D A = true := by
    intro A hA
    rcases more_true (E.clos _ hdown p x hx (by simp [more]) A hA) with h | h
    · exact h
    · subst h; rw [E.topo p p x x (Nat.le_refl _) hx hx] at hA; simp at hA
  have hρ := I.hρ E step hx hDi hpre hO
  have hwant := I.want E step hx hDi hpre hO hcomp
  obtain ⟨hc, hdst, _, _⟩ := comp_of hcomp
  have hdst : O.dst = x.dst := hdst
  obtain ⟨s1, s2, s3, s4, s5⟩ := step p x hx
  have hplt : p < dl.length := (List.getElem?_eq_some_iff.1 hx).1
  have hnotbehind : p ≤ c := by
    rcases Nat.lt_or_ge c p with h | h
    · rcases hat with e | ⟨y, hy, hya⟩
      · omega
      · have := hpre _ (E.bar c p y x h hy hx hya)
        have := I.lt c y hy this
        omega
    · exact h
  unfold wpOp
  rw [hO]
  simp only []
  cases hact : x.act with
  | true =>
    have hpc : p = c := by
      rcases Nat.lt_or_ge p c with h | h
      · have := I.acts p x hx h hact; rw [hDi] at this; simp at this
      · omega
    subst hpc
    by_cases hw : wanted x.guard (T p) = true
    · rw [if_pos (hwant.trans hw)]
      left
      refine oper_wp hcf hc (s3 hw) hρ I.W ?_
      intro v' w' μ' hv W' A'
      rw [hdst]
      exact hK _ _ _ _ (I.acted E step hx hDi hact hpre hdown hv W' A')
    · have hwf : wanted x.guard (T p) = false := by simpa using hw
      rw [if_neg (by rw [hwant]; exact hw), hdst]
      obtain ⟨e1, e2⟩ := s4 hwf
      refine hK _ _ _ _ (I.acted E step hx hDi hact hpre hdown (μ' := μ) (w' := w) (v' := undef) (by rw [e1]; exact ⟨_, rfl, rfl⟩) (by rw [e2]; exact I.W) (by rw [e2]; exact Adv.refl _ _ _))
  | false =>
    have hpc : p < c := by
      rcases Nat.lt_or_ge p c with h | h
      · exact h
      · have : p = c := by omega
        subst this
        rcases hat with e | ⟨y, hy, hya⟩
        · omega
        · rw [hx] at hy; cases hy; rw [hact] at hya; simp at hya
    by_cases hw : wanted x.guard (T p) = true
    · rw [if_pos (hwant.trans hw)]
      left
      have stay : oneOp cf x.op (T p) (Hh c) = some (V p, Hh c) → O.wp P a w K Q := by
        intro ho
        refine oper_wp hcf hc ho hρ I.W ?_
        intro v' w' μ' hv W' A'
        rw [hdst]
        exact hK _ _ _ _ (I.still E hx hDi hpc hdown hv W' A')
      have hq : isAct x.op = false := by rw [← hactEq]; exact hact
      have hi := quiet_one hq (s3 hw)
      have hcls : isPure x.op = true ∨ isAl x.op = true ∨ isRd x.op = true := by
        simp only [isAct, Bool.not_eq_false', Bool.or_eq_true] at hq
        rcases hq with (h | h) | h
        · exact .inl h
        · exact .inr (.inl h)
        · exact .inr (.inr h)
      rcases hcls with hk | hk | hk
      · refine stay ?_
        unfold oneOp
        rw [(pure_any hk hi).2 (Hh c)]
      · obtain ⟨dst, op, ty, pos, after, guard⟩ := O
        obtain ⟨B, Vb, hn, hvb, hall⟩ := al_sound hc hk hi dst pos after guard
        obtain ⟨e1, e2⟩ := I.al p x B hx hpc hDi hk hw hn
        obtain ⟨s, he, hg, hro, v', w', o, n, hrun, hch, hsz, hor, hval⟩ := hall μ w a.eval hρ
        have hbn : (Hh p).n < (Hh c).n := by
          have := I.mono (p + 1) c (by omega) (Nat.le_refl _)
          rw [hn] at this
          simp at this
          omega
        obtain ⟨hle, W'⟩ := I.W.late (Hh p).n B ⟨w.heap.size, n⟩ o e1 hbn e2 hch hsz rfl hro hor
        rw [hg] at hle W'
        have hput : (μ.put (Hh p).n 0 ⟨w.heap.size, n⟩) (Hh p).n 0 = some ⟨w.heap.size, n⟩ := by simp [Mu.put]
        have hv := hval _ _ hle hput
        rw [← hvb] at hv
        obtain ⟨b1, b2, b3⟩ := I.slots E hx hDi hle hv
        unfold Oper.wp
        rw [he]
        simp only [Sem.run_bind, hrun, Result.andThen_ok, Sem.run_pure]
        rw [show dst = x.dst from hdst]
        refine hK c _ _ _ ⟨hdown, I.cle, ?_, fun q y hy hq hact => by simp [more, I.acts q y hy hq hact], b1, b2, b3, W', ?_, I.mono, ?_, ?_⟩
        · intro q y hy hDy
          rcases more_true hDy with h | h
          · exact I.lt q y hy h
          · rw [E.inj q p y x hy hx h]; exact hpc
        · refine ⟨I.A.le.trans hle, by have := I.A.size; omega, I.A.n, ?_, ?_, I.A.own⟩
          · intro r hr hnone
            have := I.A.size
            rw [hch.there r (by omega) (by omega)]
            exact I.A.keep r hr hnone
          · intro k g rb e
            unfold Mu.put at e
            split at e
            · rename_i hk
              simp only [Option.some.injEq] at e
              subst e
              refine .inr ⟨?_, I.A.size⟩
              rw [hk.1]
              exact I.mono 0 p (Nat.zero_le _) (by omega)
            · exact I.A.new k g rb e
        · intro q y B' hy hq hDy hal hw' hn'
          obtain ⟨f1, f2⟩ := I.al q y B' hy hq (more_false hDy).1 hal hw' hn'
          refine ⟨f1, ?_⟩
          intro g rb e
          unfold Mu.put at e
          split at e
          · rename_i hk
            have hne : q ≠ p := by
              intro e; subst e; rw [hx] at hy; cases hy; exact (more_false hDy).2 rfl
            rcases Nat.lt_or_ge q p with h | h
            · have := I.mono (q + 1) p (by omega) (by omega)
              rw [hn'] at this
              simp at this
              omega
            · have := I.mono (p + 1) q (by omega) (by omega)
              rw [hn] at this
              simp at this
              omega
          · exact f2 _ _ e
        · intro q y r hy hq hDy hya hw' hr
          exact I.rd q y r hy hq (more_false hDy).1 hya hw' hr
      · obtain ⟨r, hr⟩ := rd_some hk (T p)
        have hm := I.rd p x r hx hpc hDi hact hw hr
        have hhold : (Pp c).holds (Hh c) = true := by
          rcases hat with e | ⟨y, hy, hya⟩
          · rw [e]; exact hfin
          · exact ((step c y hy).2.1 hya).1
        have := List.all_eq_true.1 hhold _ hm
        refine stay ?_
        unfold oneOp
        rw [reads_spec hk hr this]
    · have hwf : wanted x.guard (T p) = false := by simpa using hw
      rw [if_neg (by rw [hwant]; exact hw), hdst]
      obtain ⟨e1, e2⟩ := s4 hwf
      exact hK _ _ _ _ (I.still E hx hDi hpc hdown (μ' := μ) (w' := w) (v' := undef) (by rw [e1]; exact ⟨_, rfl, rfl⟩) I.W (Adv.refl _ _ _))

include E step in
/-- In any order. -/
theorem any_ok (hcf : CallOk P w0 cf) (hfin : (Pp dl.length).holds (Hh dl.length) = true) {μ0 : Mu} {wi : World} : ∀ (fuel : Nat) (listed : Array Bool), listed.size = ops.size → listed.toList.countP (· == false) ≤ fuel → ∀ (D : Nat → Bool), (∀ j, D j = listed.getD j false) → ∀ (c : Nat) (μ : Mu) (a : Act) (w : World),
    Inv P w0 ops dl T Hh Pp V μ0 wi D c μ a w → wpAny P .any ops (Post P w0 μ0 (Hh 0) wi .normal (T dl.length, Hh dl.length)) fuel listed a w := by
  intro fuel listed hsz hcount D hDl c μ a w I
  obtain ⟨c, I, hat⟩ := I.on E step
  -- when nothing may be taken, all has been
  have hdone : Region.ready .any ops listed = [] → Post P w0 μ0 (Hh 0) wi .normal (T dl.length, Hh dl.length) .normal a w := by
    intro hr
    have hall : ∀ (k p : Nat) (x : DOper), p < k → dl[p]? = some x → D x.id = true := by
      intro k
      induction k with
      | zero => intro p x h; omega
      | succ k ih =>
        intro p x hp hx
        cases hD : D x.id with
        | true => rfl
        | false =>
          exfalso
          obtain ⟨O, hO, _, _⟩ := E.comp p x hx
          have hlt := (Array.getElem?_eq_some_iff.1 hO).1
          have : x.id ∈ Region.ready .any ops listed := by
            rw [mem_ready]
            refine ⟨?_, O, hO, ?_⟩
            · rw [hDl] at hD
              have : x.id < listed.size := by omega
              simpa [Array.getD_eq_getD_getElem?, this] using hD
            · intro e he hb
              obtain ⟨h1, h2⟩ := E.edge p x O hx hO e he hb
              obtain ⟨q, y, hy, hyid⟩ := E.surj e.on h1
              rw [← hDl, ← hyid]
              rcases Nat.lt_or_ge q p with h | h
              · exact ih q y (by omega) hy
              · have := E.topo p q x y h hx hy
                rw [hyid, h2] at this
                simp at this
          rw [hr] at this
          simp at this
    have hc : c = dl.length := by
      rcases hat with e | ⟨x, hx, _⟩
      · exact e
      · have := I.lt c x hx (hall (c + 1) c x (by omega) hx)
        omega
    refine ⟨rfl, μ, ⟨?_, I.df, hc ▸ I.W⟩, hc ▸ I.A⟩
    refine rels_of _ _ ?_ ?_
    · simp only [Array.length_toList, I.sz]
      exact T_len (dl := dl) (T := T) step rfl dl.length (Nat.le_refl _)
    · intro t v hv
      simp only [T_is step dl.length (Nat.le_refl _) t] at hv
      rw [← vD_all (V := V) (D := D) dl.length (fun q (x : DOper) _ hx _ => hall (q + 1) q x (by omega) hx)] at hv
      obtain ⟨u, h1, h2⟩ := I.tm t v hv
      exact ⟨u, by simpa using h1, h2⟩
  have hstep : ∀ i ∈ Region.ready .any ops listed, ∃ O, ops[i]? = some O ∧ i < listed.size ∧ listed.getD i false = false ∧ D i = false ∧ ∀ e ∈ O.after, Region.binds .any e = true → D e.on = true := by
    intro i hi
    rw [mem_ready] at hi
    obtain ⟨h1, O, h2, h3⟩ := hi
    have hlt := (Array.getElem?_eq_some_iff.1 h2).1
    have hlt' : i < listed.size := by omega
    have hf : listed.getD i false = false := by simpa [Array.getD_eq_getD_getElem?, hlt'] using h1
    exact ⟨O, h2, hlt', hf, by rw [hDl]; exact hf, fun e he hb => by rw [hDl]; exact h3 e he hb⟩
  cases fuel with
  | zero =>
    have hr : Region.ready .any ops listed = [] := by
      cases hr : Region.ready .any ops listed with
      | nil => rfl
      | cons i l =>
        exfalso
        obtain ⟨O, _, hlt, hf, _, _⟩ := hstep i (by rw [hr]; exact List.mem_cons_self)
        have hget : listed[i] = false := by simpa [Array.getD_eq_getD_getElem?, hlt] using hf
        have : 0 < listed.toList.countP (· == false) := List.countP_pos_iff.2 ⟨listed[i], by simp, by simp [hget]⟩
        omega
    exact ⟨hr, hdone hr⟩
  | succ fuel =>
    refine ⟨hdone, ?_⟩
    intro i hi
    obtain ⟨O, hO, hlt, hf, hDi, hp0⟩ := hstep i hi
    refine I.next E step hcf hfin hat hO hDi hp0 ?_
    intro c' μ' a' w' I'
    have hget : listed[i] = false := by simpa [Array.getD_eq_getD_getElem?, hlt] using hf
    refine any_ok hcf hfin fuel (listed.setIfInBounds i true) (by simp [hsz]) ?_ (more D i) ?_ c' μ' a' w' I'
    · have hc := List.countP_set (p := (· == false)) (l := listed.toList) (i := i) (a := true) (by simpa using hlt)
      have hpos : 0 < listed.toList.countP (· == false) := List.countP_pos_iff.2 ⟨listed[i], by simp, by simp [hget]⟩
      have hg : (listed.toList[i]'(by simpa using hlt) == false) = true := by simp [hget]
      rw [if_pos hg, if_neg (by simp)] at hc
      rw [Array.toList_setIfInBounds, hc]
      omega
    · intro j
      by_cases e : i = j
      · subst e; simp [more, hlt]
      · rw [getD_set_ne false e, ← hDl]; simp [more, Ne.symm e]

end

theorem draw_ok {P : Program} {w0 : World} {cf : CallF} (hm : P.follows .mixedOrders = true) (hcf : CallOk P w0 cf) : DrawOk P w0 cf := by
  intro ops dl hc s s' hr id μ a w S
  have E := env_of hc
  obtain ⟨T, Hh, Pp, V, h1, h2, h3, h4, h5, step⟩ := runDraw_trace dl s.1 s.2 [] s' hr
  refine wp_region_any hm ?_
  have W : WRel μ w0 0 (Hh 0) { w with drawn := w.drawn + 1 } := by rw [h2]; exact S.W.drew rfl rfl rfl rfl
  have hlen : a.tmps.size = s.1.length := by have := S.ts.length; simpa using this.symm
  have I : Inv P w0 ops dl T Hh Pp V μ { w with drawn := w.drawn + 1 } (fun _ => false) 0 μ a { w with drawn := w.drawn + 1 } := by
    refine ⟨fun _ _ _ h => by simp at h, Nat.zero_le _, fun _ _ _ h => by simp at h, fun _ _ _ h => by omega, by rw [h1]; exact hlen, ?_, S.df, W, Adv.refl _ _ _, fun p q hpq hq => Nat.le_antisymm hpq (Nat.le_trans hq (Nat.zero_le _)) ▸ Nat.le_refl _, fun _ _ _ _ h => absurd h (Nat.not_lt_zero _), fun _ _ _ _ h => absurd h (Nat.not_lt_zero _)⟩
    intro t v hv
    rw [vD_none (p := 0) dl.length (Nat.zero_le _) (fun _ _ _ _ _ _ => rfl), h1] at hv
    obtain ⟨u, h6, h7⟩ := S.ts.get hv
    exact ⟨u, by simpa using h6, h7⟩
  have hw := any_ok E step hcf h5 ops.size (Array.replicate ops.size false) (by simp) (by rw [Array.toList_replicate, List.countP_replicate]; simp) (fun _ => false) (fun j => by simp [Array.getD_eq_getD_getElem?, Array.getElem?_replicate]; split <;> rfl) 0 μ a _ I
  rw [h4, h2] at hw
  have e : Post P w0 μ s.2 { w with drawn := w.drawn + 1 } .normal s' = Post P w0 μ s.2 w .normal s' := by
    funext e a' w'
    refine propext ⟨?_, ?_⟩
    · rintro ⟨he, μ', S', A'⟩
      exact ⟨he, μ', S', ⟨A'.le, A'.size, A'.n, A'.keep, A'.new, A'.own⟩⟩
    · rintro ⟨he, μ', S', A'⟩
      exact ⟨he, μ', S', ⟨A'.le, A'.size, A'.n, A'.keep, A'.new, A'.own⟩⟩
  rw [← e]
  exact hw

end Go.Det
