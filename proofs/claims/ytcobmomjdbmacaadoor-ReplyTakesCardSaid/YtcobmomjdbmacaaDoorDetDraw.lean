/- A region whose order is drawn: in whatever order the real machine takes its operations, it comes to what the deterministic machine comes to in one order. -/
import Derived.Test.YtcobmomjdbmacaaDoorDetQuiet
set_option linter.unusedVariables false
set_option linter.unusedSimpArgs false
set_option linter.unusedSectionVars false
namespace Go.Det
open Go.RowKit

/-! ### The run in one order, place by place -/

def StepD (cf : CallF) (o : DOper) (ts : List AV) (h : H) (pe : Pend) (v : AV) (ts' : List AV) (h' : H) (pe' : Pend) : Prop :=
  ts' = put ts o.dst v ∧ (o.act = true → pe.holds h = true ∧ pe' = pe.filter fun p => !o.mask.testBit p.2.2) ∧
  (wanted o.guard ts = true → oneOp cf o.op ts h = some (v, h')) ∧ (wanted o.guard ts = false → v = .undef ∧ h' = h) ∧
  (o.act = false → pe' = if wanted o.guard ts then pe.add ts o v else pe)

theorem runDraw_trace {cf : CallF} : ∀ (dl : List DOper) (ts : List AV) (h : H) (pe : Pend) (s' : St), runDraw cf dl ts h pe = some s' →
    ∃ (T : Nat → List AV) (Hh : Nat → H) (Pp : Nat → Pend) (V : Nat → AV), T 0 = ts ∧ Hh 0 = h ∧ Pp 0 = pe ∧ (T dl.length, Hh dl.length) = s' ∧ (Pp dl.length).holds (Hh dl.length) = true ∧
      ∀ p o, dl[p]? = some o → StepD cf o (T p) (Hh p) (Pp p) (V p) (T (p + 1)) (Hh (p + 1)) (Pp (p + 1))
  | [], ts, h, pe, s', hr => by
    simp only [runDraw] at hr
    split at hr
    · rename_i hp
      simp only [Option.some.injEq] at hr
      exact ⟨fun _ => ts, fun _ => h, fun _ => pe, fun _ => .undef, rfl, rfl, rfl, hr, hp, by simp⟩
    · simp at hr
  | o :: os, ts, h, pe, s', hr => by
    have key : ∀ (v : AV) (h' : H) (pe' : Pend), runDraw cf os (put ts o.dst v) h' pe' = some s' → StepD cf o ts h pe v (put ts o.dst v) h' pe' → ∃ (T : Nat → List AV) (Hh : Nat → H) (Pp : Nat → Pend) (V : Nat → AV), T 0 = ts ∧ Hh 0 = h ∧ Pp 0 = pe ∧ (T (o :: os).length, Hh (o :: os).length) = s' ∧ (Pp (o :: os).length).holds (Hh (o :: os).length) = true ∧
      ∀ p q, (o :: os)[p]? = some q → StepD cf q (T p) (Hh p) (Pp p) (V p) (T (p + 1)) (Hh (p + 1)) (Pp (p + 1)) := by
      intro v h' pe' hrun hst
      obtain ⟨T, Hh, Pp, V, h1, h2, h3, h4, h5, h6⟩ := runDraw_trace os _ _ _ s' hrun
      refine ⟨fun | 0 => ts | p + 1 => T p, fun | 0 => h | p + 1 => Hh p, fun | 0 => pe | p + 1 => Pp p, fun | 0 => v | p + 1 => V p, rfl, rfl, rfl, h4, h5, ?_⟩
      intro p q hq
      cases p with
      | zero =>
        simp only [List.getElem?_cons_zero, Option.some.injEq] at hq
        subst hq
        simp only [h1, h2, h3]
        exact hst
      | succ p => exact h6 p q (by simpa using hq)
    simp only [runDraw] at hr
    split at hr
    · rename_i hact
      split at hr
      · rename_i hp
        split at hr
        · rename_i hw
          split at hr
          · rename_i v h' ho
            exact key v h' _ hr ⟨rfl, fun _ => ⟨hp, rfl⟩, fun _ => ho, fun e => by simp [hw] at e, fun e => by simp [hact] at e⟩
          · simp at hr
        · rename_i hw
          exact key .undef h _ hr ⟨rfl, fun _ => ⟨hp, rfl⟩, fun e => absurd e hw, fun _ => ⟨rfl, rfl⟩, fun e => by simp [hact] at e⟩
      · simp at hr
    · rename_i hact
      split at hr
      · rename_i hw
        split at hr
        · rename_i v h' ho
          exact key v h' _ hr ⟨rfl, fun e => absurd e hact, fun _ => ho, fun e => by simp [hw] at e, fun _ => by rw [if_pos hw]⟩
        · simp at hr
      · rename_i hw
        exact key .undef h _ hr ⟨rfl, fun e => absurd e hact, fun e => absurd e hw, fun _ => ⟨rfl, rfl⟩, fun _ => by rw [if_neg hw]⟩

/-! ### What the checks say -/

structure Env (P : Program) (ops : Array Oper) (dl : List DOper) : Prop where
  len : dl.length = ops.size
  comp : ∀ (p : Nat) (x : DOper), dl[p]? = some x → ∃ O, ops[x.id]? = some O ∧ compOper P ops O = some x.toIOper ∧ x.act = isAct x.op
  surj : ∀ j, j < ops.size → ∃ (p : Nat) (x : DOper), dl[p]? = some x ∧ x.id = j
  inj : ∀ (p q : Nat) (x y : DOper), dl[p]? = some x → dl[q]? = some y → x.id = y.id → p = q
  slots : ∀ (p q : Nat) (x y : DOper), p ≠ q → dl[p]? = some x → dl[q]? = some y → ∀ d O, x.dst = some d → ops[y.id]? = some O → (y.dst = some d ∨ d ∈ namesOf ops O) → y.mask.testBit x.id = true ∨ x.mask.testBit y.id = true
  topo : ∀ (p q : Nat) (x y : DOper), p ≤ q → dl[p]? = some x → dl[q]? = some y → x.mask.testBit y.id = false
  bar : ∀ (p q : Nat) (x y : DOper), p < q → dl[p]? = some x → dl[q]? = some y → x.act = true → y.mask.testBit x.id = true
  clos : ∀ (D : Nat → Bool), (∀ (j : Nat) (O : Oper), ops[j]? = some O → D j = true → ∀ e ∈ O.after, Region.binds .any e = true → D e.on = true) → ∀ (p : Nat) (x : DOper), dl[p]? = some x → D x.id = true → ∀ A, x.mask.testBit A = true → D A = true
  edge : ∀ (p : Nat) (x : DOper) (O : Oper), dl[p]? = some x → ops[x.id]? = some O → ∀ e ∈ O.after, Region.binds .any e = true → e.on < ops.size ∧ x.mask.testBit e.on = true

theorem maskOf_spec (acc : List Nat) (A : Nat) : ∀ (es : List Edge), (maskOf acc es).testBit A = true ↔ ∃ e ∈ es, Region.binds .any e = true ∧ (A = e.on ∨ (acc.getD e.on 0).testBit A = true) := by
  have key : ∀ (es : List Edge) (s : Nat), (es.foldl (fun s e => if Region.binds .any e then s ||| 2 ^ e.on ||| acc.getD e.on 0 else s) s).testBit A = true ↔ s.testBit A = true ∨ ∃ e ∈ es, Region.binds .any e = true ∧ (A = e.on ∨ (acc.getD e.on 0).testBit A = true) := by
    intro es
    induction es with
    | nil => intro s; simp
    | cons e es ih =>
      intro s
      rw [List.foldl_cons, ih]
      by_cases hb : Region.binds .any e = true
      · rw [if_pos hb, Nat.testBit_or, Nat.testBit_or, Nat.testBit_two_pow]
        simp only [Bool.or_eq_true, decide_eq_true_eq, List.mem_cons]
        constructor
        · rintro (((h | h) | h) | ⟨e', h1, h2⟩)
          · exact .inl h
          · exact .inr ⟨e, .inl rfl, hb, .inl h.symm⟩
          · exact .inr ⟨e, .inl rfl, hb, .inr h⟩
          · exact .inr ⟨e', .inr h1, h2⟩
        · rintro (h | ⟨e', rfl | h1, h2, h3⟩)
          · exact .inl (.inl (.inl h))
          · rcases h3 with h3 | h3
            · exact .inl (.inl (.inr h3.symm))
            · exact .inl (.inr h3)
          · exact .inr ⟨e', h1, h2, h3⟩
      · rw [if_neg hb]
        simp only [List.mem_cons]
        constructor
        · rintro (h | ⟨e', h1, h2⟩)
          · exact .inl h
          · exact .inr ⟨e', .inr h1, h2⟩
        · rintro (h | ⟨e', rfl | h1, h2, h3⟩)
          · exact .inl h
          · exact absurd h2 hb
          · exact .inr ⟨e', h1, h2, h3⟩
  intro es
  have := key es 0
  simpa [maskOf] using this

theorem befL_spec : ∀ (l : List Oper) (acc : List Nat), (∀ (k m : Nat), acc[k]? = some m → (befL l acc)[k]? = some m) ∧
    ∀ (i : Nat) (o : Oper), l[i]? = some o → ∃ acc' : List Nat, acc'.length = acc.length + i ∧ (befL l acc)[acc.length + i]? = some (maskOf acc' o.after.toList) ∧ ∀ (k m : Nat), acc'[k]? = some m → (befL l acc)[k]? = some m
  | [], acc => ⟨fun _ _ h => h, by simp⟩
  | o :: l, acc => by
    obtain ⟨h1, h2⟩ := befL_spec l (acc ++ [maskOf acc o.after.toList])
    simp only [befL]
    have hk : ∀ (k m : Nat), acc[k]? = some m → (befL l (acc ++ [maskOf acc o.after.toList]))[k]? = some m := by
      intro k m hkm
      have hlt := (List.getElem?_eq_some_iff.1 hkm).1
      exact h1 k m (by rw [List.getElem?_append_left hlt]; exact hkm)
    refine ⟨hk, ?_⟩
    intro i q hq
    cases i with
    | zero =>
      simp only [List.getElem?_cons_zero, Option.some.injEq] at hq
      subst hq
      exact ⟨acc, rfl, h1 _ _ (by simp), hk⟩
    | succ i =>
      obtain ⟨acc', h3, h4, h5⟩ := h2 i q (by simpa using hq)
      refine ⟨acc', by simp at h3; omega, ?_, h5⟩
      have : acc.length + (i + 1) = (acc ++ [maskOf acc o.after.toList]).length + i := by simp; omega
      rw [this]
      exact h4

theorem compOpers_spec {P : Program} {ops : Array Oper} : ∀ (lst : List Oper) (l : List IOper), compOpers P ops lst = some l → l.length = lst.length ∧ ∀ (j : Nat) (o : Oper), lst[j]? = some o → ∃ O, l[j]? = some O ∧ compOper P ops o = some O
  | [], l, h => by simp only [compOpers, Option.some.injEq] at h; subst h; exact ⟨rfl, by simp⟩
  | o :: lst, l, h => by
    simp only [compOpers] at h
    split at h
    · rename_i a r h1 h2
      simp only [Option.some.injEq] at h
      subst h
      obtain ⟨h3, h4⟩ := compOpers_spec lst r h2
      refine ⟨by simp [h3], ?_⟩
      intro j q hq
      cases j with
      | zero => simp only [List.getElem?_cons_zero, Option.some.injEq] at hq; subst hq; exact ⟨a, by simp, h1⟩
      | succ j => obtain ⟨O, h5, h6⟩ := h4 j q (by simpa using hq); exact ⟨O, by simpa using h5, h6⟩
    · simp at h

theorem env_of {P : Program} {ops : Array Oper} {dl : List DOper} (hc : compDraw P ops = some dl) : Env P ops dl := by
  unfold compDraw at hc
  split at hc
  · simp at hc
  · rename_i l hl
    simp only [] at hc
    split at hc
    · rename_i hcond
      generalize hord : greedy ((ops.toList.zip l).map fun (o, x) => (0, isAct x.op, directOf o)) ops.size (List.range ops.size) 0 = ord at *
      simp only [Option.some.injEq] at hc
      subst hc
      simp only [Bool.and_eq_true, beq_iff_eq] at hcond
      obtain ⟨⟨⟨⟨hlen, hrng⟩, hcont⟩, hedge⟩, hpairs⟩ := hcond
      obtain ⟨hl1, hl2⟩ := compOpers_spec _ _ hl
      have hspec := (befL_spec ops.toList []).2
      simp only [List.length_nil, Nat.zero_add] at hspec
      generalize befL ops.toList [] = masks at *
      have hget : ∀ (p : Nat) (x : DOper), (ord.map (mkD l masks))[p]? = some x → ∃ j, ord[p]? = some j ∧ j < ops.size ∧ x = mkD l masks j := by
        intro p x h
        rw [List.getElem?_map] at h
        obtain ⟨j, h1, h2⟩ := Option.map_eq_some_iff.1 h
        exact ⟨j, h1, by simpa using List.all_eq_true.1 hrng j (List.mem_of_getElem? h1), h2.symm⟩
      have hop : ∀ (j : Nat), j < ops.size → ∃ o, ops[j]? = some o := fun j hj => ⟨ops[j], by simp [hj]⟩
      have hmask : ∀ (j : Nat) (o : Oper), ops[j]? = some o → ∃ acc' : List Nat, acc'.length = j ∧ masks.getD j 0 = maskOf acc' o.after.toList ∧ ∀ (k m : Nat), acc'[k]? = some m → masks[k]? = some m := by
        intro j o ho
        obtain ⟨acc', h1, h2, h3⟩ := hspec j o (by simpa using ho)
        exact ⟨acc', h1, by rw [List.getD_eq_getElem?_getD, h2]; rfl, h3⟩
      have hpair : ∀ (p q : Nat) (x y : DOper), (ord.map (mkD l masks))[p]? = some x → (ord.map (mkD l masks))[q]? = some y →
          (p = q ∨ x.id ≠ y.id) ∧ (p = q ∨ ∀ d, x.dst = some d → (y.dst = some d ∨ (∀ O, ops[y.id]? = some O → d ∈ namesOf ops O)) → y.mask.testBit x.id = true ∨ x.mask.testBit y.id = true) ∧ (p ≤ q → x.mask.testBit y.id = false) ∧ (p < q → x.act = true → y.mask.testBit x.id = true) := by
        intro p q x y hx hy
        have h1 := List.all_eq_true.1 hpairs (x, p) (List.mem_zipIdx_iff_getElem?.2 hx)
        have h2 := List.all_eq_true.1 h1 (y, q) (List.mem_zipIdx_iff_getElem?.2 hy)
        simp only [Bool.and_eq_true] at h2
        obtain ⟨⟨⟨a1, a2⟩, a3⟩, a4⟩ := h2
        refine ⟨?_, ?_, ?_, ?_⟩
        · simpa using a1
        · simp only [Bool.or_eq_true, beq_iff_eq] at a2
          rcases a2 with a2 | a2
          · exact .inl a2
          · right
            intro d hd hn
            simp only [hd, Bool.or_eq_true, Bool.not_eq_true', Bool.or_eq_false_iff] at a2
            rcases a2 with (⟨b1, b2⟩ | b1) | b1
            · exfalso
              rcases hn with hn | hn
              · simp [hn] at b1
              · split at b2
                · rename_i O hO
                  have := hn O hO
                  simp [this] at b2
                · simp at b2
            · exact .inl b1
            · exact .inr b1
        · intro hle
          simpa [hle] using a3
        · intro hlt hact
          simpa [hlt, hact] using a4
      refine ⟨by simp [hlen], ?_, ?_, ?_, ?_, ?_, ?_, ?_, ?_⟩
      · intro p x hx
        obtain ⟨j, h1, h2, rfl⟩ := hget p x hx
        obtain ⟨o, ho⟩ := hop j h2
        obtain ⟨O, h3, h4⟩ := hl2 j o (by simpa using ho)
        have hO : l.getD j default = O := by rw [List.getD_eq_getElem?_getD, h3]; rfl
        exact ⟨o, ho, by simp only [mkD, hO]; exact h4, rfl⟩
      · intro j hj
        have hm := List.all_eq_true.1 hcont j (by simpa using hj)
        have hm : j ∈ ord := by simpa using hm
        obtain ⟨p, hp⟩ := List.getElem?_of_mem hm
        exact ⟨p, mkD l masks j, by rw [List.getElem?_map, hp]; rfl, rfl⟩
      · intro p q x y hx hy he
        rcases (hpair p q x y hx hy).1 with h | h
        · exact h
        · exact absurd he h
      · intro p q x y hne hx hy d O hd hO hn
        rcases (hpair p q x y hx hy).2.1 with h | h
        · exact absurd h hne
        · refine h d hd ?_
          rcases hn with hn | hn
          · exact .inl hn
          · exact .inr fun O' hO' => by rw [hO] at hO'; cases hO'; exact hn
      · intro p q x y hle hx hy; exact (hpair p q x y hx hy).2.2.1 hle
      · intro p q x y hlt hx hy; exact (hpair p q x y hx hy).2.2.2 hlt
      · intro D hD p x hx hDx A hA
        obtain ⟨j, h1, h2, rfl⟩ := hget p x hx
        have key : ∀ (n j : Nat), j < n → j < ops.size → D j = true → ∀ A, (masks.getD j 0).testBit A = true → D A = true := by
          intro n
          induction n with
          | zero => intro j hj; omega
          | succ n ih =>
            intro j hj hjs hDj A hA
            obtain ⟨o, ho⟩ := hop j hjs
            obtain ⟨acc', g1, g2, g3⟩ := hmask j o ho
            rw [g2] at hA
            obtain ⟨e, he, hb, hA⟩ := (maskOf_spec acc' A _).1 hA
            have hDe := hD j o ho hDj e (Array.mem_def.2 he) hb
            rcases hA with rfl | hA
            · exact hDe
            · cases hk : acc'[e.on]? with
              | none => rw [List.getD_eq_getElem?_getD, hk] at hA; simp at hA
              | some m =>
                have hlt := (List.getElem?_eq_some_iff.1 hk).1
                refine ih e.on (by omega) (by omega) hDe A ?_
                rw [List.getD_eq_getElem?_getD, g3 _ _ hk]
                rw [List.getD_eq_getElem?_getD, hk] at hA
                exact hA
        exact key (j + 1) j (by omega) h2 hDx A hA
      · intro p x O hx hO e he hb
        obtain ⟨j, h1, h2, rfl⟩ := hget p x hx
        have hO' : ops[j]? = some O := hO
        refine ⟨?_, ?_⟩
        · have := List.all_eq_true.1 hedge O (by rw [← Array.mem_def]; exact Array.mem_of_getElem? hO')
          have := Array.all_eq_true_iff_forall_mem.1 this e he
          simpa [hb] using this
        · obtain ⟨acc', g1, g2, g3⟩ := hmask j O hO'
          show (masks.getD j 0).testBit e.on = true
          rw [g2]
          exact (maskOf_spec acc' _ _).2 ⟨e, by simpa using he, hb, .inl rfl⟩
    · simp at hc

end Go.Det
