/- Entries: whether two say the same. -/
import Derived.Test.YthahfhdibhgboaaEnt4
set_option linter.unusedVariables false
set_option linter.unusedSimpArgs false
set_option linter.unusedSectionVars false
namespace Go.Det
open Go.Proofs
attribute [local irreducible] Wp Wo Wd iop ev slots quiets wanted put

def says (xs : List (AV × List UInt8)) : List (List UInt8) := xs.map (·.2)
theorem says_drop {xs : List (AV × List UInt8)} {i : Nat} {p : AV × List UInt8} (hp : xs[i]? = some p) : says (xs.drop i) = p.2 :: says (xs.drop (i + 1)) := by
  have hlt : i < xs.length := (List.getElem?_eq_some_iff.1 hp).1
  rw [List.drop_eq_getElem_cons hlt, (List.getElem?_eq_some_iff.1 hp).2]
  rfl
theorem says_len (xs : List (AV × List UInt8)) : (says xs).length = xs.length := by simp [says]

set_option maxHeartbeats 1000000 in
theorem eqf_loop {h : H} {v w : AV} {xs ys : List (AV × List UInt8)} (hc : Ch h v xs) (hd : Ch h w ys) (hl : xs.length = ys.length) (hlen : xs.length < 2 ^ 62) :
    ∀ (k i : Nat), i + k = xs.length → ∀ (ts : List AV), ts.length = 32 → getL ts 1 = some w → getL ts 2 = some (.fn (.func 23) [] []) → getL ts 15 = some v → getL ts 16 = some (.int .i64 xs.length) → getL ts 17 = some (.int .i64 i) →
      ∀ (Q : Ex → St → Prop), (says (xs.drop i) ≠ says (ys.drop i) → ∀ ts', ts'.length = 32 → getL ts' 6 = some (.bool false) → Q .ret (ts', h)) →
        (says (xs.drop i) = says (ys.drop i) → ∀ ts', ts'.length = 32 → Q (.exit 0) (ts', h)) → Wp TF (.loop l82_1) (ts, h) Q := by
  intro k
  induction k with
  | zero =>
    intro i hi ts t0 t1 t2 t15 t16 t17 Q hbad hgood
    obtain rfl : i = xs.length := by omega
    refine Wp.loop ?_
    rw [laid_eq t0 [(15, v), (16, .int .i64 xs.length), (17, .int .i64 xs.length)] (by simp [t15, t16, t17])]
    unfold l82_1
    refine Wp.seq ?_
    refine Wp.region ?_
    refine Wo.val (.bool false) h (by kernel_rfl) (iop_cmp (op := .lss) (k := .i64) (a := xs.length) (b := xs.length) false (by kernel_rfl) (by kernel_rfl) (by simp) (by simp [binInt])) ?_
    refine Wo.nil ?_
    refine Wp.seq ?_
    refine Wp.cond false (by kernel_rfl) ?_
    exact Wp.exit (hgood (by rw [List.drop_length, hl, List.drop_length]) _ (by kernel_rfl))
  | succ k ih =>
    intro i hi ts t0 t1 t2 t15 t16 t17 Q hbad hgood
    have hlt : i < xs.length := by omega
    have hlt2 : i < ys.length := by omega
    obtain ⟨p, hp⟩ : ∃ p, xs[i]? = some p := ⟨xs[i], List.getElem?_eq_getElem hlt⟩
    obtain ⟨q, hq⟩ : ∃ p, ys[i]? = some p := ⟨ys[i], List.getElem?_eq_getElem hlt2⟩
    rw [says_drop hp, says_drop hq] at hbad hgood
    obtain ⟨a, c, rfl, hld⟩ := hc.at hp
    obtain ⟨a', c', rfl, hld'⟩ := hd.at hq
    have ceq := equal_run ((hc.el p (List.mem_of_getElem? hp)).1) ((hd.el q (List.mem_of_getElem? hq)).1)
    have wi : IntKind.i64.wrap ((i : Int) + 1) = ((i + 1 : Nat) : Int) := by rw [i64_fit _ (by omega)]; omega
    refine Wp.loop ?_
    rw [laid_eq t0 [(1, .sl a' ys.length c'), (2, .fn (.func 23) [] []), (15, .sl a xs.length c), (16, .int .i64 xs.length), (17, .int .i64 i)] (by simp [t1, t2, t15, t16, t17])]
    unfold l82_1
    by_cases he : p.2 = q.2
    · rw [show (p.2 == q.2) = true by simp [he]] at ceq
      rw [he] at hbad hgood
      refine Wp.seq ?_
      refine Wp.region ?_
      refine Wo.val (.bool true) h (by kernel_rfl) (iop_cmp (op := .lss) (k := .i64) (a := i) (b := xs.length) true (by kernel_rfl) (by kernel_rfl) (by simp) (by simp [binInt]; omega)) ?_
      refine Wo.nil ?_
      refine Wp.seq ?_
      refine Wp.cond true (by kernel_rfl) ?_
      refine Wp.skip ?_
      refine Wp.seq ?_
      refine Wp.block ?_
      refine Wp.seq ?_
      refine Wp.region ?_
      refine Wo.pre 1 (by kernel_rfl) ?_
      refine Wo.val _ h (by kernel_rfl) (iop_ia (a := a) (n := xs.length) (c := c) (i := i) (by kernel_rfl) (by kernel_rfl) hlt) ?_
      refine Wo.val p.1 h (by kernel_rfl) (iop_ld (a := ⟨a.b, a.g, a.o + i * 1⟩) (by kernel_rfl) hld) ?_
      refine Wo.pre 1 (by kernel_rfl) ?_
      refine Wo.pre 1 (by kernel_rfl) ?_
      refine Wo.nil ?_
      refine Wp.seq ?_
      refine Wp.region ?_
      refine Wo.pre 1 (by kernel_rfl) ?_
      refine Wo.pre 1 (by kernel_rfl) ?_
      refine Wo.val _ h (by kernel_rfl) (iop_ia (a := a') (n := ys.length) (c := c') (i := i) (by kernel_rfl) (by kernel_rfl) hlt2) ?_
      refine Wo.val q.1 h (by kernel_rfl) (iop_ld (a := ⟨a'.b, a'.g, a'.o + i * 1⟩) (by kernel_rfl) hld') ?_
      refine Wo.pre 1 (by kernel_rfl) ?_
      refine Wo.nil ?_
      refine Wp.seq ?_
      refine Wp.region ?_
      refine Wo.pre 1 (by kernel_rfl) ?_
      refine Wo.pre 1 (by kernel_rfl) ?_
      refine Wo.pre 1 (by kernel_rfl) ?_
      refine Wo.call (by kernel_rfl) (by kernel_rfl) (ceq) ?_
      refine Wo.pre 1 (by kernel_rfl) ?_
      refine Wo.nil ?_
      refine Wp.cond false (by kernel_rfl) ?_
      refine Wp.skip ?_
      refine Wp.region ?_
      refine Wo.pre 1 (by kernel_rfl) ?_
      refine Wo.pre 1 (by kernel_rfl) ?_
      refine Wo.nil ?_
      exact ih (i + 1) (by omega) _ (by kernel_rfl) (by kernel_rfl) (by kernel_rfl) (by kernel_rfl) (by kernel_rfl) (by rw [← wi]; kernel_rfl) Q (fun hn => hbad (fun e => hn (List.cons.inj e).2)) (fun e => hgood (by rw [e]))
    · rw [show (p.2 == q.2) = false by simp [he]] at ceq
      refine Wp.seq ?_
      refine Wp.region ?_
      refine Wo.val (.bool true) h (by kernel_rfl) (iop_cmp (op := .lss) (k := .i64) (a := i) (b := xs.length) true (by kernel_rfl) (by kernel_rfl) (by simp) (by simp [binInt]; omega)) ?_
      refine Wo.nil ?_
      refine Wp.seq ?_
      refine Wp.cond true (by kernel_rfl) ?_
      refine Wp.skip ?_
      refine Wp.seq ?_
      refine Wp.block ?_
      refine Wp.seq ?_
      refine Wp.region ?_
      refine Wo.pre 1 (by kernel_rfl) ?_
      refine Wo.val _ h (by kernel_rfl) (iop_ia (a := a) (n := xs.length) (c := c) (i := i) (by kernel_rfl) (by kernel_rfl) hlt) ?_
      refine Wo.val p.1 h (by kernel_rfl) (iop_ld (a := ⟨a.b, a.g, a.o + i * 1⟩) (by kernel_rfl) hld) ?_
      refine Wo.pre 1 (by kernel_rfl) ?_
      refine Wo.pre 1 (by kernel_rfl) ?_
      refine Wo.nil ?_
      refine Wp.seq ?_
      refine Wp.region ?_
      refine Wo.pre 1 (by kernel_rfl) ?_
      refine Wo.pre 1 (by kernel_rfl) ?_
      refine Wo.val _ h (by kernel_rfl) (iop_ia (a := a') (n := ys.length) (c := c') (i := i) (by kernel_rfl) (by kernel_rfl) hlt2) ?_
      refine Wo.val q.1 h (by kernel_rfl) (iop_ld (a := ⟨a'.b, a'.g, a'.o + i * 1⟩) (by kernel_rfl) hld') ?_
      refine Wo.pre 1 (by kernel_rfl) ?_
      refine Wo.nil ?_
      refine Wp.seq ?_
      refine Wp.region ?_
      refine Wo.pre 1 (by kernel_rfl) ?_
      refine Wo.pre 1 (by kernel_rfl) ?_
      refine Wo.pre 1 (by kernel_rfl) ?_
      refine Wo.call (by kernel_rfl) (by kernel_rfl) (ceq) ?_
      refine Wo.pre 1 (by kernel_rfl) ?_
      refine Wo.nil ?_
      refine Wp.cond true (by kernel_rfl) ?_
      refine Wp.seq ?_
      refine Wp.region ?_
      refine Wo.pre 1 (by kernel_rfl) ?_
      refine Wo.nil ?_
      exact Wp.ret (hbad (fun e => he (List.cons.inj e).1) _ (by kernel_rfl) (by kernel_rfl))

theorem eqf_run {h : H} {v w : AV} {xs ys : List (AV × List UInt8)} (hc : Ch h v xs) (hd : Ch h w ys) (hlen : xs.length < 2 ^ 62) : Runs TF 82 [v, w, .fn (.func 23) [] []] h (.bool (decide (says xs = says ys))) h := by
  refine Runs.of' f82 rfl ?_
  by_cases hl : xs.length = ys.length
  · refine Wp.seq ?_
    refine Wp.region ?_
    refine Wo.pre 1 (by kernel_rfl) ?_
    refine Wo.nil ?_
    refine Wp.seq ?_
    refine Wp.seq ?_
    refine Wp.region ?_
    refine Wo.pre 1 (by kernel_rfl) ?_
    refine Wo.val (.int .i64 xs.length) h (by kernel_rfl) (iop_lenS (v := v) (by kernel_rfl) hc.lenS) ?_
    refine Wo.pre 1 (by kernel_rfl) ?_
    refine Wo.val (.int .i64 ys.length) h (by kernel_rfl) (iop_lenS (v := w) (by kernel_rfl) hd.lenS) ?_
    refine Wo.val (.bool false) h (by kernel_rfl) (iop_cmp (op := .neq) (k := .i64) (a := xs.length) (b := ys.length) false (by kernel_rfl) (by kernel_rfl) (by simp) (by simp [binInt, hl])) ?_
    refine Wo.nil ?_
    refine Wp.cond false (by kernel_rfl) ?_
    refine Wp.skip ?_
    refine Wp.seq ?_
    refine Wp.seq ?_
    refine Wp.region ?_
    refine Wo.pre 1 (by kernel_rfl) ?_
    refine Wo.val (.int .i64 xs.length) h (by kernel_rfl) (iop_lenS (v := v) (by kernel_rfl) hc.lenS) ?_
    refine Wo.pre 1 (by kernel_rfl) ?_
    refine Wo.nil ?_
    refine Wp.block ?_
    refine eqf_loop hc hd hl hlen xs.length 0 (by omega) _ (by kernel_rfl) (by kernel_rfl) (by kernel_rfl) (by kernel_rfl) (by kernel_rfl) (by kernel_rfl) _ ?_ ?_
    · intro hn ts' d0 d6
      rw [laid_eq d0 [(6, .bool false)] (by simp [d6])]
      have : decide (says xs = says ys) = false := by simpa using hn
      exact ⟨.inr rfl, rfl, by rw [this]; kernel_rfl⟩
    · intro he ts' d0
      rw [laid_eq d0 [] (by simp)]
      refine Wp.seq ?_
      refine Wp.region ?_
      refine Wo.pre 8 (by kernel_rfl) ?_
      refine Wo.nil ?_
      have : decide (says xs = says ys) = true := by simpa using he
      exact Wp.ret ⟨.inr rfl, rfl, by rw [this]; kernel_rfl⟩
  · have hl' : (xs.length : Int) ≠ ys.length := by omega
    have : decide (says xs = says ys) = false := by
      rw [decide_eq_false_iff_not]
      intro e
      exact hl (by rw [← says_len xs, e, says_len])
    refine Wp.seq ?_
    refine Wp.region ?_
    refine Wo.pre 1 (by kernel_rfl) ?_
    refine Wo.nil ?_
    refine Wp.seq ?_
    refine Wp.seq ?_
    refine Wp.region ?_
    refine Wo.pre 1 (by kernel_rfl) ?_
    refine Wo.val (.int .i64 xs.length) h (by kernel_rfl) (iop_lenS (v := v) (by kernel_rfl) hc.lenS) ?_
    refine Wo.pre 1 (by kernel_rfl) ?_
    refine Wo.val (.int .i64 ys.length) h (by kernel_rfl) (iop_lenS (v := w) (by kernel_rfl) hd.lenS) ?_
    refine Wo.val (.bool true) h (by kernel_rfl) (iop_cmp (op := .neq) (k := .i64) (a := xs.length) (b := ys.length) true (by kernel_rfl) (by kernel_rfl) (by simp) (by simp only [binInt]; rw [bne_iff_ne.2 hl'])) ?_
    refine Wo.nil ?_
    refine Wp.cond true (by kernel_rfl) ?_
    refine Wp.seq ?_
    refine Wp.region ?_
    refine Wo.pre 1 (by kernel_rfl) ?_
    refine Wo.nil ?_
    exact Wp.ret ⟨.inr rfl, rfl, by rw [this]; kernel_rfl⟩

def sameE (t : Nat) (xs : List (AV × List UInt8)) (t' : Nat) (ys : List (AV × List UInt8)) : Bool := decide (t = t') && decide (says xs = says ys)

set_option maxHeartbeats 1000000 in
theorem samee_run {h : H} {v w : AV} {xs ys : List (AV × List UInt8)} (hc : Ch h v xs) (hd : Ch h w ys) (hlen : xs.length < 2 ^ 62) (t t' : Nat) : ∃ r h', Runs TF 51 [entV t v, entV t' w] h r h' ∧ r = .bool (sameE t xs t' ys) ∧ Ext h h' := by
  refine Runs.ofP f51 rfl ?_
  obtain ⟨H1, X1, n1, enew, Ld⟩ := ent_new hc t
  obtain ⟨H2, X2, n2, enew2, Ld2⟩ := ent_new (hd.ext X1) t'
  have l1 := Ld H2 X2
  have l2 := Ld2 H2 (Ext.refl _)
  have X12 := X1.trans X2
  have c3 := eqf_run (hc.ext X12) (hd.ext X12) hlen
  by_cases ht : t = t'
  · have e : sameE t xs t' ys = decide (says xs = says ys) := by simp [sameE, ht]
    rw [e]
    obtain ⟨b, hb⟩ : ∃ b, b = decide (says xs = says ys) := ⟨_, rfl⟩
    rw [← hb] at c3 ⊢
    refine Wp.seq ?_
    refine Wp.region ?_
    refine Wo.val _ _ (by kernel_rfl) (enew (by kernel_rfl)) ?_
    refine Wo.val _ _ (by kernel_rfl) (enew2 (by kernel_rfl)) ?_
    refine Wo.pre 1 (by kernel_rfl) ?_
    refine Wo.nil ?_
    refine Wp.seq ?_
    refine Wp.region ?_
    refine Wo.pre 1 (by kernel_rfl) ?_
    refine Wo.val (.int .u64 t) H2 (by kernel_rfl) (iop_ld (a := ⟨h.n, 0, 0⟩) (by kernel_rfl) l1.1) ?_
    refine Wo.pre 1 (by kernel_rfl) ?_
    refine Wo.val (.int .u64 t') H2 (by kernel_rfl) (iop_ld (a := ⟨H1.n, 0, 0⟩) (by kernel_rfl) l2.1) ?_
    refine Wo.val (.bool true) H2 (by kernel_rfl) (iop_cmp (op := .eql) (k := .u64) (a := t) (b := t') true (by kernel_rfl) (by kernel_rfl) (by simp) (binEq_true (by omega))) ?_
    refine Wo.pre 1 (by kernel_rfl) ?_
    refine Wo.pre 1 (by kernel_rfl) ?_
    refine Wo.val v H2 (by kernel_rfl) (iop_ld (a := ⟨h.n, 0, 1⟩) (by kernel_rfl) l1.2.1) ?_
    refine Wo.pre 1 (by kernel_rfl) ?_
    refine Wo.val w H2 (by kernel_rfl) (iop_ld (a := ⟨H1.n, 0, 1⟩) (by kernel_rfl) l2.2.1) ?_
    refine Wo.call (by kernel_rfl) (by kernel_rfl) (c3) ?_
    refine Wo.pre 1 (by kernel_rfl) ?_
    refine Wo.pre 1 (by kernel_rfl) ?_
    refine Wo.nil ?_
    exact Wp.ret ⟨.inr rfl, .bool b, (by kernel_rfl), rfl, X12⟩
  · have e : sameE t xs t' ys = false := by simp [sameE, ht]
    rw [e]
    refine Wp.seq ?_
    refine Wp.region ?_
    refine Wo.val _ _ (by kernel_rfl) (enew (by kernel_rfl)) ?_
    refine Wo.val _ _ (by kernel_rfl) (enew2 (by kernel_rfl)) ?_
    refine Wo.pre 1 (by kernel_rfl) ?_
    refine Wo.nil ?_
    refine Wp.seq ?_
    refine Wp.region ?_
    refine Wo.pre 1 (by kernel_rfl) ?_
    refine Wo.val (.int .u64 t) H2 (by kernel_rfl) (iop_ld (a := ⟨h.n, 0, 0⟩) (by kernel_rfl) l1.1) ?_
    refine Wo.pre 1 (by kernel_rfl) ?_
    refine Wo.val (.int .u64 t') H2 (by kernel_rfl) (iop_ld (a := ⟨H1.n, 0, 0⟩) (by kernel_rfl) l2.1) ?_
    refine Wo.val (.bool false) H2 (by kernel_rfl) (iop_cmp (op := .eql) (k := .u64) (a := t) (b := t') false (by kernel_rfl) (by kernel_rfl) (by simp) (binEq_false (by omega))) ?_
    refine Wo.pre 1 (by kernel_rfl) ?_
    refine Wo.pre 1 (by kernel_rfl) ?_
    refine Wo.pre 1 (by kernel_rfl) ?_
    refine Wo.pre 1 (by kernel_rfl) ?_
    refine Wo.pre 1 (by kernel_rfl) ?_
    refine Wo.pre 1 (by kernel_rfl) ?_
    refine Wo.pre 1 (by kernel_rfl) ?_
    refine Wo.pre 1 (by kernel_rfl) ?_
    refine Wo.nil ?_
    exact Wp.ret ⟨.inr rfl, .bool false, (by kernel_rfl), rfl, X12⟩
end Go.Det
