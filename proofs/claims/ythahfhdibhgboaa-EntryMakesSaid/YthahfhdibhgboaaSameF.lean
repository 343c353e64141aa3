/- Entries: whether two say the same, by the reference. -/
import Derived.Test.YthahfhdibhgboaaSameE
set_option linter.unusedVariables false
set_option linter.unusedSimpArgs false
set_option linter.unusedSectionVars false
namespace Go.Det
open Go.Proofs
attribute [local irreducible] Wp Wo Wd iop ev slots quiets wanted put

theorem iop_neStr {x y : IX} {ρ : IX → AV} {h : H} {a b : List UInt8} (c : Bool) (hx : ρ x = .str a) (hy : ρ y = .str b) (e : (!(a == b)) = c) : iop (.bin .neq x y) ρ h = some (.val (.bool c) h) := by
  simp [iop, binop, binStr, hx, hy, ← e]
theorem rd_cvBS {h : H} {v : AV} {l : List UInt8} (hb : Bs h v l) : readsAs (.cvBS (.c v)) (.str l) h = true := reads_ok (h' := h) (iop_cvBS (v := v) (by kernel_rfl) hb)

set_option maxHeartbeats 2000000 in
theorem rsame_loop {h : H} {v w : AV} {xs ys : List (AV × List UInt8)} {b1 b2 : Nat} (hc : Ch h v xs) (hd : Ch h w ys) (hl : xs.length = ys.length) (hlen : xs.length < 2 ^ 62) (L1 : h.ldg ⟨b1, 0, 1⟩ none = some v) (L2 : h.ldg ⟨b2, 0, 1⟩ none = some w) :
    ∀ (k i : Nat), i + k = xs.length → ∀ (ts : List AV), ts.length = 40 → getL ts 2 = some (.ptr ⟨b1, 0, 0⟩) → getL ts 3 = some (.ptr ⟨b2, 0, 0⟩) → getL ts 5 = some (.int .i64 i) →
      ∀ (Q : Ex → St → Prop), (says (xs.drop i) ≠ says (ys.drop i) → ∀ ts', ts'.length = 40 → getL ts' 4 = some (.bool false) → Q .ret (ts', h)) →
        (says (xs.drop i) = says (ys.drop i) → ∀ ts', ts'.length = 40 → Q (.exit 0) (ts', h)) → Wp TF (.loop l52_1) (ts, h) Q := by
  intro k
  induction k with
  | zero =>
    intro i hi ts t0 t2 t3 t5 Q hbad hgood
    obtain rfl : i = xs.length := by omega
    refine Wp.loop ?_
    rw [laid_eq t0 [(2, .ptr ⟨b1, 0, 0⟩), (3, .ptr ⟨b2, 0, 0⟩), (5, .int .i64 xs.length)] (by simp [t2, t3, t5])]
    unfold l52_1
    refine Wp.seq ?_
    refine Wp.seq ?_
    refine Wp.region ?_
    refine Wo.pre 1 (by kernel_rfl) ?_
    refine Wo.pre 1 (by kernel_rfl) ?_
    refine Wo.val v h (by kernel_rfl) (iop_ld (a := ⟨b1, 0, 1⟩) (by kernel_rfl) L1) ?_
    refine Wo.val (.int .i64 xs.length) h (by kernel_rfl) (iop_lenS (v := v) (by kernel_rfl) hc.lenS) ?_
    refine Wo.val (.bool false) h (by kernel_rfl) (iop_cmp (op := .lss) (k := .i64) (a := xs.length) (b := xs.length) false (by kernel_rfl) (by kernel_rfl) (by simp) (by simp [binInt])) ?_
    refine Wo.nil ?_
    refine Wp.cond false (by kernel_rfl) ?_
    exact Wp.exit (hgood (by rw [List.drop_length, hl, List.drop_length]) _ (by kernel_rfl))
  | succ k ih =>
    intro i hi ts t0 t2 t3 t5 Q hbad hgood
    have hlt : i < xs.length := by omega
    have hlt2 : i < ys.length := by omega
    obtain ⟨p, hp⟩ : ∃ p, xs[i]? = some p := ⟨xs[i], List.getElem?_eq_getElem hlt⟩
    obtain ⟨q, hq⟩ : ∃ p, ys[i]? = some p := ⟨ys[i], List.getElem?_eq_getElem hlt2⟩
    rw [says_drop hp, says_drop hq] at hbad hgood
    have hls := hc.lenS
    obtain ⟨a, c, rfl, hld⟩ := hc.at hp
    obtain ⟨a', c', rfl, hld'⟩ := hd.at hq
    have pB := (hc.el p (List.mem_of_getElem? hp)).1
    have qB := (hd.el q (List.mem_of_getElem? hq)).1
    have wi : IntKind.i64.wrap ((i : Int) + 1) = ((i + 1 : Nat) : Int) := by rw [i64_fit _ (by omega)]; omega
    have hp6 : Pend.holds [(.cvBS (.c q.1), .str q.2, 11), (.ld none (.c (.ptr ⟨a'.b, a'.g, a'.o + i * 1⟩)), q.1, 10), (.ld none (.c (.ptr ⟨b2, 0, 1⟩)), .sl a' ys.length c', 7), (.cvBS (.c p.1), .str p.2, 5), (.ld none (.c (.ptr ⟨a.b, a.g, a.o + i * 1⟩)), p.1, 4), (.ld none (.c (.ptr ⟨b1, 0, 1⟩)), .sl a xs.length c, 1)] h = true :=
      holds_and (rd_cvBS qB) (holds_and (rd_ld hld') (holds_and (rd_ld L2) (holds_and (rd_cvBS pB) (holds_and (rd_ld hld) (holds_and (rd_ld L1) rfl)))))
    obtain ⟨eb, heb⟩ : ∃ eb, eb = (!(p.2 == q.2)) := ⟨_, rfl⟩
    refine Wp.loop ?_
    rw [laid_eq t0 [(2, .ptr ⟨b1, 0, 0⟩), (3, .ptr ⟨b2, 0, 0⟩), (5, .int .i64 i)] (by simp [t2, t3, t5])]
    unfold l52_1
    refine Wp.seq ?_
    refine Wp.seq ?_
    refine Wp.region ?_
    refine Wo.pre 1 (by kernel_rfl) ?_
    refine Wo.pre 1 (by kernel_rfl) ?_
    refine Wo.val (.sl a xs.length c) h (by kernel_rfl) (iop_ld (a := ⟨b1, 0, 1⟩) (by kernel_rfl) L1) ?_
    refine Wo.val (.int .i64 xs.length) h (by kernel_rfl) (iop_lenS (v := .sl a xs.length c) (by kernel_rfl) hls) ?_
    refine Wo.val (.bool true) h (by kernel_rfl) (iop_cmp (op := .lss) (k := .i64) (a := i) (b := xs.length) true (by kernel_rfl) (by kernel_rfl) (by simp) (by simp [binInt]; omega)) ?_
    refine Wo.nil ?_
    refine Wp.cond true (by kernel_rfl) ?_
    refine Wp.skip ?_
    refine Wp.seq ?_
    refine Wp.block ?_
    refine Wp.seq ?_
    refine Wp.draw ?_
    refine Wd.pure (by kernel_rfl) (by kernel_rfl) ?_
    refine Wd.read (.sl a xs.length c) (.ld none (.c (.ptr ⟨b1, 0, 1⟩))) (by kernel_rfl) (by kernel_rfl) (iop_ld (a := ⟨b1, 0, 1⟩) (by kernel_rfl) L1) ?_
    refine Wd.pure (by kernel_rfl) (by kernel_rfl) ?_
    refine Wd.make _ h (by kernel_rfl) (by kernel_rfl) (iop_ia (a := a) (n := xs.length) (c := c) (i := i) (by kernel_rfl) (by kernel_rfl) hlt) ?_
    refine Wd.read p.1 (.ld none (.c (.ptr ⟨a.b, a.g, a.o + i * 1⟩))) (by kernel_rfl) (by kernel_rfl) (iop_ld (a := ⟨a.b, a.g, a.o + i * 1⟩) (by kernel_rfl) hld) ?_
    refine Wd.read (.str p.2) (.cvBS (.c p.1)) (by kernel_rfl) (by kernel_rfl) (iop_cvBS (v := p.1) (by kernel_rfl) pB) ?_
    refine Wd.pure (by kernel_rfl) (by kernel_rfl) ?_
    refine Wd.read (.sl a' ys.length c') (.ld none (.c (.ptr ⟨b2, 0, 1⟩))) (by kernel_rfl) (by kernel_rfl) (iop_ld (a := ⟨b2, 0, 1⟩) (by kernel_rfl) L2) ?_
    refine Wd.pure (by kernel_rfl) (by kernel_rfl) ?_
    refine Wd.make _ h (by kernel_rfl) (by kernel_rfl) (iop_ia (a := a') (n := ys.length) (c := c') (i := i) (by kernel_rfl) (by kernel_rfl) hlt2) ?_
    refine Wd.read q.1 (.ld none (.c (.ptr ⟨a'.b, a'.g, a'.o + i * 1⟩))) (by kernel_rfl) (by kernel_rfl) (iop_ld (a := ⟨a'.b, a'.g, a'.o + i * 1⟩) (by kernel_rfl) hld') ?_
    refine Wd.read (.str q.2) (.cvBS (.c q.1)) (by kernel_rfl) (by kernel_rfl) (iop_cvBS (v := q.1) (by kernel_rfl) qB) ?_
    refine Wd.make (.bool eb) h (by kernel_rfl) (by kernel_rfl) (iop_neStr (a := p.2) (b := q.2) eb (by kernel_rfl) (by kernel_rfl) heb.symm) ?_
    refine Wd.done (holds_of _ (by kernel_rfl) hp6) ?_
    by_cases he : p.2 = q.2
    · have : eb = false := by rw [heb]; simp [he]
      subst this
      rw [he] at hbad hgood
      refine Wp.cond false (by kernel_rfl) ?_
      refine Wp.skip ?_
      refine Wp.region ?_
      refine Wo.pre 8 (by kernel_rfl) ?_
      refine Wo.nil ?_
      exact ih (i + 1) (by omega) _ (by kernel_rfl) (by kernel_rfl) (by kernel_rfl) (by rw [← wi]; kernel_rfl) Q (fun hn => hbad (fun e => hn (List.cons.inj e).2)) (fun e => hgood (by rw [e]))
    · have : eb = true := by rw [heb]; simp [he]
      subst this
      refine Wp.cond true (by kernel_rfl) ?_
      refine Wp.seq ?_
      refine Wp.region ?_
      refine Wo.pre 8 (by kernel_rfl) ?_
      refine Wo.nil ?_
      exact Wp.ret (hbad (fun e => he (List.cons.inj e).1) _ (by kernel_rfl) (by kernel_rfl))

set_option maxHeartbeats 1000000 in
theorem rsamee_run {h : H} {v w : AV} {xs ys : List (AV × List UInt8)} (hc : Ch h v xs) (hd : Ch h w ys) (hlen : xs.length < 2 ^ 62) (t t' : Nat) : ∃ r h', Runs TF 52 [entV t v, entV t' w] h r h' ∧ r = .bool (sameE t xs t' ys) ∧ Ext h h' := by
  refine Runs.ofP f52 rfl ?_
  obtain ⟨H1, X1, n1, enew, Ld⟩ := ent_new hc t
  obtain ⟨H2, X2, n2, enew2, Ld2⟩ := ent_new (hd.ext X1) t'
  have l1 := Ld H2 X2
  have l2 := Ld2 H2 (Ext.refl _)
  have X12 := X1.trans X2
  have hc2 := hc.ext X12
  have hd2 := hd.ext X12
  by_cases ht : t = t'
  · by_cases hl : xs.length = ys.length
    · refine Wp.seq ?_
      refine Wp.region ?_
      refine Wo.val _ _ (by kernel_rfl) (enew (by kernel_rfl)) ?_
      refine Wo.val _ _ (by kernel_rfl) (enew2 (by kernel_rfl)) ?_
      refine Wo.pre 1 (by kernel_rfl) ?_
      refine Wo.nil ?_
      refine Wp.seq ?_
      refine Wp.seq ?_
      refine Wp.region ?_
      refine Wo.pre 1 (by kernel_rfl) ?_
      refine Wo.val (.int .u64 t) H2 (by kernel_rfl) (iop_ld (a := ⟨h.n, 0, 0⟩) (by kernel_rfl) l1.1) ?_
      refine Wo.pre 1 (by kernel_rfl) ?_
      refine Wo.val (.int .u64 t') H2 (by kernel_rfl) (iop_ld (a := ⟨H1.n, 0, 0⟩) (by kernel_rfl) l2.1) ?_
      refine Wo.val (.bool false) H2 (by kernel_rfl) (iop_cmp (op := .neq) (k := .u64) (a := t) (b := t') false (by kernel_rfl) (by kernel_rfl) (by simp) (by simp [binInt, ht])) ?_
      refine Wo.pre 1 (by kernel_rfl) ?_
      refine Wo.pre 1 (by kernel_rfl) ?_
      refine Wo.val v H2 (by kernel_rfl) (iop_ld (a := ⟨h.n, 0, 1⟩) (by kernel_rfl) l1.2.1) ?_
      refine Wo.val (.int .i64 xs.length) H2 (by kernel_rfl) (iop_lenS (v := v) (by kernel_rfl) hc.lenS) ?_
      refine Wo.pre 1 (by kernel_rfl) ?_
      refine Wo.val w H2 (by kernel_rfl) (iop_ld (a := ⟨H1.n, 0, 1⟩) (by kernel_rfl) l2.2.1) ?_
      refine Wo.val (.int .i64 ys.length) H2 (by kernel_rfl) (iop_lenS (v := w) (by kernel_rfl) hd.lenS) ?_
      refine Wo.val (.bool false) H2 (by kernel_rfl) (iop_cmp (op := .neq) (k := .i64) (a := xs.length) (b := ys.length) false (by kernel_rfl) (by kernel_rfl) (by simp) (by simp [binInt, hl])) ?_
      refine Wo.pre 1 (by kernel_rfl) ?_
      refine Wo.nil ?_
      refine Wp.cond false (by kernel_rfl) ?_
      refine Wp.skip ?_
      refine Wp.seq ?_
      refine Wp.seq ?_
      refine Wp.region ?_
      refine Wo.pre 1 (by kernel_rfl) ?_
      refine Wo.nil ?_
      refine Wp.block ?_
      refine rsame_loop hc2 hd2 hl hlen l1.2.1 l2.2.1 xs.length 0 (by omega) _ (by kernel_rfl) (by kernel_rfl) (by kernel_rfl) (by kernel_rfl) _ ?_ ?_
      · intro hn ts' d0 d4
        rw [laid_eq d0 [(4, .bool false)] (by simp [d4])]
        have : sameE t xs t' ys = false := by
          have hn : ¬ says xs = says ys := hn
          simp [sameE, hn]
        exact ⟨.inr rfl, .bool false, (by kernel_rfl), by rw [this], X12⟩
      · intro he ts' d0
        have he : says xs = says ys := he
        rw [laid_eq d0 [] (by simp)]
        refine Wp.seq ?_
        refine Wp.region ?_
        refine Wo.pre 8 (by kernel_rfl) ?_
        refine Wo.nil ?_
        have : sameE t xs t' ys = true := by simp [sameE, he, ht]
        exact Wp.ret ⟨.inr rfl, .bool true, (by kernel_rfl), by rw [this], X12⟩
    · have hl' : (xs.length : Int) ≠ ys.length := by omega
      have : sameE t xs t' ys = false := by
        have : ¬ says xs = says ys := fun e => hl (by rw [← says_len xs, e, says_len])
        simp [sameE, this]
      refine Wp.seq ?_
      refine Wp.region ?_
      refine Wo.val _ _ (by kernel_rfl) (enew (by kernel_rfl)) ?_
      refine Wo.val _ _ (by kernel_rfl) (enew2 (by kernel_rfl)) ?_
      refine Wo.pre 1 (by kernel_rfl) ?_
      refine Wo.nil ?_
      refine Wp.seq ?_
      refine Wp.seq ?_
      refine Wp.region ?_
      refine Wo.pre 1 (by kernel_rfl) ?_
      refine Wo.val (.int .u64 t) H2 (by kernel_rfl) (iop_ld (a := ⟨h.n, 0, 0⟩) (by kernel_rfl) l1.1) ?_
      refine Wo.pre 1 (by kernel_rfl) ?_
      refine Wo.val (.int .u64 t') H2 (by kernel_rfl) (iop_ld (a := ⟨H1.n, 0, 0⟩) (by kernel_rfl) l2.1) ?_
      refine Wo.val (.bool false) H2 (by kernel_rfl) (iop_cmp (op := .neq) (k := .u64) (a := t) (b := t') false (by kernel_rfl) (by kernel_rfl) (by simp) (by simp [binInt, ht])) ?_
      refine Wo.pre 1 (by kernel_rfl) ?_
      refine Wo.pre 1 (by kernel_rfl) ?_
      refine Wo.val v H2 (by kernel_rfl) (iop_ld (a := ⟨h.n, 0, 1⟩) (by kernel_rfl) l1.2.1) ?_
      refine Wo.val (.int .i64 xs.length) H2 (by kernel_rfl) (iop_lenS (v := v) (by kernel_rfl) hc.lenS) ?_
      refine Wo.pre 1 (by kernel_rfl) ?_
      refine Wo.val w H2 (by kernel_rfl) (iop_ld (a := ⟨H1.n, 0, 1⟩) (by kernel_rfl) l2.2.1) ?_
      refine Wo.val (.int .i64 ys.length) H2 (by kernel_rfl) (iop_lenS (v := w) (by kernel_rfl) hd.lenS) ?_
      refine Wo.val (.bool true) H2 (by kernel_rfl) (iop_cmp (op := .neq) (k := .i64) (a := xs.length) (b := ys.length) true (by kernel_rfl) (by kernel_rfl) (by simp) (by simp only [binInt]; rw [bne_iff_ne.2 hl'])) ?_
      refine Wo.pre 1 (by kernel_rfl) ?_
      refine Wo.nil ?_
      refine Wp.cond true (by kernel_rfl) ?_
      refine Wp.seq ?_
      refine Wp.region ?_
      refine Wo.pre 1 (by kernel_rfl) ?_
      refine Wo.nil ?_
      exact Wp.ret ⟨.inr rfl, .bool false, (by kernel_rfl), by rw [this], X12⟩
  · have ht' : (t : Int) ≠ t' := by omega
    have : sameE t xs t' ys = false := by simp [sameE, ht]
    refine Wp.seq ?_
    refine Wp.region ?_
    refine Wo.val _ _ (by kernel_rfl) (enew (by kernel_rfl)) ?_
    refine Wo.val _ _ (by kernel_rfl) (enew2 (by kernel_rfl)) ?_
    refine Wo.pre 1 (by kernel_rfl) ?_
    refine Wo.nil ?_
    refine Wp.seq ?_
    refine Wp.seq ?_
    refine Wp.region ?_
    refine Wo.pre 1 (by kernel_rfl) ?_
    refine Wo.val (.int .u64 t) H2 (by kernel_rfl) (iop_ld (a := ⟨h.n, 0, 0⟩) (by kernel_rfl) l1.1) ?_
    refine Wo.pre 1 (by kernel_rfl) ?_
    refine Wo.val (.int .u64 t') H2 (by kernel_rfl) (iop_ld (a := ⟨H1.n, 0, 0⟩) (by kernel_rfl) l2.1) ?_
    refine Wo.val (.bool true) H2 (by kernel_rfl) (iop_cmp (op := .neq) (k := .u64) (a := t) (b := t') true (by kernel_rfl) (by kernel_rfl) (by simp) (by simp only [binInt]; rw [bne_iff_ne.2 ht'])) ?_
    refine Wo.pre 1 (by kernel_rfl) ?_
    refine Wo.pre 1 (by kernel_rfl) ?_
    refine Wo.pre 1 (by kernel_rfl) ?_
    refine Wo.pre 1 (by kernel_rfl) ?_
    refine Wo.pre 1 (by kernel_rfl) ?_
    refine Wo.pre 1 (by kernel_rfl) ?_
    refine Wo.pre 1 (by kernel_rfl) ?_
    refine Wo.pre 1 (by kernel_rfl) ?_
    refine Wo.pre 1 (by kernel_rfl) ?_
    refine Wo.nil ?_
    refine Wp.cond true (by kernel_rfl) ?_
    refine Wp.seq ?_
    refine Wp.region ?_
    refine Wo.pre 1 (by kernel_rfl) ?_
    refine Wo.nil ?_
    exact Wp.ret ⟨.inr rfl, .bool false, (by kernel_rfl), by rw [this], X12⟩
end Go.Det
