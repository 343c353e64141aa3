/- Entries: one in new memory; rows that are spoiled. -/
import Derived.Test.YthahfhdibhgboaaSameF
import Derived.Test.YthahfhdibhgboaaSpoilE
set_option linter.unusedVariables false
set_option linter.unusedSimpArgs false
set_option linter.unusedSectionVars false
namespace Go.Det
open Go.Proofs
attribute [local irreducible] Wp Wo Wd iop ev slots quiets wanted put

/-- A chain of its own, its rows too. -/
structure OwnCh (lo : Nat) (h : H) (v : AV) (ys : List (AV × List UInt8)) : Prop where
  row : OwC 22 1 lo h v (ys.map (·.1)) ys.length
  el : ∀ p ∈ ys, Ow lo h p.1 p.2

theorem OwnCh.ch {lo : Nat} {h : H} {v : AV} {ys : List (AV × List UInt8)} (o : OwnCh lo h v ys) : Ch h v ys := by
  refine ⟨?_, fun p hp => ⟨(o.el p hp).bs, (o.el p hp).cok⟩, ?_⟩
  · rcases o.row with ⟨h1, _, h2⟩ | ⟨b, g, h1, h2, h3, h4, h5⟩
    · exact .inl ⟨h1, List.length_eq_zero_iff.1 h2⟩
    · refine .inr ⟨⟨b, g, 0⟩, .op 1, h4, h2, ?_⟩
      unfold H.ldn H.row
      simp only [h3, BEq.rfl, Bool.not_false, Bool.true_or, Bool.and_self, if_true]
      have : ys.length = (ys.map (·.1)).length := by simp
      rw [this]
      exact cut_all _
  · rintro a m c e
    rcases o.row with ⟨h1, _⟩ | ⟨b, g, _, _, _, h4, _⟩
    · rw [h1] at e; simp at e
    · rw [h4] at e; simp only [AV.sl.injEq] at e; exact .inr e.2.2.symm

theorem OwnCh.ext {lo : Nat} {h h' : H} {v : AV} {ys : List (AV × List UInt8)} (o : OwnCh lo h v ys) (hx : Ext h h') : OwnCh lo h' v ys :=
  ⟨o.row.ext hx.1 (fun b _ _ _ h2 _ => hx.2 b h2), fun p hp => (o.el p hp).ext hx⟩

set_option maxHeartbeats 1000000 in
theorem owne_loop {h0 : H} {v : AV} {xs : List (AV × List UInt8)} {blk rb : Nat} (hc : Ch h0 v xs) (hx : ∀ p ∈ xs, p.2.length ≤ maxRow) (hlen : xs.length * 24 ≤ 140737488355328) (L : ∀ q, Ext h0 q → q.ldg ⟨blk, 0, 1⟩ none = some v) :
    ∀ (k i : Nat), i + k = xs.length → ∀ (h : H) (lV : AV) (ys : List (AV × List UInt8)) (ts : List AV), Ext h0 h → OwnCh h0.n h lV ys → says ys = says (xs.take i) → ys.length = i → ts.length = 27 → getL ts 1 = some (.ptr ⟨blk, 0, 0⟩) → getL ts 2 = some (.ptr ⟨rb, 0, 0⟩) → getL ts 3 = some lV → getL ts 4 = some (.int .i64 i) →
      ∀ (Q : Ex → St → Prop), (∀ ts' h' lV ys, Ext h0 h' → OwnCh h0.n h' lV ys → says ys = says xs → ts'.length = 27 → getL ts' 1 = some (.ptr ⟨blk, 0, 0⟩) → getL ts' 2 = some (.ptr ⟨rb, 0, 0⟩) → getL ts' 3 = some lV → Q (.exit 0) (ts', h')) → Wp TF (.loop l40_1) (ts, h) Q := by
  have hmx : 200000000000000 = maxRow := rfl
  intro k
  induction k with
  | zero =>
    intro i hi h lV ys ts hE hO hsy hyl t0 t1 t2 t3 t4 Q hQ
    obtain rfl : i = xs.length := by omega
    rw [List.take_length] at hsy
    refine Wp.loop ?_
    rw [laid_eq t0 [(1, .ptr ⟨blk, 0, 0⟩), (2, .ptr ⟨rb, 0, 0⟩), (3, lV), (4, .int .i64 xs.length)] (by simp [t1, t2, t3, t4])]
    unfold l40_1
    refine Wp.seq ?_
    refine Wp.seq ?_
    refine Wp.region ?_
    refine Wo.pre 1 (by kernel_rfl) ?_
    refine Wo.pre 1 (by kernel_rfl) ?_
    refine Wo.val v h (by kernel_rfl) (iop_ld (a := ⟨blk, 0, 1⟩) (by kernel_rfl) (L h hE)) ?_
    refine Wo.val (.int .i64 xs.length) h (by kernel_rfl) (iop_lenS (v := v) (by kernel_rfl) hc.lenS) ?_
    refine Wo.val (.bool false) h (by kernel_rfl) (iop_cmp (op := .lss) (k := .i64) (a := xs.length) (b := xs.length) false (by kernel_rfl) (by kernel_rfl) (by simp) (by simp [binInt])) ?_
    refine Wo.nil ?_
    refine Wp.cond false (by kernel_rfl) ?_
    exact Wp.exit (hQ _ _ lV ys hE hO hsy (by kernel_rfl) (by kernel_rfl) (by kernel_rfl) (by kernel_rfl))
  | succ k ih =>
    intro i hi h lV ys ts hE hO hsy hyl t0 t1 t2 t3 t4 Q hQ
    have hlt : i < xs.length := by omega
    obtain ⟨p, hp⟩ : ∃ p, xs[i]? = some p := ⟨xs[i], List.getElem?_eq_getElem hlt⟩
    have hps := hx p (List.mem_of_getElem? hp)
    have hB := ((hc.el p (List.mem_of_getElem? hp)).1).ext hE
    have hls := hc.lenS
    obtain ⟨a, q, rfl, hld⟩ := (hc.ext hE).at hp
    have wi : IntKind.i64.wrap ((i : Int) + 1) = ((i + 1 : Nat) : Int) := by rw [i64_fit _ (by omega)]; omega
    have n0 := hE.1
    obtain ⟨c', H1, a1, w1, Y1, Z1⟩ := Ow.app (lo := h0.n) (h := h) (x := .nils) (l := []) (.inl ⟨rfl, rfl⟩) hB n0 (by simpa using hps)
    rw [List.nil_append] at w1
    have X1 : Ext h H1 := ⟨Y1.1, fun b hb => Z1 b hb (fun _ _ _ e => by simp at e)⟩
    have hc1 := w1.bs.parts
    have O1 := hO.ext X1
    have n1 := X1.1
    have fit : fits (ys.length + 1) 24 = true := by
      simp only [fits, Bool.and_eq_true, decide_eq_true_eq]; omega
    obtain ⟨H2, hH2⟩ : ∃ H2, H2 = H1.new (.cells 0 22 [c'] 0 false) := ⟨_, rfl⟩
    obtain ⟨l', H3, a3, o3, n3, k3⟩ := O1.row.app (by omega) (new := [c']) rfl (by simp [hc1.2.1]) fit (by omega) H2 hH2
    have bslc : ∀ {y : IX} {ρ : IX → AV}, ρ y = c' → iop (.bsl 22 [.nils] 1 [(0, 1, y)]) ρ H1 = some (.val (.sl ⟨H1.n, 0, 0⟩ 1 (.ex 1)) H2) := by
      intro y ρ hy
      simp [iop, fillL, hy, hc1.1, hc1.2.1, putAt, ← hH2]
    have kp : ∀ b g c, h0.n ≤ b → b < H1.n → H1.get b = some (.cells g 5 c 0 false) → H3.get b = H1.get b := fun b g c h1 h2 h3 => k3 b h2 (.inr (fun g c e => by rw [h3] at e; simp at e))
    have E3 : Ext h0 H3 := ⟨by omega, fun b hb => by rw [k3 b (by omega) (.inl hb), X1.2 b (by omega)]; exact hE.2 b hb⟩
    have O3 : OwnCh h0.n H3 l' (ys ++ [(c', p.2)]) := by
      refine ⟨by rw [List.map_append, List.length_append]; exact o3, fun r hr => ?_⟩
      rcases List.mem_append.1 hr with hr | hr
      · exact (O1.el r hr).keep n3 kp
      · simp only [List.mem_cons, List.not_mem_nil, or_false] at hr
        subst hr
        exact w1.keep n3 kp
    have hsy' : says (ys ++ [(c', p.2)]) = says (xs.take (i + 1)) := by
      rw [take_step hp]
      simp only [says, List.map_append] at hsy ⊢
      rw [hsy]
      rfl
    refine Wp.loop ?_
    rw [laid_eq t0 [(1, .ptr ⟨blk, 0, 0⟩), (2, .ptr ⟨rb, 0, 0⟩), (3, lV), (4, .int .i64 i)] (by simp [t1, t2, t3, t4])]
    unfold l40_1
    refine Wp.seq ?_
    refine Wp.seq ?_
    refine Wp.region ?_
    refine Wo.pre 1 (by kernel_rfl) ?_
    refine Wo.pre 1 (by kernel_rfl) ?_
    refine Wo.val (.sl a xs.length q) h (by kernel_rfl) (iop_ld (a := ⟨blk, 0, 1⟩) (by kernel_rfl) (L h hE)) ?_
    refine Wo.val (.int .i64 xs.length) h (by kernel_rfl) (iop_lenS (v := .sl a xs.length q) (by kernel_rfl) hls) ?_
    refine Wo.val (.bool true) h (by kernel_rfl) (iop_cmp (op := .lss) (k := .i64) (a := i) (b := xs.length) true (by kernel_rfl) (by kernel_rfl) (by simp) (by simp [binInt]; omega)) ?_
    refine Wo.nil ?_
    refine Wp.cond true (by kernel_rfl) ?_
    refine Wp.skip ?_
    refine Wp.seq ?_
    refine Wp.block ?_
    refine Wp.seq ?_
    refine Wp.region ?_
    refine Wo.pre 1 (by kernel_rfl) ?_
    refine Wo.nil ?_
    refine Wp.region ?_
    refine Wo.pre 1 (by kernel_rfl) ?_
    refine Wo.pre 1 (by kernel_rfl) ?_
    refine Wo.pre 1 (by kernel_rfl) ?_
    refine Wo.val (.sl a xs.length q) h (by kernel_rfl) (iop_ld (a := ⟨blk, 0, 1⟩) (by kernel_rfl) (L h hE)) ?_
    refine Wo.pre 1 (by kernel_rfl) ?_
    refine Wo.val _ h (by kernel_rfl) (iop_ia (a := a) (n := xs.length) (c := q) (i := i) (by kernel_rfl) (by kernel_rfl) hlt) ?_
    refine Wo.val p.1 h (by kernel_rfl) (iop_ld (a := ⟨a.b, a.g, a.o + i * 1⟩) (by kernel_rfl) hld) ?_
    refine Wo.val c' H1 (by kernel_rfl) (iop_app (v := .nils) (w := p.1) (by kernel_rfl) (by kernel_rfl) hB.parts.2.2 a1) ?_
    refine Wo.val _ H2 (by kernel_rfl) (bslc (by kernel_rfl)) ?_
    refine Wo.val l' H3 (by kernel_rfl) (iop_appG (v := lV) (w := .sl ⟨H1.n, 0, 0⟩ 1 (.ex 1)) (by kernel_rfl) (by kernel_rfl) rfl a3) ?_
    refine Wo.pre 1 (by kernel_rfl) ?_
    refine Wo.nil ?_
    refine Wp.region ?_
    refine Wo.pre 1 (by kernel_rfl) ?_
    refine Wo.pre 1 (by kernel_rfl) ?_
    refine Wo.pre 1 (by kernel_rfl) ?_
    refine Wo.nil ?_
    exact ih (i + 1) (by omega) H3 l' _ _ E3 O3 hsy' (by rw [List.length_append, hyl]; rfl) (by kernel_rfl) (by kernel_rfl) (by kernel_rfl) (by kernel_rfl) (by rw [← wi]; kernel_rfl) Q hQ

theorem retS {ts : List AV} {h : H} {k ag : Nat} {a : AA} {v : AV} (LA : h.ldg a (some ag) = some v) (h1 : getL ts k = some (.ptr a)) : retV h ts [(k, some (some ag))] = some v := by
  simp [retV, resOf, iop, ev, h1, LA]

theorem owne_run {h : H} {v : AV} {xs : List (AV × List UInt8)} (hc : Ch h v xs) (hx : ∀ p ∈ xs, p.2.length ≤ maxRow) (hlen : xs.length * 24 ≤ 140737488355328) (t : Nat) : ∃ r h', Runs TF 40 [entV t v] h r h' ∧ ∃ v' ys, r = entV t v' ∧ Ext h h' ∧ OwnCh h.n h' v' ys ∧ says ys = says xs := by
  refine Runs.ofP f40 rfl ?_
  obtain ⟨H1, X1, n1, enew, Ld⟩ := ent_new hc t
  obtain ⟨H2, hH2⟩ : ∃ H2, H2 = H1.new (.cells 0 70 [.int .u64 0, .nils] 0 false) := ⟨_, rfl⟩
  have X2 : Ext H1 H2 := by rw [hH2]; exact Ext.new _ _
  have g2 : H2.get H1.n = some (.cells 0 70 [.int .u64 0, .nils] 0 false) := by rw [hH2]; exact H1.get_new _
  have n2 : H1.n < H2.n := by rw [hH2]; simp
  have en2 : ∀ ts, iop (.new 70 (.c (.agg [.int .u64 0, .nils]))) (ev ts) H1 = some (.val (.ptr ⟨H1.n, 0, 0⟩) H2) := fun ts => by rw [hH2]; exact iop_new (by kernel_rfl) rfl
  have X12 := X1.trans X2
  have m1 := X1.1
  refine Wp.seq ?_
  refine Wp.region ?_
  refine Wo.val _ _ (by kernel_rfl) (enew (by kernel_rfl)) ?_
  refine Wo.val _ _ (by kernel_rfl) (en2 _) ?_
  refine Wo.nil ?_
  refine Wp.seq ?_
  refine Wp.region ?_
  refine Wo.pre 8 (by kernel_rfl) ?_
  refine Wo.nil ?_
  refine Wp.seq ?_
  refine Wp.seq ?_
  refine Wp.region ?_
  refine Wo.pre 8 (by kernel_rfl) ?_
  refine Wo.nil ?_
  refine Wp.block ?_
  refine owne_loop (blk := h.n) (rb := H1.n) (hc.ext X12) hx hlen (fun q hq => (Ld q (X2.trans hq)).2.1) xs.length 0 (by omega) H2 .nils [] _ (Ext.refl _) ⟨.inl ⟨rfl, rfl, rfl⟩, fun p hp => by simp at hp⟩ (by simp [says]) rfl (by kernel_rfl) (by kernel_rfl) (by kernel_rfl) (by kernel_rfl) (by kernel_rfl) _ ?_
  intro ts' H3 lV ys hE hO hsy d0 d1 d2 d3
  rw [laid_eq d0 [(1, .ptr ⟨h.n, 0, 0⟩), (2, .ptr ⟨H1.n, 0, 0⟩), (3, lV)] (by simp [d1, d2, d3])]
  have l3 := Ld H3 (X2.trans hE)
  have hlp := hO.ch.parts
  have g3 : H3.get H1.n = some (.cells 0 70 [.int .u64 0, .nils] 0 false) := by rw [hE.2 _ n2]; exact g2
  obtain ⟨H4, hH4⟩ : ∃ H4, H4 = H3.set H1.n (.cells 0 70 [.int .u64 t, lV] 0 false) := ⟨_, rfl⟩
  have st : H3.st ⟨H1.n, 0, 0⟩ [.int .u64 t, lV] = some H4 := by
    have o3 : ∀ k i, (AV.int k i).one = true := fun _ _ => rfl
    unfold H.st
    simp only [g3]
    rw [if_pos (by simp [hlp.2.1, o3]), hH4]
    rfl
  have g4 : H4.get H1.n = some (.cells 0 70 [.int .u64 t, lV] 0 false) := by rw [hH4, H3.get_set]
  have kp : ∀ b, b ≠ H1.n → H4.get b = H3.get b := fun b hb => by rw [hH4, H3.get_set_ne _ b _ hb]
  have n4 : H4.n = H3.n := by rw [hH4]; rfl
  have eb : ∀ {x y : IX} {ρ : IX → AV}, ρ x = .int .u64 t → ρ y = lV → iop (.build [.int .u64 0, .nils] [(0, 1, x), (1, 1, y)]) ρ H3 = some (.val (.agg [.int .u64 t, lV]) H3) := by
    intro x y ρ hx hy
    have o : (AV.int .u64 (t : Int)).cells = [.int .u64 t] := rfl
    simp [iop, fillL, hx, hy, hlp.1, o, putAt]
  refine Wp.seq ?_
  refine Wp.region ?_
  refine Wo.pre 1 (by kernel_rfl) ?_
  refine Wo.val (.int .u64 t) H3 (by kernel_rfl) (iop_ld (a := ⟨h.n, 0, 0⟩) (by kernel_rfl) l3.1) ?_
  refine Wo.pre 1 (by kernel_rfl) ?_
  refine Wo.val (.agg [.int .u64 t, lV]) H3 (by kernel_rfl) (eb (by kernel_rfl) (by kernel_rfl)) ?_
  refine Wo.val .undef H4 (by kernel_rfl) (iop_stA (a := ⟨H1.n, 0, 0⟩) (cs := [.int .u64 t, lV]) (by kernel_rfl) (by kernel_rfl) rfl st) ?_
  refine Wo.nil ?_
  have LA : H4.ldg ⟨H1.n, 0, 0⟩ (some 2) = some (entV t lV) := by simp [H.ldg, H.ldn, H.row, g4, cut, entV]
  have e3 := hE.1
  refine Wp.ret ⟨.inr rfl, entV t lV, retS LA (by kernel_rfl), lV, ys, rfl, ⟨by show h.n ≤ H4.n; omega, fun b hb => ?_⟩, ⟨?_, fun p hp => ?_⟩, hsy⟩
  · show H4.get b = h.get b
    rw [kp b (by omega), hE.2 b (by omega)]; exact X12.2 b hb
  · rcases hO.row with h0 | ⟨b, g, q1, q2, q3, q4⟩
    · exact .inl h0
    · exact .inr ⟨b, g, by omega, by show b < H4.n; omega, by rw [kp b (by omega)]; exact q3, q4⟩
  · rcases hO.el p hp with h0 | ⟨b, g, q1, q2, q3, q4⟩
    · exact .inl h0
    · exact .inr ⟨b, g, by omega, by show b < H4.n; omega, by rw [kp b (by omega)]; exact q3, q4⟩
end Go.Det
