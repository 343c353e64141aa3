/- Entries: the reference's May; numbers and vectors. -/
import Derived.Test.YthahfhdibhgboaaMay
set_option linter.unusedVariables false
set_option linter.unusedSimpArgs false
set_option linter.unusedSectionVars false
namespace Go.Det
open Go.Proofs
attribute [local irreducible] Wp Wo Wd iop ev slots quiets wanted put

theorem binEq_false {k : IntKind} {a b : Int} (h : a ≠ b) : binInt .eql k a b = some (.bool false) := by simp [binInt, h]
theorem binEq_true {k : IntKind} {a b : Int} (h : a = b) : binInt .eql k a b = some (.bool true) := by simp [binInt, h]

set_option maxHeartbeats 1000000 in
theorem rmay_loop {h : H} {v : AV} {xs : List (AV × List UInt8)} {blk : Nat} (hc : Ch h v xs) (hlen : xs.length < 2 ^ 62) (hL : h.ldg ⟨blk, 0, 1⟩ none = some v) :
    ∀ (k i : Nat), i + k = xs.length → ∀ (ts : List AV) (b : Bool), ts.length = 39 → getL ts 1 = some (.ptr ⟨blk, 0, 0⟩) → getL ts 3 = some (.bool b) → getL ts 4 = some (.int .i64 i) →
      ∀ (Q : Ex → St → Prop), (∀ ts', ts'.length = 39 → getL ts' 3 = some (.bool (b && (xs.drop i).all (fun p => mayC p.2))) → Q (.exit 0) (ts', h)) → Wp TF (.loop l50_1) (ts, h) Q := by
  intro k
  induction k with
  | zero =>
    intro i hi ts b t0 t1 t3 t4 Q hQ
    obtain rfl : i = xs.length := by omega
    refine Wp.loop ?_
    rw [laid_eq t0 [(1, .ptr ⟨blk, 0, 0⟩), (3, .bool b), (4, .int .i64 xs.length)] (by simp [t1, t3, t4])]
    unfold l50_1
    refine Wp.seq ?_
    refine Wp.seq ?_
    refine Wp.region ?_
    refine Wo.pre 1 (by kernel_rfl) ?_
    refine Wo.pre 1 (by kernel_rfl) ?_
    refine Wo.val v h (by kernel_rfl) (iop_ld (a := ⟨blk, 0, 1⟩) (by kernel_rfl) hL) ?_
    refine Wo.val (.int .i64 xs.length) h (by kernel_rfl) (iop_lenS (v := v) (by kernel_rfl) hc.lenS) ?_
    refine Wo.val (.bool false) h (by kernel_rfl) (iop_cmp (op := .lss) (k := .i64) (a := xs.length) (b := xs.length) false (by kernel_rfl) (by kernel_rfl) (by simp) (by simp [binInt])) ?_
    refine Wo.nil ?_
    refine Wp.cond false (by kernel_rfl) ?_
    exact Wp.exit (hQ _ (by kernel_rfl) (by rw [List.drop_length, List.all_nil, Bool.and_true]; kernel_rfl))
  | succ k ih =>
    intro i hi ts b t0 t1 t3 t4 Q hQ
    have hlt : i < xs.length := by omega
    obtain ⟨p, hp⟩ : ∃ p, xs[i]? = some p := ⟨xs[i], List.getElem?_eq_getElem hlt⟩
    have hdrop : xs.drop i = p :: xs.drop (i + 1) := by
      rw [List.drop_eq_getElem_cons hlt]
      congr 1
      exact (List.getElem?_eq_some_iff.1 hp).2
    rw [hdrop, List.all_cons] at hQ
    have hls := hc.lenS
    obtain ⟨a, q, rfl, hld⟩ := hc.at hp
    have hB := (hc.el p (List.mem_of_getElem? hp)).1
    have wi : IntKind.i64.wrap ((i : Int) + 1) = ((i + 1 : Nat) : Int) := by rw [i64_fit _ (by omega)]; omega
    refine Wp.loop ?_
    rw [laid_eq t0 [(1, .ptr ⟨blk, 0, 0⟩), (3, .bool b), (4, .int .i64 i)] (by simp [t1, t3, t4])]
    unfold l50_1
    by_cases h1 : p.2.length = 0
    · have hm : mayC p.2 = false := by simp [mayC]; omega
      rw [hm, Bool.false_and, Bool.and_false] at hQ
      refine Wp.seq ?_
      refine Wp.seq ?_
      refine Wp.region ?_
      refine Wo.pre 1 (by kernel_rfl) ?_
      refine Wo.pre 1 (by kernel_rfl) ?_
      refine Wo.val (.sl a xs.length q) h (by kernel_rfl) (iop_ld (a := ⟨blk, 0, 1⟩) (by kernel_rfl) hL) ?_
      refine Wo.val (.int .i64 xs.length) h (by kernel_rfl) (iop_lenS (v := .sl a xs.length q) (by kernel_rfl) hls) ?_
      refine Wo.val (.bool true) h (by kernel_rfl) (iop_cmp (op := .lss) (k := .i64) (a := i) (b := xs.length) true (by kernel_rfl) (by kernel_rfl) (by simp) (by simp [binInt]; omega)) ?_
      refine Wo.nil ?_
      refine Wp.cond true (by kernel_rfl) ?_
      refine Wp.skip ?_
      refine Wp.seq ?_
      refine Wp.block ?_
      refine Wp.seq ?_
      refine Wp.region ?_
      refine Wo.pre 1 (by kernel_rfl) ?_
      refine Wo.val (.sl a xs.length q) h (by kernel_rfl) (iop_ld (a := ⟨blk, 0, 1⟩) (by kernel_rfl) hL) ?_
      refine Wo.pre 1 (by kernel_rfl) ?_
      refine Wo.val _ h (by kernel_rfl) (iop_ia (a := a) (n := xs.length) (c := q) (i := i) (by kernel_rfl) (by kernel_rfl) hlt) ?_
      refine Wo.val p.1 h (by kernel_rfl) (iop_ld (a := ⟨a.b, a.g, a.o + i * 1⟩) (by kernel_rfl) hld) ?_
      refine Wo.val (.int .i64 p.2.length) h (by kernel_rfl) ((hB.len (by kernel_rfl))) ?_
      refine Wo.val (.bool true) h (by kernel_rfl) (iop_cmp (op := .eql) (k := .i64) (a := p.2.length) (b := 0) true (by kernel_rfl) (by kernel_rfl) (by simp) (binEq_true (by omega))) ?_
      refine Wo.pre 1 (by kernel_rfl) ?_
      refine Wo.pre 1 (by kernel_rfl) ?_
      refine Wo.pre 1 (by kernel_rfl) ?_
      refine Wo.pre 1 (by kernel_rfl) ?_
      refine Wo.pre 1 (by kernel_rfl) ?_
      refine Wo.pre 1 (by kernel_rfl) ?_
      refine Wo.pre 1 (by kernel_rfl) ?_
      refine Wo.pre 1 (by kernel_rfl) ?_
      refine Wo.pre 1 (by kernel_rfl) ?_
      refine Wo.nil ?_
      refine Wp.cond true (by kernel_rfl) ?_
      refine Wp.region ?_
      refine Wo.pre 1 (by kernel_rfl) ?_
      refine Wo.nil ?_
      refine Wp.region ?_
      refine Wo.pre 1 (by kernel_rfl) ?_
      refine Wo.pre 1 (by kernel_rfl) ?_
      refine Wo.pre 1 (by kernel_rfl) ?_
      refine Wo.nil ?_
      exact ih (i + 1) (by omega) _ false (by kernel_rfl) (by kernel_rfl) (by kernel_rfl) (by rw [← wi]; kernel_rfl) Q (by simpa using hQ)
    · by_cases h2 : p.2.length > 512
      · have hm : mayC p.2 = false := by simp [mayC]; omega
        rw [hm, Bool.false_and, Bool.and_false] at hQ
        refine Wp.seq ?_
        refine Wp.seq ?_
        refine Wp.region ?_
        refine Wo.pre 1 (by kernel_rfl) ?_
        refine Wo.pre 1 (by kernel_rfl) ?_
        refine Wo.val (.sl a xs.length q) h (by kernel_rfl) (iop_ld (a := ⟨blk, 0, 1⟩) (by kernel_rfl) hL) ?_
        refine Wo.val (.int .i64 xs.length) h (by kernel_rfl) (iop_lenS (v := .sl a xs.length q) (by kernel_rfl) hls) ?_
        refine Wo.val (.bool true) h (by kernel_rfl) (iop_cmp (op := .lss) (k := .i64) (a := i) (b := xs.length) true (by kernel_rfl) (by kernel_rfl) (by simp) (by simp [binInt]; omega)) ?_
        refine Wo.nil ?_
        refine Wp.cond true (by kernel_rfl) ?_
        refine Wp.skip ?_
        refine Wp.seq ?_
        refine Wp.block ?_
        refine Wp.seq ?_
        refine Wp.region ?_
        refine Wo.pre 1 (by kernel_rfl) ?_
        refine Wo.val (.sl a xs.length q) h (by kernel_rfl) (iop_ld (a := ⟨blk, 0, 1⟩) (by kernel_rfl) hL) ?_
        refine Wo.pre 1 (by kernel_rfl) ?_
        refine Wo.val _ h (by kernel_rfl) (iop_ia (a := a) (n := xs.length) (c := q) (i := i) (by kernel_rfl) (by kernel_rfl) hlt) ?_
        refine Wo.val p.1 h (by kernel_rfl) (iop_ld (a := ⟨a.b, a.g, a.o + i * 1⟩) (by kernel_rfl) hld) ?_
        refine Wo.val (.int .i64 p.2.length) h (by kernel_rfl) ((hB.len (by kernel_rfl))) ?_
        refine Wo.val (.bool false) h (by kernel_rfl) (iop_cmp (op := .eql) (k := .i64) (a := p.2.length) (b := 0) false (by kernel_rfl) (by kernel_rfl) (by simp) (binEq_false (by omega))) ?_
        refine Wo.pre 1 (by kernel_rfl) ?_
        refine Wo.pre 1 (by kernel_rfl) ?_
        refine Wo.val (.sl a xs.length q) h (by kernel_rfl) (iop_ld (a := ⟨blk, 0, 1⟩) (by kernel_rfl) hL) ?_
        refine Wo.pre 1 (by kernel_rfl) ?_
        refine Wo.val _ h (by kernel_rfl) (iop_ia (a := a) (n := xs.length) (c := q) (i := i) (by kernel_rfl) (by kernel_rfl) hlt) ?_
        refine Wo.val p.1 h (by kernel_rfl) (iop_ld (a := ⟨a.b, a.g, a.o + i * 1⟩) (by kernel_rfl) hld) ?_
        refine Wo.val (.int .i64 p.2.length) h (by kernel_rfl) ((hB.len (by kernel_rfl))) ?_
        refine Wo.val (.bool true) h (by kernel_rfl) (iop_cmp (op := .gtr) (k := .i64) (a := p.2.length) (b := 512) true (by kernel_rfl) (by kernel_rfl) (by simp) (by simp [binInt]; omega)) ?_
        refine Wo.pre 1 (by kernel_rfl) ?_
        refine Wo.nil ?_
        refine Wp.cond true (by kernel_rfl) ?_
        refine Wp.region ?_
        refine Wo.pre 1 (by kernel_rfl) ?_
        refine Wo.nil ?_
        refine Wp.region ?_
        refine Wo.pre 1 (by kernel_rfl) ?_
        refine Wo.pre 1 (by kernel_rfl) ?_
        refine Wo.pre 1 (by kernel_rfl) ?_
        refine Wo.nil ?_
        exact ih (i + 1) (by omega) _ false (by kernel_rfl) (by kernel_rfl) (by kernel_rfl) (by rw [← wi]; kernel_rfl) Q (by simpa using hQ)
      · have hm : mayC p.2 = true := by simp [mayC]; omega
        rw [hm, Bool.true_and] at hQ
        refine Wp.seq ?_
        refine Wp.seq ?_
        refine Wp.region ?_
        refine Wo.pre 1 (by kernel_rfl) ?_
        refine Wo.pre 1 (by kernel_rfl) ?_
        refine Wo.val (.sl a xs.length q) h (by kernel_rfl) (iop_ld (a := ⟨blk, 0, 1⟩) (by kernel_rfl) hL) ?_
        refine Wo.val (.int .i64 xs.length) h (by kernel_rfl) (iop_lenS (v := .sl a xs.length q) (by kernel_rfl) hls) ?_
        refine Wo.val (.bool true) h (by kernel_rfl) (iop_cmp (op := .lss) (k := .i64) (a := i) (b := xs.length) true (by kernel_rfl) (by kernel_rfl) (by simp) (by simp [binInt]; omega)) ?_
        refine Wo.nil ?_
        refine Wp.cond true (by kernel_rfl) ?_
        refine Wp.skip ?_
        refine Wp.seq ?_
        refine Wp.block ?_
        refine Wp.seq ?_
        refine Wp.region ?_
        refine Wo.pre 1 (by kernel_rfl) ?_
        refine Wo.val (.sl a xs.length q) h (by kernel_rfl) (iop_ld (a := ⟨blk, 0, 1⟩) (by kernel_rfl) hL) ?_
        refine Wo.pre 1 (by kernel_rfl) ?_
        refine Wo.val _ h (by kernel_rfl) (iop_ia (a := a) (n := xs.length) (c := q) (i := i) (by kernel_rfl) (by kernel_rfl) hlt) ?_
        refine Wo.val p.1 h (by kernel_rfl) (iop_ld (a := ⟨a.b, a.g, a.o + i * 1⟩) (by kernel_rfl) hld) ?_
        refine Wo.val (.int .i64 p.2.length) h (by kernel_rfl) ((hB.len (by kernel_rfl))) ?_
        refine Wo.val (.bool false) h (by kernel_rfl) (iop_cmp (op := .eql) (k := .i64) (a := p.2.length) (b := 0) false (by kernel_rfl) (by kernel_rfl) (by simp) (binEq_false (by omega))) ?_
        refine Wo.pre 1 (by kernel_rfl) ?_
        refine Wo.pre 1 (by kernel_rfl) ?_
        refine Wo.val (.sl a xs.length q) h (by kernel_rfl) (iop_ld (a := ⟨blk, 0, 1⟩) (by kernel_rfl) hL) ?_
        refine Wo.pre 1 (by kernel_rfl) ?_
        refine Wo.val _ h (by kernel_rfl) (iop_ia (a := a) (n := xs.length) (c := q) (i := i) (by kernel_rfl) (by kernel_rfl) hlt) ?_
        refine Wo.val p.1 h (by kernel_rfl) (iop_ld (a := ⟨a.b, a.g, a.o + i * 1⟩) (by kernel_rfl) hld) ?_
        refine Wo.val (.int .i64 p.2.length) h (by kernel_rfl) ((hB.len (by kernel_rfl))) ?_
        refine Wo.val (.bool false) h (by kernel_rfl) (iop_cmp (op := .gtr) (k := .i64) (a := p.2.length) (b := 512) false (by kernel_rfl) (by kernel_rfl) (by simp) (by simp [binInt]; omega)) ?_
        refine Wo.pre 1 (by kernel_rfl) ?_
        refine Wo.nil ?_
        refine Wp.cond false (by kernel_rfl) ?_
        refine Wp.skip ?_
        refine Wp.region ?_
        refine Wo.pre 1 (by kernel_rfl) ?_
        refine Wo.pre 1 (by kernel_rfl) ?_
        refine Wo.pre 1 (by kernel_rfl) ?_
        refine Wo.nil ?_
        exact ih (i + 1) (by omega) _ b (by kernel_rfl) (by kernel_rfl) (by kernel_rfl) (by rw [← wi]; kernel_rfl) Q hQ

set_option maxHeartbeats 1000000 in
theorem rmay_run {h : H} {v : AV} {xs : List (AV × List UInt8)} (hc : Ch h v xs) (hlen : xs.length < 2 ^ 62) (t : Nat) : ∃ r h', Runs TF 50 [entV t v] h r h' ∧ r = .bool (mayE xs) ∧ Ext h h' := by
  refine Runs.ofP f50 rfl ?_
  have hall : ([.int .u64 t, v] : List AV).all AV.one = true := by
    have o1 := hc.parts.2.1
    have o3 : ∀ k i, (AV.int k i).one = true := fun _ _ => rfl
    simp [o1, o3]
  obtain ⟨H1, hH1⟩ : ∃ H1, H1 = h.new (.cells 0 70 [.int .u64 t, v] 0 false) := ⟨_, rfl⟩
  have X1 : Ext h H1 := by rw [hH1]; exact Ext.new _ _
  have enew : ∀ {x : IX} {ρ : IX → AV}, ρ x = .agg [.int .u64 t, v] → iop (.new 70 x) ρ h = some (.val (.ptr ⟨h.n, 0, 0⟩) H1) := fun hx => by rw [hH1]; exact iop_new hx hall
  have g1 : H1.get h.n = some (.cells 0 70 [.int .u64 t, v] 0 false) := by rw [hH1]; exact h.get_new _
  have L1 : H1.ldg ⟨h.n, 0, 1⟩ none = some v := by simp [H.ldg, H.ld, H.row, g1, getL]
  have hc1 := hc.ext X1
  unfold entV
  have fin : ∀ b : Bool, b = decide (1 ≤ xs.length ∧ xs.length ≤ 4) → ∀ ts' : List AV, ts'.length = 39 → getL ts' 3 = some (AV.bool (b && (xs.drop 0).all (fun p => mayC p.2))) → getL ts' 3 = some (AV.bool (mayE xs)) := by
    intro b hb ts' _ d3
    rw [d3, hb]
    rfl
  by_cases h1 : xs.length > 0
  · by_cases h2 : xs.length < 5
    · refine Wp.seq ?_
      refine Wp.region ?_
      refine Wo.val _ _ (by kernel_rfl) (enew (by kernel_rfl)) ?_
      refine Wo.pre 1 (by kernel_rfl) ?_
      refine Wo.nil ?_
      refine Wp.seq ?_
      refine Wp.region ?_
      refine Wo.pre 1 (by kernel_rfl) ?_
      refine Wo.val v H1 (by kernel_rfl) (iop_ld (a := ⟨h.n, 0, 1⟩) (by kernel_rfl) L1) ?_
      refine Wo.val (.int .i64 xs.length) H1 (by kernel_rfl) (iop_lenS (v := v) (by kernel_rfl) hc.lenS) ?_
      refine Wo.val (.bool true) H1 (by kernel_rfl) (iop_cmp (op := .gtr) (k := .i64) (a := xs.length) (b := 0) true (by kernel_rfl) (by kernel_rfl) (by simp) (by simp [binInt]; omega)) ?_
      refine Wo.pre 1 (by kernel_rfl) ?_
      refine Wo.pre 1 (by kernel_rfl) ?_
      refine Wo.val v H1 (by kernel_rfl) (iop_ld (a := ⟨h.n, 0, 1⟩) (by kernel_rfl) L1) ?_
      refine Wo.val (.int .i64 xs.length) H1 (by kernel_rfl) (iop_lenS (v := v) (by kernel_rfl) hc.lenS) ?_
      refine Wo.val (.bool true) H1 (by kernel_rfl) (iop_cmp (op := .lss) (k := .i64) (a := xs.length) (b := 5) true (by kernel_rfl) (by kernel_rfl) (by simp) (by simp [binInt]; omega)) ?_
      refine Wo.pre 1 (by kernel_rfl) ?_
      refine Wo.pre 1 (by kernel_rfl) ?_
      refine Wo.nil ?_
      refine Wp.seq ?_
      refine Wp.seq ?_
      refine Wp.region ?_
      refine Wo.pre 1 (by kernel_rfl) ?_
      refine Wo.nil ?_
      refine Wp.block ?_
      refine rmay_loop hc1 hlen L1 xs.length 0 (by omega) _ true (by kernel_rfl) (by kernel_rfl) (by kernel_rfl) (by kernel_rfl) _ ?_
      intro ts' d0 d3
      have d3 := fin true (by simp; omega) ts' d0 d3
      rw [laid_eq d0 [(3, .bool (mayE xs))] (by simp [d3])]
      refine Wp.seq ?_
      refine Wp.region ?_
      refine Wo.pre 8 (by kernel_rfl) ?_
      refine Wo.nil ?_
      exact Wp.ret ⟨.inr rfl, .bool (mayE xs), (by kernel_rfl), rfl, X1⟩
    · refine Wp.seq ?_
      refine Wp.region ?_
      refine Wo.val _ _ (by kernel_rfl) (enew (by kernel_rfl)) ?_
      refine Wo.pre 1 (by kernel_rfl) ?_
      refine Wo.nil ?_
      refine Wp.seq ?_
      refine Wp.region ?_
      refine Wo.pre 1 (by kernel_rfl) ?_
      refine Wo.val v H1 (by kernel_rfl) (iop_ld (a := ⟨h.n, 0, 1⟩) (by kernel_rfl) L1) ?_
      refine Wo.val (.int .i64 xs.length) H1 (by kernel_rfl) (iop_lenS (v := v) (by kernel_rfl) hc.lenS) ?_
      refine Wo.val (.bool true) H1 (by kernel_rfl) (iop_cmp (op := .gtr) (k := .i64) (a := xs.length) (b := 0) true (by kernel_rfl) (by kernel_rfl) (by simp) (by simp [binInt]; omega)) ?_
      refine Wo.pre 1 (by kernel_rfl) ?_
      refine Wo.pre 1 (by kernel_rfl) ?_
      refine Wo.val v H1 (by kernel_rfl) (iop_ld (a := ⟨h.n, 0, 1⟩) (by kernel_rfl) L1) ?_
      refine Wo.val (.int .i64 xs.length) H1 (by kernel_rfl) (iop_lenS (v := v) (by kernel_rfl) hc.lenS) ?_
      refine Wo.val (.bool false) H1 (by kernel_rfl) (iop_cmp (op := .lss) (k := .i64) (a := xs.length) (b := 5) false (by kernel_rfl) (by kernel_rfl) (by simp) (by simp [binInt]; omega)) ?_
      refine Wo.pre 1 (by kernel_rfl) ?_
      refine Wo.pre 1 (by kernel_rfl) ?_
      refine Wo.nil ?_
      refine Wp.seq ?_
      refine Wp.seq ?_
      refine Wp.region ?_
      refine Wo.pre 1 (by kernel_rfl) ?_
      refine Wo.nil ?_
      refine Wp.block ?_
      refine rmay_loop hc1 hlen L1 xs.length 0 (by omega) _ false (by kernel_rfl) (by kernel_rfl) (by kernel_rfl) (by kernel_rfl) _ ?_
      intro ts' d0 d3
      have d3 := fin false (by simp; omega) ts' d0 d3
      rw [laid_eq d0 [(3, .bool (mayE xs))] (by simp [d3])]
      refine Wp.seq ?_
      refine Wp.region ?_
      refine Wo.pre 8 (by kernel_rfl) ?_
      refine Wo.nil ?_
      exact Wp.ret ⟨.inr rfl, .bool (mayE xs), (by kernel_rfl), rfl, X1⟩
  · refine Wp.seq ?_
    refine Wp.region ?_
    refine Wo.val _ _ (by kernel_rfl) (enew (by kernel_rfl)) ?_
    refine Wo.pre 1 (by kernel_rfl) ?_
    refine Wo.nil ?_
    refine Wp.seq ?_
    refine Wp.region ?_
    refine Wo.pre 1 (by kernel_rfl) ?_
    refine Wo.val v H1 (by kernel_rfl) (iop_ld (a := ⟨h.n, 0, 1⟩) (by kernel_rfl) L1) ?_
    refine Wo.val (.int .i64 xs.length) H1 (by kernel_rfl) (iop_lenS (v := v) (by kernel_rfl) hc.lenS) ?_
    refine Wo.val (.bool false) H1 (by kernel_rfl) (iop_cmp (op := .gtr) (k := .i64) (a := xs.length) (b := 0) false (by kernel_rfl) (by kernel_rfl) (by simp) (by simp only [binInt]; rw [decide_eq_false (by omega)])) ?_
    refine Wo.pre 1 (by kernel_rfl) ?_
    refine Wo.pre 1 (by kernel_rfl) ?_
    refine Wo.pre 1 (by kernel_rfl) ?_
    refine Wo.pre 1 (by kernel_rfl) ?_
    refine Wo.pre 1 (by kernel_rfl) ?_
    refine Wo.pre 1 (by kernel_rfl) ?_
    refine Wo.pre 1 (by kernel_rfl) ?_
    refine Wo.nil ?_
    refine Wp.seq ?_
    refine Wp.seq ?_
    refine Wp.region ?_
    refine Wo.pre 1 (by kernel_rfl) ?_
    refine Wo.nil ?_
    refine Wp.block ?_
    refine rmay_loop hc1 hlen L1 xs.length 0 (by omega) _ false (by kernel_rfl) (by kernel_rfl) (by kernel_rfl) (by kernel_rfl) _ ?_
    intro ts' d0 d3
    have d3 := fin false (by simp; omega) ts' d0 d3
    rw [laid_eq d0 [(3, .bool (mayE xs))] (by simp [d3])]
    refine Wp.seq ?_
    refine Wp.region ?_
    refine Wo.pre 8 (by kernel_rfl) ?_
    refine Wo.nil ?_
    exact Wp.ret ⟨.inr rfl, .bool (mayE xs), (by kernel_rfl), rfl, X1⟩

theorem number_run {b : AV} {l : List UInt8} {h : H} (hb : Bs h b l) (hl : l.length + 8 ≤ maxRow) {n : Nat} (hn : n < 2 ^ 64) (size : Int) :
    ∃ x h', Runs TF 76 [b, .int .u64 n, .int .i64 size] h x h' ∧ Ext h h' ∧ Ow h.n h' x (if numE n size = 0 then l ++ digits n size.toNat size.toNat else []) := by
  obtain ⟨v, h', c1, x, rfl, c2, c3⟩ := num_run hb hl hn size
  refine Runs.ofP f76 rfl ?_
  refine Wp.seq ?_
  refine Wp.region ?_
  refine Wo.pre 8 (by kernel_rfl) ?_
  refine Wo.nil ?_
  refine Wp.seq ?_
  refine Wp.region ?_
  refine Wo.pre 3 (by kernel_rfl) ?_
  refine Wo.call (by kernel_rfl) (by kernel_rfl) (c1) ?_
  refine Wo.pre 8 (by kernel_rfl) ?_
  refine Wo.nil ?_
  refine Wp.seq ?_
  refine Wp.region ?_
  refine Wo.pre 8 (by kernel_rfl) ?_
  refine Wo.nil ?_
  exact Wp.ret ⟨.inr rfl, x, (by kernel_rfl), c2, c3⟩
theorem rnumq_run {h : H} {n : Nat} (hn : n < 2 ^ 64) (size : Int) :
    ∃ x h', Runs TF 77 [.int .u64 n, .int .i64 size] h x h' ∧ Ext h h' ∧ Ow h.n h' x (if numE n size = 0 then digits n size.toNat size.toNat else []) := by
  obtain ⟨v, h', c1, x, rfl, c2, c3⟩ := rnum_run (h := h) (b := .nils) (l := []) (.inl ⟨rfl, rfl⟩) (by decide) hn size
  rw [List.nil_append] at c3
  refine Runs.ofP f77 rfl ?_
  refine Wp.seq ?_
  refine Wp.region ?_
  refine Wo.pre 8 (by kernel_rfl) ?_
  refine Wo.nil ?_
  refine Wp.seq ?_
  refine Wp.region ?_
  refine Wo.pre 1 (by kernel_rfl) ?_
  refine Wo.pre 1 (by kernel_rfl) ?_
  refine Wo.call (by kernel_rfl) (by kernel_rfl) (c1) ?_
  refine Wo.pre 8 (by kernel_rfl) ?_
  refine Wo.nil ?_
  refine Wp.seq ?_
  refine Wp.region ?_
  refine Wo.pre 8 (by kernel_rfl) ?_
  refine Wo.nil ?_
  exact Wp.ret ⟨.inr rfl, x, (by kernel_rfl), c2, c3⟩
theorem rvecq_run {h : H} {y : AV} {ly : List UInt8} (hy : Bs h y ly) (size : Int) (hl2 : ly.length ≤ maxRow) :
    ∃ z h', Runs TF 79 [y, .int .i64 size] h z h' ∧ Ext h h' ∧ Ow h.n h' z (if vecE ly.length size = 0 then digits ly.length size.toNat size.toNat ++ ly else []) := by
  obtain ⟨v, h', c1, z, rfl, c2, c3⟩ := rvec_run (h := h) (x := .nils) (lx := []) (.inl ⟨rfl, rfl⟩) hy size (by decide) hl2
  rw [List.nil_append] at c3
  refine Runs.ofP f79 rfl ?_
  refine Wp.seq ?_
  refine Wp.region ?_
  refine Wo.pre 8 (by kernel_rfl) ?_
  refine Wo.nil ?_
  refine Wp.seq ?_
  refine Wp.region ?_
  refine Wo.pre 1 (by kernel_rfl) ?_
  refine Wo.pre 1 (by kernel_rfl) ?_
  refine Wo.call (by kernel_rfl) (by kernel_rfl) (c1) ?_
  refine Wo.pre 8 (by kernel_rfl) ?_
  refine Wo.nil ?_
  refine Wp.seq ?_
  refine Wp.region ?_
  refine Wo.pre 8 (by kernel_rfl) ?_
  refine Wo.nil ?_
  exact Wp.ret ⟨.inr rfl, z, (by kernel_rfl), c2, c3⟩
end Go.Det
