/- Entries: whether they may be. -/
import Derived.Test.YthahfhdibhgboaaIRE
import Derived.Test.YthahfhdibhgboaaReads
import Derived.Test.YthahfhdibhgboaaThing
set_option linter.unusedVariables false
set_option linter.unusedSimpArgs false
set_option linter.unusedSectionVars false
namespace Go.Det
open Go.Proofs
attribute [local irreducible] Wp Wo Wd iop ev slots quiets wanted put

theorem iop_cmp {op : BinOp} {x y : IX} {ρ : IX → AV} {h : H} {k : IntKind} {a b : Int} (c : Bool) (hx : ρ x = .int k a) (hy : ρ y = .int k b) (hop : op = .lss ∨ op = .leq ∨ op = .gtr ∨ op = .geq ∨ op = .eql ∨ op = .neq) (e : binInt op k a b = some (.bool c)) : iop (.bin op x y) ρ h = some (.val (.bool c) h) := by
  rcases hop with rfl | rfl | rfl | rfl | rfl | rfl <;> simp [iop, binop, hx, hy, e]

/-- A chain: rows of bytes. -/
structure Ch (h : H) (v : AV) (xs : List (AV × List UInt8)) : Prop where
  row : (v = .nils ∧ xs = []) ∨ ∃ a c, v = .sl a xs.length c ∧ a.b < h.n ∧ h.ldn a xs.length = some (xs.map (·.1))
  el : ∀ p ∈ xs, Bs h p.1 p.2 ∧ Cok p.1
  cok : Cok v

theorem Ch.ext {h h' : H} {v : AV} {xs : List (AV × List UInt8)} (c : Ch h v xs) (hx : Ext h h') : Ch h' v xs := by
  refine ⟨c.row.imp id ?_, fun p hp => ⟨(c.el p hp).1.ext hx, (c.el p hp).2⟩, c.cok⟩
  rintro ⟨a, q, h1, h2, h3⟩
  exact ⟨a, q, h1, Nat.lt_of_lt_of_le h2 hx.1, by rw [ldn_same (hx.2 _ h2)]; exact h3⟩
theorem Ch.lenS {h : H} {v : AV} {xs : List (AV × List UInt8)} (c : Ch h v xs) : (v = .nils ∧ xs.length = 0) ∨ ∃ a q, v = .sl a xs.length q := by
  rcases c.row with ⟨h1, h2⟩ | ⟨a, q, h1, _⟩
  · exact .inl ⟨h1, by rw [h2]; rfl⟩
  · exact .inr ⟨a, q, h1⟩
theorem Ch.parts {h : H} {v : AV} {xs : List (AV × List UInt8)} (c : Ch h v xs) : v.cells = [v] ∧ v.one = true ∧ isStrV v = false := by
  rcases c.row with ⟨rfl, _⟩ | ⟨a, q, rfl, _⟩ <;> exact ⟨rfl, rfl, rfl⟩
theorem Ch.at {h : H} {v : AV} {xs : List (AV × List UInt8)} (c : Ch h v xs) {i : Nat} {p : AV × List UInt8} (hp : xs[i]? = some p) : ∃ a q, v = .sl a xs.length q ∧ h.ldg ⟨a.b, a.g, a.o + i * 1⟩ none = some p.1 := by
  rcases c.row with ⟨_, rfl⟩ | ⟨a, q, h1, h2, h3⟩
  · simp at hp
  · exact ⟨a, q, h1, by rw [Nat.mul_one]; exact ldn_at h3 (by simp [hp])⟩

def mayC (c : List UInt8) : Bool := decide (1 ≤ c.length ∧ c.length ≤ 512)
def mayE (xs : List (AV × List UInt8)) : Bool := decide (1 ≤ xs.length ∧ xs.length ≤ 4) && xs.all fun p => mayC p.2

set_option maxHeartbeats 1000000 in
theorem may_loop {h : H} {v : AV} {xs : List (AV × List UInt8)} (hc : Ch h v xs) (hlen : xs.length < 2 ^ 62) :
    ∀ (k i : Nat), i + k = xs.length → ∀ (ts : List AV), ts.length = 31 → getL ts 16 = some v → getL ts 17 = some (.int .i64 xs.length) → getL ts 18 = some (.int .i64 i) →
      ∀ (Q : Ex → St → Prop), ((xs.drop i).all (fun p => mayC p.2) = false → ∀ ts', ts'.length = 31 → getL ts' 2 = some (.bool false) → Q .ret (ts', h)) →
        ((xs.drop i).all (fun p => mayC p.2) = true → ∀ ts', ts'.length = 31 → Q (.exit 0) (ts', h)) → Wp TF (.loop l49_1) (ts, h) Q := by
  intro k
  induction k with
  | zero =>
    intro i hi ts t0 t16 t17 t18 Q hbad hgood
    obtain rfl : i = xs.length := by omega
    refine Wp.loop ?_
    rw [laid_eq t0 [(16, v), (17, .int .i64 xs.length), (18, .int .i64 xs.length)] (by simp [t16, t17, t18])]
    unfold l49_1
    refine Wp.seq ?_
    refine Wp.region ?_
    refine Wo.val (.bool false) h (by kernel_rfl) (iop_cmp (op := .lss) (k := .i64) (a := xs.length) (b := xs.length) false (by kernel_rfl) (by kernel_rfl) (by simp) (by simp [binInt])) ?_
    refine Wo.nil ?_
    refine Wp.seq ?_
    refine Wp.cond false (by kernel_rfl) ?_
    exact Wp.exit (hgood (by simp) _ (by kernel_rfl))
  | succ k ih =>
    intro i hi ts t0 t16 t17 t18 Q hbad hgood
    have hlt : i < xs.length := by omega
    obtain ⟨p, hp⟩ : ∃ p, xs[i]? = some p := ⟨xs[i], List.getElem?_eq_getElem hlt⟩
    have hdrop : xs.drop i = p :: xs.drop (i + 1) := by
      rw [List.drop_eq_getElem_cons hlt]
      congr 1
      exact (List.getElem?_eq_some_iff.1 hp).2
    obtain ⟨a, q, rfl, hld⟩ := hc.at hp
    have hB := (hc.el p (List.mem_of_getElem? hp)).1
    have wi : IntKind.i64.wrap ((i : Int) + 1) = ((i + 1 : Nat) : Int) := by rw [i64_fit _ (by omega)]; omega
    refine Wp.loop ?_
    rw [laid_eq t0 [(16, .sl a xs.length q), (17, .int .i64 xs.length), (18, .int .i64 i)] (by simp [t16, t17, t18])]
    unfold l49_1
    by_cases h1 : p.2.length < 1
    · have hf : (xs.drop i).all (fun p => mayC p.2) = false := by rw [hdrop, List.all_cons]; simp [mayC]; omega
      refine Wp.seq ?_
      refine Wp.region ?_
      refine Wo.val (.bool true) h (by kernel_rfl) (iop_cmp (op := .lss) (k := .i64) (a := i) (b := xs.length) true (by kernel_rfl) (by kernel_rfl) (by simp) (by simp [binInt]; omega)) ?_
      refine Wo.nil ?_
      refine Wp.seq ?_
      refine Wp.cond true (by kernel_rfl) ?_
      refine Wp.skip ?_
      refine Wp.seq ?_
      refine Wp.block ?_
      refine Wp.seq ?_
      refine Wp.region ?_
      refine Wo.val _ h (by kernel_rfl) (iop_ia (a := a) (n := xs.length) (c := q) (i := i) (by kernel_rfl) (by kernel_rfl) hlt) ?_
      refine Wo.val p.1 h (by kernel_rfl) (iop_ld (a := ⟨a.b, a.g, a.o + i * 1⟩) (by kernel_rfl) hld) ?_
      refine Wo.pre 1 (by kernel_rfl) ?_
      refine Wo.nil ?_
      refine Wp.seq ?_
      refine Wp.region ?_
      refine Wo.pre 1 (by kernel_rfl) ?_
      refine Wo.val (.int .i64 p.2.length) h (by kernel_rfl) ((hB.len (by kernel_rfl))) ?_
      refine Wo.val (.bool true) h (by kernel_rfl) (iop_cmp (op := .lss) (k := .i64) (a := p.2.length) (b := 1) true (by kernel_rfl) (by kernel_rfl) (by simp) (by simp [binInt]; omega)) ?_
      refine Wo.pre 1 (by kernel_rfl) ?_
      refine Wo.pre 1 (by kernel_rfl) ?_
      refine Wo.pre 1 (by kernel_rfl) ?_
      refine Wo.pre 1 (by kernel_rfl) ?_
      refine Wo.pre 1 (by kernel_rfl) ?_
      refine Wo.nil ?_
      refine Wp.cond true (by kernel_rfl) ?_
      refine Wp.seq ?_
      refine Wp.region ?_
      refine Wo.pre 1 (by kernel_rfl) ?_
      refine Wo.nil ?_
      exact Wp.ret (hbad hf _ (by kernel_rfl) (by kernel_rfl))
    · by_cases h2 : p.2.length > 512
      · have hf : (xs.drop i).all (fun p => mayC p.2) = false := by rw [hdrop, List.all_cons]; simp [mayC]; omega
        refine Wp.seq ?_
        refine Wp.region ?_
        refine Wo.val (.bool true) h (by kernel_rfl) (iop_cmp (op := .lss) (k := .i64) (a := i) (b := xs.length) true (by kernel_rfl) (by kernel_rfl) (by simp) (by simp [binInt]; omega)) ?_
        refine Wo.nil ?_
        refine Wp.seq ?_
        refine Wp.cond true (by kernel_rfl) ?_
        refine Wp.skip ?_
        refine Wp.seq ?_
        refine Wp.block ?_
        refine Wp.seq ?_
        refine Wp.region ?_
        refine Wo.val _ h (by kernel_rfl) (iop_ia (a := a) (n := xs.length) (c := q) (i := i) (by kernel_rfl) (by kernel_rfl) hlt) ?_
        refine Wo.val p.1 h (by kernel_rfl) (iop_ld (a := ⟨a.b, a.g, a.o + i * 1⟩) (by kernel_rfl) hld) ?_
        refine Wo.pre 1 (by kernel_rfl) ?_
        refine Wo.nil ?_
        refine Wp.seq ?_
        refine Wp.region ?_
        refine Wo.pre 1 (by kernel_rfl) ?_
        refine Wo.val (.int .i64 p.2.length) h (by kernel_rfl) ((hB.len (by kernel_rfl))) ?_
        refine Wo.val (.bool false) h (by kernel_rfl) (iop_cmp (op := .lss) (k := .i64) (a := p.2.length) (b := 1) false (by kernel_rfl) (by kernel_rfl) (by simp) (by simp [binInt]; omega)) ?_
        refine Wo.pre 1 (by kernel_rfl) ?_
        refine Wo.pre 1 (by kernel_rfl) ?_
        refine Wo.val (.int .i64 p.2.length) h (by kernel_rfl) ((hB.len (by kernel_rfl))) ?_
        refine Wo.val (.bool true) h (by kernel_rfl) (iop_cmp (op := .gtr) (k := .i64) (a := p.2.length) (b := 512) true (by kernel_rfl) (by kernel_rfl) (by simp) (by simp [binInt]; omega)) ?_
        refine Wo.pre 1 (by kernel_rfl) ?_
        refine Wo.nil ?_
        refine Wp.cond true (by kernel_rfl) ?_
        refine Wp.seq ?_
        refine Wp.region ?_
        refine Wo.pre 1 (by kernel_rfl) ?_
        refine Wo.nil ?_
        exact Wp.ret (hbad hf _ (by kernel_rfl) (by kernel_rfl))
      · have hf : (xs.drop i).all (fun p => mayC p.2) = (xs.drop (i + 1)).all (fun p => mayC p.2) := by
          have : mayC p.2 = true := by simp [mayC]; omega
          rw [hdrop, List.all_cons, this, Bool.true_and]
        rw [hf] at hbad hgood
        refine Wp.seq ?_
        refine Wp.region ?_
        refine Wo.val (.bool true) h (by kernel_rfl) (iop_cmp (op := .lss) (k := .i64) (a := i) (b := xs.length) true (by kernel_rfl) (by kernel_rfl) (by simp) (by simp [binInt]; omega)) ?_
        refine Wo.nil ?_
        refine Wp.seq ?_
        refine Wp.cond true (by kernel_rfl) ?_
        refine Wp.skip ?_
        refine Wp.seq ?_
        refine Wp.block ?_
        refine Wp.seq ?_
        refine Wp.region ?_
        refine Wo.val _ h (by kernel_rfl) (iop_ia (a := a) (n := xs.length) (c := q) (i := i) (by kernel_rfl) (by kernel_rfl) hlt) ?_
        refine Wo.val p.1 h (by kernel_rfl) (iop_ld (a := ⟨a.b, a.g, a.o + i * 1⟩) (by kernel_rfl) hld) ?_
        refine Wo.pre 1 (by kernel_rfl) ?_
        refine Wo.nil ?_
        refine Wp.seq ?_
        refine Wp.region ?_
        refine Wo.pre 1 (by kernel_rfl) ?_
        refine Wo.val (.int .i64 p.2.length) h (by kernel_rfl) ((hB.len (by kernel_rfl))) ?_
        refine Wo.val (.bool false) h (by kernel_rfl) (iop_cmp (op := .lss) (k := .i64) (a := p.2.length) (b := 1) false (by kernel_rfl) (by kernel_rfl) (by simp) (by simp [binInt]; omega)) ?_
        refine Wo.pre 1 (by kernel_rfl) ?_
        refine Wo.pre 1 (by kernel_rfl) ?_
        refine Wo.val (.int .i64 p.2.length) h (by kernel_rfl) ((hB.len (by kernel_rfl))) ?_
        refine Wo.val (.bool false) h (by kernel_rfl) (iop_cmp (op := .gtr) (k := .i64) (a := p.2.length) (b := 512) false (by kernel_rfl) (by kernel_rfl) (by simp) (by simp [binInt]; omega)) ?_
        refine Wo.pre 1 (by kernel_rfl) ?_
        refine Wo.nil ?_
        refine Wp.cond false (by kernel_rfl) ?_
        refine Wp.skip ?_
        refine Wp.region ?_
        refine Wo.pre 1 (by kernel_rfl) ?_
        refine Wo.pre 1 (by kernel_rfl) ?_
        refine Wo.nil ?_
        exact ih (i + 1) (by omega) _ (by kernel_rfl) (by kernel_rfl) (by kernel_rfl) (by rw [← wi]; kernel_rfl) Q hbad hgood

/-- An entry as a value. -/
def entV (t : Nat) (v : AV) : AV := .agg [.int .u64 t, v]

set_option maxHeartbeats 1000000 in
theorem may_run {h : H} {v : AV} {xs : List (AV × List UInt8)} (hc : Ch h v xs) (hlen : xs.length < 2 ^ 62) (t : Nat) : ∃ r h', Runs TF 49 [entV t v] h r h' ∧ r = .bool (mayE xs) ∧ Ext h h' := by
  refine Runs.ofP f49 rfl ?_
  have hall : ([.int .u64 t, v] : List AV).all AV.one = true := by
    have o1 := hc.parts.2.1
    have o3 : ∀ k i, (AV.int k i).one = true := fun _ _ => rfl
    simp [o1, o3]
  obtain ⟨H1, hH1⟩ : ∃ H1, H1 = h.new (.cells 0 70 [.int .u64 t, v] 0 false) := ⟨_, rfl⟩
  have X1 : Ext h H1 := by rw [hH1]; exact Ext.new _ _
  have enew : ∀ {x : IX} {ρ : IX → AV}, ρ x = .agg [.int .u64 t, v] → iop (.new 70 x) ρ h = some (.val (.ptr ⟨h.n, 0, 0⟩) H1) := fun hx => by rw [hH1]; exact iop_new hx hall
  have g1 : H1.get h.n = some (.cells 0 70 [.int .u64 t, v] 0 false) := by rw [hH1]; exact h.get_new _
  have L1 : H1.ldg ⟨h.n, 0, 1⟩ none = some v := by simp [H.ldg, H.ld, H.row, g1, getL]
  have hc1 := hc.ext X1
  unfold entV
  by_cases h1 : xs.length < 1
  · have e : mayE xs = false := by simp [mayE]; omega
    refine Wp.seq ?_
    refine Wp.region ?_
    refine Wo.val _ _ (by kernel_rfl) (enew (by kernel_rfl)) ?_
    refine Wo.pre 1 (by kernel_rfl) ?_
    refine Wo.nil ?_
    refine Wp.seq ?_
    refine Wp.seq ?_
    refine Wp.region ?_
    refine Wo.pre 1 (by kernel_rfl) ?_
    refine Wo.val v H1 (by kernel_rfl) (iop_ld (a := ⟨h.n, 0, 1⟩) (by kernel_rfl) L1) ?_
    refine Wo.val (.int .i64 xs.length) H1 (by kernel_rfl) (iop_lenS (v := v) (by kernel_rfl) hc.lenS) ?_
    refine Wo.val (.bool true) H1 (by kernel_rfl) (iop_cmp (op := .lss) (k := .i64) (a := xs.length) (b := 1) true (by kernel_rfl) (by kernel_rfl) (by simp) (by simp [binInt]; omega)) ?_
    refine Wo.pre 1 (by kernel_rfl) ?_
    refine Wo.pre 1 (by kernel_rfl) ?_
    refine Wo.pre 1 (by kernel_rfl) ?_
    refine Wo.pre 1 (by kernel_rfl) ?_
    refine Wo.pre 1 (by kernel_rfl) ?_
    refine Wo.pre 1 (by kernel_rfl) ?_
    refine Wo.nil ?_
    refine Wp.cond true (by kernel_rfl) ?_
    refine Wp.seq ?_
    refine Wp.region ?_
    refine Wo.pre 1 (by kernel_rfl) ?_
    refine Wo.nil ?_
    exact Wp.ret ⟨.inr rfl, .bool false, (by kernel_rfl), by rw [e], X1⟩
  · by_cases h2 : xs.length > 4
    · have e : mayE xs = false := by simp [mayE]; omega
      refine Wp.seq ?_
      refine Wp.region ?_
      refine Wo.val _ _ (by kernel_rfl) (enew (by kernel_rfl)) ?_
      refine Wo.pre 1 (by kernel_rfl) ?_
      refine Wo.nil ?_
      refine Wp.seq ?_
      refine Wp.seq ?_
      refine Wp.region ?_
      refine Wo.pre 1 (by kernel_rfl) ?_
      refine Wo.val v H1 (by kernel_rfl) (iop_ld (a := ⟨h.n, 0, 1⟩) (by kernel_rfl) L1) ?_
      refine Wo.val (.int .i64 xs.length) H1 (by kernel_rfl) (iop_lenS (v := v) (by kernel_rfl) hc.lenS) ?_
      refine Wo.val (.bool false) H1 (by kernel_rfl) (iop_cmp (op := .lss) (k := .i64) (a := xs.length) (b := 1) false (by kernel_rfl) (by kernel_rfl) (by simp) (by simp [binInt]; omega)) ?_
      refine Wo.pre 1 (by kernel_rfl) ?_
      refine Wo.pre 1 (by kernel_rfl) ?_
      refine Wo.val v H1 (by kernel_rfl) (iop_ld (a := ⟨h.n, 0, 1⟩) (by kernel_rfl) L1) ?_
      refine Wo.val (.int .i64 xs.length) H1 (by kernel_rfl) (iop_lenS (v := v) (by kernel_rfl) hc.lenS) ?_
      refine Wo.val (.bool true) H1 (by kernel_rfl) (iop_cmp (op := .gtr) (k := .i64) (a := xs.length) (b := 4) true (by kernel_rfl) (by kernel_rfl) (by simp) (by simp [binInt]; omega)) ?_
      refine Wo.pre 1 (by kernel_rfl) ?_
      refine Wo.nil ?_
      refine Wp.cond true (by kernel_rfl) ?_
      refine Wp.seq ?_
      refine Wp.region ?_
      refine Wo.pre 1 (by kernel_rfl) ?_
      refine Wo.nil ?_
      exact Wp.ret ⟨.inr rfl, .bool false, (by kernel_rfl), by rw [e], X1⟩
    · have e : mayE xs = xs.all fun p => mayC p.2 := by simp [mayE]; omega
      refine Wp.seq ?_
      refine Wp.region ?_
      refine Wo.val _ _ (by kernel_rfl) (enew (by kernel_rfl)) ?_
      refine Wo.pre 1 (by kernel_rfl) ?_
      refine Wo.nil ?_
      refine Wp.seq ?_
      refine Wp.seq ?_
      refine Wp.region ?_
      refine Wo.pre 1 (by kernel_rfl) ?_
      refine Wo.val v H1 (by kernel_rfl) (iop_ld (a := ⟨h.n, 0, 1⟩) (by kernel_rfl) L1) ?_
      refine Wo.val (.int .i64 xs.length) H1 (by kernel_rfl) (iop_lenS (v := v) (by kernel_rfl) hc.lenS) ?_
      refine Wo.val (.bool false) H1 (by kernel_rfl) (iop_cmp (op := .lss) (k := .i64) (a := xs.length) (b := 1) false (by kernel_rfl) (by kernel_rfl) (by simp) (by simp [binInt]; omega)) ?_
      refine Wo.pre 1 (by kernel_rfl) ?_
      refine Wo.pre 1 (by kernel_rfl) ?_
      refine Wo.val v H1 (by kernel_rfl) (iop_ld (a := ⟨h.n, 0, 1⟩) (by kernel_rfl) L1) ?_
      refine Wo.val (.int .i64 xs.length) H1 (by kernel_rfl) (iop_lenS (v := v) (by kernel_rfl) hc.lenS) ?_
      refine Wo.val (.bool false) H1 (by kernel_rfl) (iop_cmp (op := .gtr) (k := .i64) (a := xs.length) (b := 4) false (by kernel_rfl) (by kernel_rfl) (by simp) (by simp [binInt]; omega)) ?_
      refine Wo.pre 1 (by kernel_rfl) ?_
      refine Wo.nil ?_
      refine Wp.cond false (by kernel_rfl) ?_
      refine Wp.skip ?_
      refine Wp.seq ?_
      refine Wp.seq ?_
      refine Wp.region ?_
      refine Wo.pre 1 (by kernel_rfl) ?_
      refine Wo.val v H1 (by kernel_rfl) (iop_ld (a := ⟨h.n, 0, 1⟩) (by kernel_rfl) L1) ?_
      refine Wo.val (.int .i64 xs.length) H1 (by kernel_rfl) (iop_lenS (v := v) (by kernel_rfl) hc.lenS) ?_
      refine Wo.pre 1 (by kernel_rfl) ?_
      refine Wo.nil ?_
      refine Wp.block ?_
      refine may_loop hc1 hlen xs.length 0 (by omega) _ (by kernel_rfl) (by kernel_rfl) (by kernel_rfl) (by kernel_rfl) _ ?_ ?_
      · intro hf ts' d0 d2
        rw [laid_eq d0 [(2, .bool false)] (by simp [d2])]
        rw [List.drop_zero] at hf
        exact ⟨.inr rfl, .bool false, (by kernel_rfl), by rw [e, hf], X1⟩
      · intro hf ts' d0
        rw [List.drop_zero] at hf
        rw [laid_eq d0 [] (by simp)]
        refine Wp.seq ?_
        refine Wp.region ?_
        refine Wo.pre 8 (by kernel_rfl) ?_
        refine Wo.nil ?_
        exact Wp.ret ⟨.inr rfl, .bool true, (by kernel_rfl), by rw [e, hf], X1⟩
end Go.Det
