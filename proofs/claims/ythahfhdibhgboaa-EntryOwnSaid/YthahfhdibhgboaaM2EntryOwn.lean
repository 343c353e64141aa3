/- Texts of the proof, one behind the other (May, Ent1, Ent2, Ent3, List, Ent4, SameE, SameF, SpoilE, Own, SpoilR, Makes, CertL, Certs, TakeRec, ItemL, Fr, TakeItem, SpoilI, ChOf, TakesR, EBackR, BunL, IRO, OwnE). -/
import Derived.Test.YthahfhdibhgboaaM1EntryOwn
/- Entries: whether they may be. -/
set_option linter.unusedVariables false
set_option linter.unusedSimpArgs false
set_option linter.unusedSectionVars false
namespace Go.Det
open Go.Proofs
attribute [local irreducible] Wp Wo Wd iop ev slots quiets wanted put

theorem iop_cmp {op : BinOp} {x y : IX} {ρ : IX → AV} {h : H} {k : IntKind} {a b : Int} (c : Bool) (hx : ρ x = .int k a) (hy : ρ y = .int k b) (hop : op = .lss ∨ op = .leq ∨ op = .gtr ∨ op = .geq ∨ op = .eql ∨ op = .neq) (e : binInt op k a b = some (.bool c)) : iop (.bin op x y) ρ h = some (.val (.bool c) h) := by
  rcases hop with rfl | rfl | rfl | rfl | rfl | rfl <;> simp [iop, binop, hx, hy, e]

/-- A chain: rows of bytes. -/
structure Ch (h : H) (v : AV) (xs : List (AV × List UInt8)) : Prop where
  row : (v = .nils ∧ xs = []) ∨ ∃ a c, v = .sl a xs.length c ∧ a.b < h.n ∧ h.ldn a xs.length = some (xs.map (·.1))
  el : ∀ p ∈ xs, Bs h p.1 p.2 ∧ Cok p.1
  cok : Cok v

theorem Ch.ext {h h' : H} {v : AV} {xs : List (AV × List UInt8)} (c : Ch h v xs) (hx : Ext h h') : Ch h' v xs := by
  refine ⟨c.row.imp id ?_, fun p hp => ⟨(c.el p hp).1.ext hx, (c.el p hp).2⟩, c.cok⟩
  rintro ⟨a, q, h1, h2, h3⟩
  exact ⟨a, q, h1, Nat.lt_of_lt_of_le h2 hx.1, by rw [ldn_same (hx.2 _ h2)]; exact h3⟩
theorem Ch.lenS {h : H} {v : AV} {xs : List (AV × List UInt8)} (c : Ch h v xs) : (v = .nils ∧ xs.length = 0) ∨ ∃ a q, v = .sl a xs.length q := by
  rcases c.row with ⟨h1, h2⟩ | ⟨a, q, h1, _⟩
  · exact .inl ⟨h1, by rw [h2]; rfl⟩
  · exact .inr ⟨a, q, h1⟩
theorem Ch.parts {h : H} {v : AV} {xs : List (AV × List UInt8)} (c : Ch h v xs) : v.cells = [v] ∧ v.one = true ∧ isStrV v = false := by
  rcases c.row with ⟨rfl, _⟩ | ⟨a, q, rfl, _⟩ <;> exact ⟨rfl, rfl, rfl⟩
theorem Ch.at {h : H} {v : AV} {xs : List (AV × List UInt8)} (c : Ch h v xs) {i : Nat} {p : AV × List UInt8} (hp : xs[i]? = some p) : ∃ a q, v = .sl a xs.length q ∧ h.ldg ⟨a.b, a.g, a.o + i * 1⟩ none = some p.1 := by
  rcases c.row with ⟨_, rfl⟩ | ⟨a, q, h1, h2, h3⟩
  · simp at hp
  · exact ⟨a, q, h1, by rw [Nat.mul_one]; exact ldn_at h3 (by simp [hp])⟩

def mayC (c : List UInt8) : Bool := decide (1 ≤ c.length ∧ c.length ≤ 512)
def mayE (xs : List (AV × List UInt8)) : Bool := decide (1 ≤ xs.length ∧ xs.length ≤ 4) && xs.all fun p => mayC p.2

set_option maxHeartbeats 1000000 in
theorem may_loop {h : H} {v : AV} {xs : List (AV × List UInt8)} (hc : Ch h v xs) (hlen : xs.length < 2 ^ 62) :
    ∀ (k i : Nat), i + k = xs.length → ∀ (ts : List AV), ts.length = 31 → getL ts 16 = some v → getL ts 17 = some (.int .i64 xs.length) → getL ts 18 = some (.int .i64 i) →
      ∀ (Q : Ex → St → Prop), ((xs.drop i).all (fun p => mayC p.2) = false → ∀ ts', ts'.length = 31 → getL ts' 2 = some (.bool false) → Q .ret (ts', h)) →
        ((xs.drop i).all (fun p => mayC p.2) = true → ∀ ts', ts'.length = 31 → Q (.exit 0) (ts', h)) → Wp TF (.loop l49_1) (ts, h) Q := by
  intro k
  induction k with
  | zero =>
    intro i hi ts t0 t16 t17 t18 Q hbad hgood
    obtain rfl : i = xs.length := by omega
    refine Wp.loop ?_
    rw [laid_eq t0 [(16, v), (17, .int .i64 xs.length), (18, .int .i64 xs.length)] (by simp [t16, t17, t18])]
    unfold l49_1
    refine Wp.seq ?_
    refine Wp.region ?_
    refine Wo.val (.bool false) h (by kernel_rfl) (iop_cmp (op := .lss) (k := .i64) (a := xs.length) (b := xs.length) false (by kernel_rfl) (by kernel_rfl) (by simp) (by simp [binInt])) ?_
    refine Wo.nil ?_
    refine Wp.seq ?_
    refine Wp.cond false (by kernel_rfl) ?_
    exact Wp.exit (hgood (by simp) _ (by kernel_rfl))
  | succ k ih =>
    intro i hi ts t0 t16 t17 t18 Q hbad hgood
    have hlt : i < xs.length := by omega
    obtain ⟨p, hp⟩ : ∃ p, xs[i]? = some p := ⟨xs[i], List.getElem?_eq_getElem hlt⟩
    have hdrop : xs.drop i = p :: xs.drop (i + 1) := by
      rw [List.drop_eq_getElem_cons hlt]
      congr 1
      exact (List.getElem?_eq_some_iff.1 hp).2
    obtain ⟨a, q, rfl, hld⟩ := hc.at hp
    have hB := (hc.el p (List.mem_of_getElem? hp)).1
    have wi : IntKind.i64.wrap ((i : Int) + 1) = ((i + 1 : Nat) : Int) := by rw [i64_fit _ (by omega)]; omega
    refine Wp.loop ?_
    rw [laid_eq t0 [(16, .sl a xs.length q), (17, .int .i64 xs.length), (18, .int .i64 i)] (by simp [t16, t17, t18])]
    unfold l49_1
    by_cases h1 : p.2.length < 1
    · have hf : (xs.drop i).all (fun p => mayC p.2) = false := by rw [hdrop, List.all_cons]; simp [mayC]; omega
      refine Wp.seq ?_
      refine Wp.region ?_
      refine Wo.val (.bool true) h (by kernel_rfl) (iop_cmp (op := .lss) (k := .i64) (a := i) (b := xs.length) true (by kernel_rfl) (by kernel_rfl) (by simp) (by simp [binInt]; omega)) ?_
      refine Wo.nil ?_
      refine Wp.seq ?_
      refine Wp.cond true (by kernel_rfl) ?_
      refine Wp.skip ?_
      refine Wp.seq ?_
      refine Wp.block ?_
      refine Wp.seq ?_
      refine Wp.region ?_
      refine Wo.val _ h (by kernel_rfl) (iop_ia (a := a) (n := xs.length) (c := q) (i := i) (by kernel_rfl) (by kernel_rfl) hlt) ?_
      refine Wo.val p.1 h (by kernel_rfl) (iop_ld (a := ⟨a.b, a.g, a.o + i * 1⟩) (by kernel_rfl) hld) ?_
      refine Wo.pre 1 (by kernel_rfl) ?_
      refine Wo.nil ?_
      refine Wp.seq ?_
      refine Wp.region ?_
      refine Wo.pre 1 (by kernel_rfl) ?_
      refine Wo.val (.int .i64 p.2.length) h (by kernel_rfl) ((hB.len (by kernel_rfl))) ?_
      refine Wo.val (.bool true) h (by kernel_rfl) (iop_cmp (op := .lss) (k := .i64) (a := p.2.length) (b := 1) true (by kernel_rfl) (by kernel_rfl) (by simp) (by simp [binInt]; omega)) ?_
      refine Wo.pre 1 (by kernel_rfl) ?_
      refine Wo.pre 1 (by kernel_rfl) ?_
      refine Wo.pre 1 (by kernel_rfl) ?_
      refine Wo.pre 1 (by kernel_rfl) ?_
      refine Wo.pre 1 (by kernel_rfl) ?_
      refine Wo.nil ?_
      refine Wp.cond true (by kernel_rfl) ?_
      refine Wp.seq ?_
      refine Wp.region ?_
      refine Wo.pre 1 (by kernel_rfl) ?_
      refine Wo.nil ?_
      exact Wp.ret (hbad hf _ (by kernel_rfl) (by kernel_rfl))
    · by_cases h2 : p.2.length > 512
      · have hf : (xs.drop i).all (fun p => mayC p.2) = false := by rw [hdrop, List.all_cons]; simp [mayC]; omega
        refine Wp.seq ?_
        refine Wp.region ?_
        refine Wo.val (.bool true) h (by kernel_rfl) (iop_cmp (op := .lss) (k := .i64) (a := i) (b := xs.length) true (by kernel_rfl) (by kernel_rfl) (by simp) (by simp [binInt]; omega)) ?_
        refine Wo.nil ?_
        refine Wp.seq ?_
        refine Wp.cond true (by kernel_rfl) ?_
        refine Wp.skip ?_
        refine Wp.seq ?_
        refine Wp.block ?_
        refine Wp.seq ?_
        refine Wp.region ?_
        refine Wo.val _ h (by kernel_rfl) (iop_ia (a := a) (n := xs.length) (c := q) (i := i) (by kernel_rfl) (by kernel_rfl) hlt) ?_
        refine Wo.val p.1 h (by kernel_rfl) (iop_ld (a := ⟨a.b, a.g, a.o + i * 1⟩) (by kernel_rfl) hld) ?_
        refine Wo.pre 1 (by kernel_rfl) ?_
        refine Wo.nil ?_
        refine Wp.seq ?_
        refine Wp.region ?_
        refine Wo.pre 1 (by kernel_rfl) ?_
        refine Wo.val (.int .i64 p.2.length) h (by kernel_rfl) ((hB.len (by kernel_rfl))) ?_
        refine Wo.val (.bool false) h (by kernel_rfl) (iop_cmp (op := .lss) (k := .i64) (a := p.2.length) (b := 1) false (by kernel_rfl) (by kernel_rfl) (by simp) (by simp [binInt]; omega)) ?_
        refine Wo.pre 1 (by kernel_rfl) ?_
        refine Wo.pre 1 (by kernel_rfl) ?_
        refine Wo.val (.int .i64 p.2.length) h (by kernel_rfl) ((hB.len (by kernel_rfl))) ?_
        refine Wo.val (.bool true) h (by kernel_rfl) (iop_cmp (op := .gtr) (k := .i64) (a := p.2.length) (b := 512) true (by kernel_rfl) (by kernel_rfl) (by simp) (by simp [binInt]; omega)) ?_
        refine Wo.pre 1 (by kernel_rfl) ?_
        refine Wo.nil ?_
        refine Wp.cond true (by kernel_rfl) ?_
        refine Wp.seq ?_
        refine Wp.region ?_
        refine Wo.pre 1 (by kernel_rfl) ?_
        refine Wo.nil ?_
        exact Wp.ret (hbad hf _ (by kernel_rfl) (by kernel_rfl))
      · have hf : (xs.drop i).all (fun p => mayC p.2) = (xs.drop (i + 1)).all (fun p => mayC p.2) := by
          have : mayC p.2 = true := by simp [mayC]; omega
          rw [hdrop, List.all_cons, this, Bool.true_and]
        rw [hf] at hbad hgood
        refine Wp.seq ?_
        refine Wp.region ?_
        refine Wo.val (.bool true) h (by kernel_rfl) (iop_cmp (op := .lss) (k := .i64) (a := i) (b := xs.length) true (by kernel_rfl) (by kernel_rfl) (by simp) (by simp [binInt]; omega)) ?_
        refine Wo.nil ?_
        refine Wp.seq ?_
        refine Wp.cond true (by kernel_rfl) ?_
        refine Wp.skip ?_
        refine Wp.seq ?_
        refine Wp.block ?_
        refine Wp.seq ?_
        refine Wp.region ?_
        refine Wo.val _ h (by kernel_rfl) (iop_ia (a := a) (n := xs.length) (c := q) (i := i) (by kernel_rfl) (by kernel_rfl) hlt) ?_
        refine Wo.val p.1 h (by kernel_rfl) (iop_ld (a := ⟨a.b, a.g, a.o + i * 1⟩) (by kernel_rfl) hld) ?_
        refine Wo.pre 1 (by kernel_rfl) ?_
        refine Wo.nil ?_
        refine Wp.seq ?_
        refine Wp.region ?_
        refine Wo.pre 1 (by kernel_rfl) ?_
        refine Wo.val (.int .i64 p.2.length) h (by kernel_rfl) ((hB.len (by kernel_rfl))) ?_
        refine Wo.val (.bool false) h (by kernel_rfl) (iop_cmp (op := .lss) (k := .i64) (a := p.2.length) (b := 1) false (by kernel_rfl) (by kernel_rfl) (by simp) (by simp [binInt]; omega)) ?_
        refine Wo.pre 1 (by kernel_rfl) ?_
        refine Wo.pre 1 (by kernel_rfl) ?_
        refine Wo.val (.int .i64 p.2.length) h (by kernel_rfl) ((hB.len (by kernel_rfl))) ?_
        refine Wo.val (.bool false) h (by kernel_rfl) (iop_cmp (op := .gtr) (k := .i64) (a := p.2.length) (b := 512) false (by kernel_rfl) (by kernel_rfl) (by simp) (by simp [binInt]; omega)) ?_
        refine Wo.pre 1 (by kernel_rfl) ?_
        refine Wo.nil ?_
        refine Wp.cond false (by kernel_rfl) ?_
        refine Wp.skip ?_
        refine Wp.region ?_
        refine Wo.pre 1 (by kernel_rfl) ?_
        refine Wo.pre 1 (by kernel_rfl) ?_
        refine Wo.nil ?_
        exact ih (i + 1) (by omega) _ (by kernel_rfl) (by kernel_rfl) (by kernel_rfl) (by rw [← wi]; kernel_rfl) Q hbad hgood

/-- An entry as a value. -/
def entV (t : Nat) (v : AV) : AV := .agg [.int .u64 t, v]

set_option maxHeartbeats 1000000 in
theorem may_run {h : H} {v : AV} {xs : List (AV × List UInt8)} (hc : Ch h v xs) (hlen : xs.length < 2 ^ 62) (t : Nat) : ∃ r h', Runs TF 49 [entV t v] h r h' ∧ r = .bool (mayE xs) ∧ Ext h h' := by
  refine Runs.ofP f49 rfl ?_
  have hall : ([.int .u64 t, v] : List AV).all AV.one = true := by
    have o1 := hc.parts.2.1
    have o3 : ∀ k i, (AV.int k i).one = true := fun _ _ => rfl
    simp [o1, o3]
  obtain ⟨H1, hH1⟩ : ∃ H1, H1 = h.new (.cells 0 70 [.int .u64 t, v] 0 false) := ⟨_, rfl⟩
  have X1 : Ext h H1 := by rw [hH1]; exact Ext.new _ _
  have enew : ∀ {x : IX} {ρ : IX → AV}, ρ x = .agg [.int .u64 t, v] → iop (.new 70 x) ρ h = some (.val (.ptr ⟨h.n, 0, 0⟩) H1) := fun hx => by rw [hH1]; exact iop_new hx hall
  have g1 : H1.get h.n = some (.cells 0 70 [.int .u64 t, v] 0 false) := by rw [hH1]; exact h.get_new _
  have L1 : H1.ldg ⟨h.n, 0, 1⟩ none = some v := by simp [H.ldg, H.ld, H.row, g1, getL]
  have hc1 := hc.ext X1
  unfold entV
  by_cases h1 : xs.length < 1
  · have e : mayE xs = false := by simp [mayE]; omega
    refine Wp.seq ?_
    refine Wp.region ?_
    refine Wo.val _ _ (by kernel_rfl) (enew (by kernel_rfl)) ?_
    refine Wo.pre 1 (by kernel_rfl) ?_
    refine Wo.nil ?_
    refine Wp.seq ?_
    refine Wp.seq ?_
    refine Wp.region ?_
    refine Wo.pre 1 (by kernel_rfl) ?_
    refine Wo.val v H1 (by kernel_rfl) (iop_ld (a := ⟨h.n, 0, 1⟩) (by kernel_rfl) L1) ?_
    refine Wo.val (.int .i64 xs.length) H1 (by kernel_rfl) (iop_lenS (v := v) (by kernel_rfl) hc.lenS) ?_
    refine Wo.val (.bool true) H1 (by kernel_rfl) (iop_cmp (op := .lss) (k := .i64) (a := xs.length) (b := 1) true (by kernel_rfl) (by kernel_rfl) (by simp) (by simp [binInt]; omega)) ?_
    refine Wo.pre 1 (by kernel_rfl) ?_
    refine Wo.pre 1 (by kernel_rfl) ?_
    refine Wo.pre 1 (by kernel_rfl) ?_
    refine Wo.pre 1 (by kernel_rfl) ?_
    refine Wo.pre 1 (by kernel_rfl) ?_
    refine Wo.pre 1 (by kernel_rfl) ?_
    refine Wo.nil ?_
    refine Wp.cond true (by kernel_rfl) ?_
    refine Wp.seq ?_
    refine Wp.region ?_
    refine Wo.pre 1 (by kernel_rfl) ?_
    refine Wo.nil ?_
    exact Wp.ret ⟨.inr rfl, .bool false, (by kernel_rfl), by rw [e], X1⟩
  · by_cases h2 : xs.length > 4
    · have e : mayE xs = false := by simp [mayE]; omega
      refine Wp.seq ?_
      refine Wp.region ?_
      refine Wo.val _ _ (by kernel_rfl) (enew (by kernel_rfl)) ?_
      refine Wo.pre 1 (by kernel_rfl) ?_
      refine Wo.nil ?_
      refine Wp.seq ?_
      refine Wp.seq ?_
      refine Wp.region ?_
      refine Wo.pre 1 (by kernel_rfl) ?_
      refine Wo.val v H1 (by kernel_rfl) (iop_ld (a := ⟨h.n, 0, 1⟩) (by kernel_rfl) L1) ?_
      refine Wo.val (.int .i64 xs.length) H1 (by kernel_rfl) (iop_lenS (v := v) (by kernel_rfl) hc.lenS) ?_
      refine Wo.val (.bool false) H1 (by kernel_rfl) (iop_cmp (op := .lss) (k := .i64) (a := xs.length) (b := 1) false (by kernel_rfl) (by kernel_rfl) (by simp) (by simp [binInt]; omega)) ?_
      refine Wo.pre 1 (by kernel_rfl) ?_
      refine Wo.pre 1 (by kernel_rfl) ?_
      refine Wo.val v H1 (by kernel_rfl) (iop_ld (a := ⟨h.n, 0, 1⟩) (by kernel_rfl) L1) ?_
      refine Wo.val (.int .i64 xs.length) H1 (by kernel_rfl) (iop_lenS (v := v) (by kernel_rfl) hc.lenS) ?_
      refine Wo.val (.bool true) H1 (by kernel_rfl) (iop_cmp (op := .gtr) (k := .i64) (a := xs.length) (b := 4) true (by kernel_rfl) (by kernel_rfl) (by simp) (by simp [binInt]; omega)) ?_
      refine Wo.pre 1 (by kernel_rfl) ?_
      refine Wo.nil ?_
      refine Wp.cond true (by kernel_rfl) ?_
      refine Wp.seq ?_
      refine Wp.region ?_
      refine Wo.pre 1 (by kernel_rfl) ?_
      refine Wo.nil ?_
      exact Wp.ret ⟨.inr rfl, .bool false, (by kernel_rfl), by rw [e], X1⟩
    · have e : mayE xs = xs.all fun p => mayC p.2 := by simp [mayE]; omega
      refine Wp.seq ?_
      refine Wp.region ?_
      refine Wo.val _ _ (by kernel_rfl) (enew (by kernel_rfl)) ?_
      refine Wo.pre 1 (by kernel_rfl) ?_
      refine Wo.nil ?_
      refine Wp.seq ?_
      refine Wp.seq ?_
      refine Wp.region ?_
      refine Wo.pre 1 (by kernel_rfl) ?_
      refine Wo.val v H1 (by kernel_rfl) (iop_ld (a := ⟨h.n, 0, 1⟩) (by kernel_rfl) L1) ?_
      refine Wo.val (.int .i64 xs.length) H1 (by kernel_rfl) (iop_lenS (v := v) (by kernel_rfl) hc.lenS) ?_
      refine Wo.val (.bool false) H1 (by kernel_rfl) (iop_cmp (op := .lss) (k := .i64) (a := xs.length) (b := 1) false (by kernel_rfl) (by kernel_rfl) (by simp) (by simp [binInt]; omega)) ?_
      refine Wo.pre 1 (by kernel_rfl) ?_
      refine Wo.pre 1 (by kernel_rfl) ?_
      refine Wo.val v H1 (by kernel_rfl) (iop_ld (a := ⟨h.n, 0, 1⟩) (by kernel_rfl) L1) ?_
      refine Wo.val (.int .i64 xs.length) H1 (by kernel_rfl) (iop_lenS (v := v) (by kernel_rfl) hc.lenS) ?_
      refine Wo.val (.bool false) H1 (by kernel_rfl) (iop_cmp (op := .gtr) (k := .i64) (a := xs.length) (b := 4) false (by kernel_rfl) (by kernel_rfl) (by simp) (by simp [binInt]; omega)) ?_
      refine Wo.pre 1 (by kernel_rfl) ?_
      refine Wo.nil ?_
      refine Wp.cond false (by kernel_rfl) ?_
      refine Wp.skip ?_
      refine Wp.seq ?_
      refine Wp.seq ?_
      refine Wp.region ?_
      refine Wo.pre 1 (by kernel_rfl) ?_
      refine Wo.val v H1 (by kernel_rfl) (iop_ld (a := ⟨h.n, 0, 1⟩) (by kernel_rfl) L1) ?_
      refine Wo.val (.int .i64 xs.length) H1 (by kernel_rfl) (iop_lenS (v := v) (by kernel_rfl) hc.lenS) ?_
      refine Wo.pre 1 (by kernel_rfl) ?_
      refine Wo.nil ?_
      refine Wp.block ?_
      refine may_loop hc1 hlen xs.length 0 (by omega) _ (by kernel_rfl) (by kernel_rfl) (by kernel_rfl) (by kernel_rfl) _ ?_ ?_
      · intro hf ts' d0 d2
        rw [laid_eq d0 [(2, .bool false)] (by simp [d2])]
        rw [List.drop_zero] at hf
        exact ⟨.inr rfl, .bool false, (by kernel_rfl), by rw [e, hf], X1⟩
      · intro hf ts' d0
        rw [List.drop_zero] at hf
        rw [laid_eq d0 [] (by simp)]
        refine Wp.seq ?_
        refine Wp.region ?_
        refine Wo.pre 8 (by kernel_rfl) ?_
        refine Wo.nil ?_
        exact Wp.ret ⟨.inr rfl, .bool true, (by kernel_rfl), by rw [e, hf], X1⟩
end Go.Det

/- Entries: the reference's May; numbers and vectors. -/
set_option linter.unusedVariables false
set_option linter.unusedSimpArgs false
set_option linter.unusedSectionVars false
namespace Go.Det
open Go.Proofs
attribute [local irreducible] Wp Wo Wd iop ev slots quiets wanted put

theorem number_run {b : AV} {l : List UInt8} {h : H} (hb : Bs h b l) (hl : l.length + 8 ≤ maxRow) {n : Nat} (hn : n < 2 ^ 64) (size : Int) :
    ∃ x h', Runs TF 76 [b, .int .u64 n, .int .i64 size] h x h' ∧ Ext h h' ∧ Ow h.n h' x (if numE n size = 0 then l ++ digits n size.toNat size.toNat else []) := by
  obtain ⟨v, h', c1, x, rfl, c2, c3⟩ := num_run hb hl hn size
  refine Runs.ofP f76 rfl ?_
  refine Wp.seq ?_
  refine Wp.region ?_
  refine Wo.pre 8 (by kernel_rfl) ?_
  refine Wo.nil ?_
  refine Wp.seq ?_
  refine Wp.region ?_
  refine Wo.pre 3 (by kernel_rfl) ?_
  refine Wo.call (by kernel_rfl) (by kernel_rfl) (c1) ?_
  refine Wo.pre 8 (by kernel_rfl) ?_
  refine Wo.nil ?_
  refine Wp.seq ?_
  refine Wp.region ?_
  refine Wo.pre 8 (by kernel_rfl) ?_
  refine Wo.nil ?_
  exact Wp.ret ⟨.inr rfl, x, (by kernel_rfl), c2, c3⟩
end Go.Det

/- Entries: leaves, what is signed. -/
set_option linter.unusedVariables false
set_option linter.unusedSimpArgs false
set_option linter.unusedSectionVars false
namespace Go.Det
open Go.Proofs
attribute [local irreducible] Wp Wo Wd iop ev slots quiets wanted put

/-- An entry, handed in: its own block. -/
theorem ent_new {h : H} {v : AV} {xs : List (AV × List UInt8)} (hc : Ch h v xs) (t : Nat) : ∃ H1, Ext h H1 ∧ h.n < H1.n ∧ (∀ {x : IX} {ρ : IX → AV}, ρ x = entV t v → iop (.new 70 x) ρ h = some (.val (.ptr ⟨h.n, 0, 0⟩) H1)) ∧
    ∀ q, Ext H1 q → q.ldg ⟨h.n, 0, 0⟩ none = some (.int .u64 t) ∧ q.ldg ⟨h.n, 0, 1⟩ none = some v ∧ q.ldg ⟨h.n, 0, 0⟩ (some 2) = some (entV t v) := by
  have hall : ([.int .u64 t, v] : List AV).all AV.one = true := by
    have o1 := hc.parts.2.1
    have o3 : ∀ k i, (AV.int k i).one = true := fun _ _ => rfl
    simp [o1, o3]
  refine ⟨h.new (.cells 0 70 [.int .u64 t, v] 0 false), Ext.new _ _, by simp, fun hx => iop_new hx hall, fun q hq => ?_⟩
  have g1 : q.get h.n = some (.cells 0 70 [.int .u64 t, v] 0 false) := by rw [hq.2 _ (by simp)]; exact h.get_new _
  simp [H.ldg, H.ld, H.ldn, H.row, g1, getL, cut, entV]

def c0 (xs : List (AV × List UInt8)) : List UInt8 := (xs.headD (.nils, [])).2
def leafB (t : Nat) (c : List UInt8) : List UInt8 := [0, 0] ++ digits t 8 8 ++ [0, 0] ++ (digits c.length 3 3 ++ c) ++ [0, 0]
def leafE (xs : List (AV × List UInt8)) : Int := if mayE xs = true then 0 else 1
def leafX (t : Nat) (xs : List (AV × List UInt8)) : List UInt8 := if mayE xs = true then leafB t (c0 xs) else []

theorem mayE_first {xs : List (AV × List UInt8)} (hm : mayE xs = true) : ∃ p, xs[0]? = some p ∧ c0 xs = p.2 ∧ 1 ≤ p.2.length ∧ p.2.length ≤ 512 ∧ xs.length ≤ 4 := by
  unfold mayE at hm
  simp only [Bool.and_eq_true, decide_eq_true_eq, List.all_eq_true] at hm
  obtain ⟨⟨h1, h4⟩, h2⟩ := hm
  cases xs with
  | nil => simp at h1
  | cons p xs =>
    have := h2 p (by simp)
    simp only [mayC, decide_eq_true_eq] at this
    exact ⟨p, rfl, rfl, this.1, this.2, h4⟩

theorem vecE_small {n : Nat} (hn : n < 65536) {s : Nat} (hs : s = 2 ∨ s = 3) : vecE n (s : Nat) = 0 := by
  have h1 : 1 ≤ (s : Int) ∧ (s : Int) ≤ 3 := by omega
  have h2 : (1 ≤ (s : Int) ∧ (s : Int) ≤ 4 ∨ (s : Int) = 8) := by omega
  have h3 : ¬ 2 ^ (8 * s) ≤ n := by rcases hs with rfl | rfl <;> omega
  unfold vecE
  rw [if_pos h1]
  unfold numE
  rw [if_neg (fun q => q h2), Int.toNat_natCast, if_neg h3]
theorem numE_8 {n : Nat} (hn : n < 2 ^ 64) : numE n 8 = 0 := by
  simp [numE]; omega
theorem numE_2 : numE 0 2 = 0 := by simp [numE]
theorem dig02 : digits 0 2 2 = [0, 0] := by kernel_rfl

set_option maxHeartbeats 2000000 in
theorem timed_run {h : H} {v : AV} {xs : List (AV × List UInt8)} (hc : Ch h v xs) (hlen : xs.length < 2 ^ 62) {t : Nat} (ht : t < 2 ^ 64) : ∃ r h', Runs TF 78 [entV t v] h r h' ∧ ∃ z, r = .tup [z, .int .i64 (leafE xs)] ∧ Ext h h' ∧ Ow h.n h' z (leafX t xs) := by
  refine Runs.ofP f78 rfl ?_
  obtain ⟨H1, X1, n1, enew, Ld⟩ := ent_new hc t
  obtain ⟨r2, H2, c2, rfl, X2⟩ := may_run (hc.ext X1) hlen t
  have hmx : 200000000000000 = maxRow := rfl
  have l2 := Ld H1 (Ext.refl _)
  by_cases hm : mayE xs = true
  rotate_left
  · have hm : mayE xs = false := by simpa using hm
    rw [hm] at c2
    have e1 : leafE xs = 1 := by rw [leafE, hm]; rfl
    have e2 : leafX t xs = [] := by rw [leafX, hm]; rfl
    refine Wp.seq ?_
    refine Wp.region ?_
    refine Wo.val _ _ (by kernel_rfl) (enew (by kernel_rfl)) ?_
    refine Wo.pre 8 (by kernel_rfl) ?_
    refine Wo.nil ?_
    refine Wp.seq ?_
    refine Wp.seq ?_
    refine Wp.region ?_
    refine Wo.val (entV t v) H1 (by kernel_rfl) (iop_ld (a := ⟨h.n, 0, 0⟩) (by kernel_rfl) l2.2.2) ?_
    refine Wo.call (by kernel_rfl) (by kernel_rfl) (c2) ?_
    refine Wo.pre 8 (by kernel_rfl) ?_
    refine Wo.nil ?_
    refine Wp.cond true (by kernel_rfl) ?_
    refine Wp.seq ?_
    refine Wp.region ?_
    refine Wo.pre 8 (by kernel_rfl) ?_
    refine Wo.nil ?_
    refine Wp.ret ⟨.inr rfl, .tup [.nils, .int .i64 1], (by kernel_rfl), .nils, by rw [e1], X1.trans X2, by rw [e2]; exact .inl ⟨rfl, rfl⟩⟩
  rw [hm] at c2
  have eE : leafE xs = 0 := by rw [leafE, hm]; rfl
  have eX : leafX t xs = leafB t (c0 xs) := by rw [leafX, hm]; rfl
  obtain ⟨p, hp, hc0, hp1, hp2, hx4⟩ := mayE_first hm
  rw [eE, eX, hc0]
  obtain ⟨a, q, rfl, hld⟩ := hc.at hp
  have hpB := (hc.el p (List.mem_of_getElem? hp)).1
  have ldp : ∀ k, Ext h k → k.ldg ⟨a.b, a.g, a.o + 0 * 1⟩ none = some p.1 := fun k hk => by
    obtain ⟨a', q', e, hl⟩ := (hc.ext hk).at hp
    simp only [AV.sl.injEq] at e
    obtain ⟨rfl, _, rfl⟩ := e
    exact hl
  have hlt : 0 < xs.length := (List.getElem?_eq_some_iff.1 hp).1
  obtain ⟨H3, hH3⟩ : ∃ H3, H3 = H2.new (.cells 0 5 (bytesAV [0, 0]) 0 false) := ⟨_, rfl⟩
  have X3 : Ext H2 H3 := by rw [hH3]; exact Ext.new _ _
  have lit3 : Ow H2.n H3 (.sl ⟨H2.n, 0, 0⟩ 2 (.ex 2)) [0, 0] := by rw [hH3]; exact Ow.lit H2 [0, 0]
  have eH3 : ∀ ts, iop (.bsl 5 [.int .u8 0, .int .u8 0] 2 [(0, 1, .c (.int .u8 0)), (1, 1, .c (.int .u8 0))]) (ev ts) H2 = some (.val (.sl ⟨H2.n, 0, 0⟩ 2 (.ex 2)) H3) := fun ts => by rw [hH3]; kernel_rfl
  obtain ⟨z4, H4, c4, X4, o4⟩ := number_run lit3.bs (by simp; omega) ht 8
  rw [if_pos (numE_8 ht)] at o4
  obtain ⟨z5, H5, c5, X5, o5⟩ := number_run o4.bs (by simp [digits_len]; omega) (n := 0) (by omega) 2
  rw [if_pos numE_2] at o5
  obtain ⟨r6, H6, c6, z6, rfl, X6, o6⟩ := wvec_any o5.bs (((((hpB.ext X1).ext X2).ext X3).ext X4).ext X5) (3 : Nat) (by simp [digits_len]; omega) (by omega)
  rw [vecE_small (by omega) (.inr rfl)] at c6
  rw [if_pos (vecE_small (by omega) (.inr rfl))] at o6
  obtain ⟨r7, H7, c7, z7, rfl, X7, o7⟩ := wvec_any o6.bs (y := .nils) (ly := []) (.inl ⟨rfl, rfl⟩) (2 : Nat) (by simp [digits_len]; omega) (by simp)
  rw [vecE_small (by simp) (.inl rfl)] at c7
  rw [if_pos (vecE_small (by simp) (.inl rfl))] at o7
  have l3 := Ld H3 (X2.trans X3)
  have l5 := Ld H5 (((X2.trans X3).trans X4).trans X5)
  have hld5 := ldp H5 ((((X1.trans X2).trans X3).trans X4).trans X5)
  refine Wp.seq ?_
  refine Wp.region ?_
  refine Wo.val _ _ (by kernel_rfl) (enew (by kernel_rfl)) ?_
  refine Wo.pre 8 (by kernel_rfl) ?_
  refine Wo.nil ?_
  refine Wp.seq ?_
  refine Wp.seq ?_
  refine Wp.region ?_
  refine Wo.val (entV t (.sl a xs.length q)) H1 (by kernel_rfl) (iop_ld (a := ⟨h.n, 0, 0⟩) (by kernel_rfl) l2.2.2) ?_
  refine Wo.call (by kernel_rfl) (by kernel_rfl) (c2) ?_
  refine Wo.pre 8 (by kernel_rfl) ?_
  refine Wo.nil ?_
  refine Wp.cond false (by kernel_rfl) ?_
  refine Wp.skip ?_
  refine Wp.seq ?_
  refine Wp.region ?_
  refine Wo.val _ _ (by kernel_rfl) (eH3 _) ?_
  refine Wo.pre 1 (by kernel_rfl) ?_
  refine Wo.val (.int .u64 t) H3 (by kernel_rfl) (iop_ld (a := ⟨h.n, 0, 0⟩) (by kernel_rfl) l3.1) ?_
  refine Wo.call (by kernel_rfl) (by kernel_rfl) (c4) ?_
  refine Wo.pre 8 (by kernel_rfl) ?_
  refine Wo.nil ?_
  refine Wp.seq ?_
  refine Wp.region ?_
  refine Wo.pre 1 (by kernel_rfl) ?_
  refine Wo.call (by kernel_rfl) (by kernel_rfl) (c5) ?_
  refine Wo.pre 8 (by kernel_rfl) ?_
  refine Wo.nil ?_
  refine Wp.seq ?_
  refine Wp.region ?_
  refine Wo.pre 1 (by kernel_rfl) ?_
  refine Wo.pre 1 (by kernel_rfl) ?_
  refine Wo.val (.sl a xs.length q) H5 (by kernel_rfl) (iop_ld (a := ⟨h.n, 0, 1⟩) (by kernel_rfl) l5.2.1) ?_
  refine Wo.val _ H5 (by kernel_rfl) (iop_ia (a := a) (n := xs.length) (c := q) (i := 0) (by kernel_rfl) (by kernel_rfl) hlt) ?_
  refine Wo.val p.1 H5 (by kernel_rfl) (iop_ld (a := ⟨a.b, a.g, a.o + 0 * 1⟩) (by kernel_rfl) hld5) ?_
  refine Wo.call (by kernel_rfl) (by kernel_rfl) (c6) ?_
  refine Wo.pre 8 (by kernel_rfl) ?_
  refine Wo.nil ?_
  refine Wp.seq ?_
  refine Wp.seq ?_
  refine Wp.region ?_
  refine Wo.pre 8 (by kernel_rfl) ?_
  refine Wo.nil ?_
  refine Wp.cond false (by kernel_rfl) ?_
  refine Wp.skip ?_
  refine Wp.seq ?_
  refine Wp.region ?_
  refine Wo.pre 1 (by kernel_rfl) ?_
  refine Wo.call (by kernel_rfl) (by kernel_rfl) (c7) ?_
  refine Wo.pre 8 (by kernel_rfl) ?_
  refine Wo.nil ?_
  have e : [0, 0] ++ digits t 8 (8 : Int).toNat ++ digits 0 2 (2 : Int).toNat ++ digits p.2.length ((3 : Nat) : Int).toNat ((3 : Nat) : Int).toNat ++ p.2 ++ digits ([] : List UInt8).length ((2 : Nat) : Int).toNat ((2 : Nat) : Int).toNat ++ [] = leafB t p.2 := by
    show [0, 0] ++ digits t 8 8 ++ digits 0 2 2 ++ digits p.2.length 3 3 ++ p.2 ++ digits 0 2 2 ++ [] = _
    rw [dig02]
    simp [leafB]
  refine Wp.ret ⟨.inr rfl, .tup [z7, .int .i64 0], (by kernel_rfl), z7, rfl, (((((X1.trans X2).trans X3).trans X4).trans X5).trans X6).trans X7, ?_⟩
  have o7' := o7.mono (lo' := h.n) (by have := X1.1; have := X2.1; have := X3.1; have := X4.1; have := X5.1; have := X6.1; omega)
  rw [← e]
  simpa using o7'

theorem leaf_run {h : H} {v : AV} {xs : List (AV × List UInt8)} (hc : Ch h v xs) (hlen : xs.length < 2 ^ 62) {t : Nat} (ht : t < 2 ^ 64) : ∃ r h', Runs TF 38 [entV t v] h r h' ∧ ∃ z, r = .tup [z, .int .i64 (leafE xs)] ∧ Ext h h' ∧ Ow h.n h' z (leafX t xs) := by
  refine Runs.ofP f38 rfl ?_
  obtain ⟨H1, X1, n1, enew, Ld⟩ := ent_new hc t
  obtain ⟨r2, H2, c2, z, rfl, X2, o2⟩ := timed_run (hc.ext X1) hlen ht
  refine Wp.seq ?_
  refine Wp.region ?_
  refine Wo.val _ _ (by kernel_rfl) (enew (by kernel_rfl)) ?_
  refine Wo.pre 8 (by kernel_rfl) ?_
  refine Wo.nil ?_
  refine Wp.seq ?_
  refine Wp.region ?_
  refine Wo.val (entV t v) H1 (by kernel_rfl) (iop_ld (a := ⟨h.n, 0, 0⟩) (by kernel_rfl) (Ld H1 (Ext.refl _)).2.2) ?_
  refine Wo.call (by kernel_rfl) (by kernel_rfl) (c2) ?_
  refine Wo.pre 8 (by kernel_rfl) ?_
  refine Wo.nil ?_
  exact Wp.ret ⟨.inr rfl, .tup [z, .int .i64 (leafE xs)], (by kernel_rfl), z, rfl, X1.trans X2, o2.mono X1.1⟩

theorem sct_run {h : H} {v : AV} {xs : List (AV × List UInt8)} (hc : Ch h v xs) (hlen : xs.length < 2 ^ 62) {t : Nat} (ht : t < 2 ^ 64) : ∃ r h', Runs TF 39 [entV t v] h r h' ∧ ∃ z, r = .tup [z, .int .i64 (leafE xs)] ∧ Ext h h' ∧ Ow h.n h' z (leafX t xs) := by
  refine Runs.ofP f39 rfl ?_
  obtain ⟨H1, X1, n1, enew, Ld⟩ := ent_new hc t
  obtain ⟨r2, H2, c2, z, rfl, X2, o2⟩ := timed_run (hc.ext X1) hlen ht
  refine Wp.seq ?_
  refine Wp.region ?_
  refine Wo.val _ _ (by kernel_rfl) (enew (by kernel_rfl)) ?_
  refine Wo.pre 8 (by kernel_rfl) ?_
  refine Wo.nil ?_
  refine Wp.seq ?_
  refine Wp.region ?_
  refine Wo.val (entV t v) H1 (by kernel_rfl) (iop_ld (a := ⟨h.n, 0, 0⟩) (by kernel_rfl) (Ld H1 (Ext.refl _)).2.2) ?_
  refine Wo.call (by kernel_rfl) (by kernel_rfl) (c2) ?_
  refine Wo.pre 8 (by kernel_rfl) ?_
  refine Wo.nil ?_
  exact Wp.ret ⟨.inr rfl, .tup [z, .int .i64 (leafE xs)], (by kernel_rfl), z, rfl, X1.trans X2, o2.mono X1.1⟩
end Go.Det

/- Entries: the reference's leaves, what is signed. -/
set_option linter.unusedVariables false
set_option linter.unusedSimpArgs false
set_option linter.unusedSectionVars false
namespace Go.Det
open Go.Proofs
attribute [local irreducible] Wp Wo Wd iop ev slots quiets wanted put

end Go.Det

/- Entries: lists of certificates. -/
set_option linter.unusedVariables false
set_option linter.unusedSimpArgs false
set_option linter.unusedSectionVars false
namespace Go.Det
open Go.Proofs
attribute [local irreducible] Wp Wo Wd iop ev slots quiets wanted put

def certB (c : List UInt8) : List UInt8 := digits c.length 3 3 ++ c
def inner (xs : List (AV × List UInt8)) : List UInt8 := (xs.map fun p => certB p.2).flatten
def listB (xs : List (AV × List UInt8)) : List UInt8 := digits (inner xs).length 3 3 ++ inner xs
end Go.Det

/- Entries: what stands beside, records, items. -/
set_option linter.unusedVariables false
set_option linter.unusedSimpArgs false
set_option linter.unusedSectionVars false
namespace Go.Det
open Go.Proofs
attribute [local irreducible] Wp Wo Wd iop ev slots quiets wanted put

/-- A chain without its first. -/
theorem Ch.rest {h : H} {v : AV} {xs : List (AV × List UInt8)} (hc : Ch h v xs) (h1 : 1 ≤ xs.length) :
    ∃ v', (∀ (x y : IX) (ρ : IX → AV), ρ x = v → ρ y = .int .i64 1 → iop (.slL 1 x (some y) none none) ρ h = some (.val v' h)) ∧ Ch h v' (xs.drop 1) := by
  rcases hc.row with ⟨_, rfl⟩ | ⟨a, c, rfl, ha, hld⟩
  · simp at h1
  · have hel : ∀ p ∈ xs.drop 1, Bs h p.1 p.2 ∧ Cok p.1 := fun p hp => hc.el p (List.mem_of_mem_drop hp)
    have hd := ldn_drop hld (n := 1) h1
    have hm : (xs.map (·.1)).drop 1 = (xs.drop 1).map (·.1) := by rw [List.map_drop]
    rw [hm] at hd
    have hl : (xs.drop 1).length = xs.length - 1 := by simp
    have q1 : (1 : Int) ≤ (xs.length : Int) := by omega
    rcases hc.cok a _ c rfl with ⟨k, rfl, hk⟩ | rfl
    · have q2 : (xs.length : Int) ≤ (k : Int) := by omega
      by_cases hk1 : k = 1
      · have hx1 : xs.length = 1 := by omega
        have hnil : xs.drop 1 = [] := List.eq_nil_of_length_eq_zero (by omega)
        refine ⟨.sl a (xs.length - 1) (.ex (k - 1)), ?_, ?_⟩
        · intro x y ρ hx hy
          simp [iop, hx, hy, bounds, asI, q1, q2, hk1]
        · rw [hnil]
          refine ⟨.inr ⟨a, .ex (k - 1), by simp [hx1], ha, ?_⟩, fun p hp => by simp at hp, ?_⟩
          · exact ldn_take hld (n := 0) (by omega)
          · rintro a' m c' e
            simp only [AV.sl.injEq] at e
            obtain ⟨rfl, rfl, rfl⟩ := e
            exact .inl ⟨_, rfl, by omega⟩
      · refine ⟨.sl ⟨a.b, a.g, a.o + 1⟩ (xs.length - 1) (.ex (k - 1)), ?_, ⟨.inr ⟨⟨a.b, a.g, a.o + 1⟩, _, by rw [hl], ha, by rw [hl]; exact hd⟩, hel, ?_⟩⟩
        · intro x y ρ hx hy
          simp [iop, hx, hy, bounds, asI, q1, q2, hk1]
        · rintro a' m c' e
          simp only [AV.sl.injEq] at e
          obtain ⟨rfl, rfl, rfl⟩ := e
          exact .inl ⟨_, rfl, by omega⟩
    · refine ⟨.sl ⟨a.b, a.g, a.o + 1⟩ (xs.length - 1) (.op 1), ?_, ⟨.inr ⟨⟨a.b, a.g, a.o + 1⟩, _, by rw [hl], ha, by rw [hl]; exact hd⟩, hel, ?_⟩⟩
      · intro x y ρ hx hy
        simp [iop, hx, hy, bounds, asI, q1]
      · rintro a' m c' e
        simp only [AV.sl.injEq] at e
        obtain ⟨rfl, rfl, rfl⟩ := e
        exact .inr rfl

def extraX (xs : List (AV × List UInt8)) : List UInt8 := if mayE xs = true then listB (xs.drop 1) else []
def recX (t : Nat) (xs : List (AV × List UInt8)) : List UInt8 := if mayE xs = true then digits t 8 8 ++ listB xs else []

end Go.Det

/- Entries: whether two say the same. -/
set_option linter.unusedVariables false
set_option linter.unusedSimpArgs false
set_option linter.unusedSectionVars false
namespace Go.Det
open Go.Proofs
attribute [local irreducible] Wp Wo Wd iop ev slots quiets wanted put

def says (xs : List (AV × List UInt8)) : List (List UInt8) := xs.map (·.2)
def sameE (t : Nat) (xs : List (AV × List UInt8)) (t' : Nat) (ys : List (AV × List UInt8)) : Bool := decide (t = t') && decide (says xs = says ys)

end Go.Det

/- Entries: whether two say the same, by the reference. -/
set_option linter.unusedVariables false
set_option linter.unusedSimpArgs false
set_option linter.unusedSectionVars false
namespace Go.Det
open Go.Proofs
attribute [local irreducible] Wp Wo Wd iop ev slots quiets wanted put

end Go.Det

/- Rows that are spoiled: entries' laws. -/
set_option linter.unusedVariables false
set_option linter.unusedSimpArgs false
set_option linter.unusedSectionVars false
namespace Go.Det
open Go.Proofs
attribute [local simp] skip_iff ret_iff exit_iff seq_iff block_iff thenQ_normal thenQ_ret thenQ_exit thenQ_goto blockQ_normal blockQ_ret blockQ_exit blockQ_goto condQ_bool cond_iff region_iff wo_nil ansQ_val ansQ_call wo_cons wo_guard wanted put setL getL ev iop binop binInt shInt asI retV resOf unop
attribute [local congr] ansQ_congr condQ_congr Wo_congr Wp_congr

end Go.Det

/- Entries: one in new memory; rows that are spoiled. -/
set_option linter.unusedVariables false
set_option linter.unusedSimpArgs false
set_option linter.unusedSectionVars false
namespace Go.Det
open Go.Proofs
attribute [local irreducible] Wp Wo Wd iop ev slots quiets wanted put

/-- A chain of its own, its rows too. -/
structure OwnCh (lo : Nat) (h : H) (v : AV) (ys : List (AV × List UInt8)) : Prop where
  row : OwC 22 1 lo h v (ys.map (·.1)) ys.length
  el : ∀ p ∈ ys, Ow lo h p.1 p.2

theorem OwnCh.ch {lo : Nat} {h : H} {v : AV} {ys : List (AV × List UInt8)} (o : OwnCh lo h v ys) : Ch h v ys := by
  refine ⟨?_, fun p hp => ⟨(o.el p hp).bs, (o.el p hp).cok⟩, ?_⟩
  · rcases o.row with ⟨h1, _, h2⟩ | ⟨b, g, h1, h2, h3, h4, h5⟩
    · exact .inl ⟨h1, List.length_eq_zero_iff.1 h2⟩
    · refine .inr ⟨⟨b, g, 0⟩, .op 1, h4, h2, ?_⟩
      unfold H.ldn H.row
      simp only [h3, BEq.rfl, Bool.not_false, Bool.true_or, Bool.and_self, if_true]
      have : ys.length = (ys.map (·.1)).length := by simp
      rw [this]
      exact cut_all _
  · rintro a m c e
    rcases o.row with ⟨h1, _⟩ | ⟨b, g, _, _, _, h4, _⟩
    · rw [h1] at e; simp at e
    · rw [h4] at e; simp only [AV.sl.injEq] at e; exact .inr e.2.2.symm

theorem OwnCh.ext {lo : Nat} {h h' : H} {v : AV} {ys : List (AV × List UInt8)} (o : OwnCh lo h v ys) (hx : Ext h h') : OwnCh lo h' v ys :=
  ⟨o.row.ext hx.1 (fun b _ _ _ h2 _ => hx.2 b h2), fun p hp => (o.el p hp).ext hx⟩

end Go.Det

/- Entries' laws: rows are spoiled. -/
set_option linter.unusedVariables false
set_option linter.unusedSimpArgs false
set_option linter.unusedSectionVars false
namespace Go.Det
open Go.Proofs
attribute [local irreducible] Wp Wo Wd iop ev slots quiets wanted put

end Go.Det

/- The law EntryMakes. -/
set_option linter.unusedVariables false
set_option linter.unusedSimpArgs false
set_option linter.unusedSectionVars false
namespace Go.Det
open Go.Proofs
attribute [local irreducible] Wp Wo Wd iop ev slots quiets wanted put

end Go.Det

/- Lists of certificates read from bytes: the plain law. -/
set_option linter.unusedVariables false
set_option linter.unusedSimpArgs false
namespace Go.Det
open Go.Proofs

/-- Rows of three-byte vectors, to the end. -/
def cutN : Nat → List UInt8 → Option (List (List UInt8))
  | 0, l => if l = [] then some [] else none
  | k + 1, l => if l = [] then some [] else if vE l 3 = 0 then (cutN k (vL l 3)).map (vX l 3 :: ·) else none

theorem vE3_iff {l : List UInt8} : vE l 3 = 0 ↔ 3 + be (l.take 3) ≤ l.length := by
  unfold vE
  rw [if_neg (by decide)]
  have e : (3 : Int).toNat = 3 := rfl
  simp only [e]
  split
  · constructor
    · intro h; cases h
    · intro h; omega
  · split
    · constructor
      · intro h; cases h
      · intro h; omega
    · constructor
      · intro h; omega
      · intro h; rfl
theorem vX3 {l : List UInt8} (h : vE l 3 = 0) : vX l 3 = (l.drop 3).take (be (l.take 3)) := by rw [vX, if_pos h]; rfl
theorem vL3 {l : List UInt8} (h : vE l 3 = 0) : vL l 3 = l.drop (3 + be (l.take 3)) := by rw [vL, if_pos h]; rfl
/-- Laid down, and read. -/
theorem dec3 {c : List UInt8} (hc : c.length < 16777216) (m : List UInt8) : vE (certB c ++ m) 3 = 0 ∧ vX (certB c ++ m) 3 = c ∧ vL (certB c ++ m) 3 = m := by
  have hbe : be (digits c.length 3 3) = c.length := be_dig' (s := 3) hc
  have htk : (certB c ++ m).take 3 = digits c.length 3 3 := by rw [certB, List.append_assoc, List.take_left' (digits_len _ _ _)]
  have hdr : (certB c ++ m).drop 3 = c ++ m := by rw [certB, List.append_assoc, List.drop_left' (digits_len _ _ _)]
  have hlen : (certB c ++ m).length = 3 + c.length + m.length := by rw [certB]; simp [digits_len, Nat.add_assoc]
  have e0 : vE (certB c ++ m) 3 = 0 := vE3_iff.2 (by rw [htk, hbe]; omega)
  refine ⟨e0, ?_, ?_⟩
  · rw [vX3 e0, htk, hbe, hdr, List.take_left]
  · rw [vL3 e0, htk, hbe, ← List.drop_drop, hdr, List.drop_left]

/-- The certificates that a list's inner bytes tell. -/
def cutA (l : List UInt8) : Option (List (List UInt8)) := cutN l.length l
/-- The program's: what stands behind is looked at later. -/
def certP (l : List UInt8) : Option (List (List UInt8)) := if vE l 3 = 0 then cutA (vX l 3) else none
/-- The reference's. -/
def certR (l : List UInt8) : Option (List (List UInt8)) := if vL l 3 = [] then certP l else none

def mayS (cs : List (List UInt8)) : Bool := decide (1 ≤ cs.length ∧ cs.length ≤ 4) && cs.all mayC
/-- A record's entry: time, certificates, error. -/
def recOf (l : List UInt8) : Nat × List (List UInt8) × Int :=
  match (if 8 ≤ l.length then certR (l.drop 8) else none) with
  | some cs => if mayS cs = true then (be (l.take 8), cs, 0) else (0, [], 5)
  | none => (0, [], 5)

end Go.Det

/- Lists of certificates read: the walks. -/
set_option linter.unusedVariables false
set_option linter.unusedSimpArgs false
set_option linter.unusedSectionVars false
namespace Go.Det
open Go.Proofs
attribute [local irreducible] Wp Wo Wd iop ev slots quiets wanted put

theorem OwnCh.mono {lo lo' : Nat} {h : H} {v : AV} {ys : List (AV × List UInt8)} (o : OwnCh lo h v ys) (hl : lo' ≤ lo) : OwnCh lo' h v ys :=
  ⟨o.row.imp id (fun ⟨b, g, h1, h2⟩ => ⟨b, g, by omega, h2⟩), fun p hp => (o.el p hp).mono hl⟩

/-- One row more. -/
theorem OwnCh.add {lo : Nat} {h : H} {v c : AV} {cl : List UInt8} {ys : List (AV × List UInt8)} (o : OwnCh lo h v ys) (hlo : lo ≤ h.n) (hc : Ow lo h c cl) (hn : ys.length < 16777216) :
    ∃ H2 l' H3, (∀ {y : IX} {ρ : IX → AV}, ρ y = c → iop (.bsl 22 [.nils] 1 [(0, 1, y)]) ρ h = some (.val (.sl ⟨h.n, 0, 0⟩ 1 (.ex 1)) H2)) ∧ append H2 22 1 24 v (.sl ⟨h.n, 0, 0⟩ 1 (.ex 1)) = some (.val l' H3) ∧ OwnCh lo H3 l' (ys ++ [(c, cl)]) ∧ h.n ≤ H3.n ∧ ∀ b, b < h.n → (b < lo ∨ ∀ g c, h.get b ≠ some (.cells g 22 c 0 false)) → H3.get b = h.get b := by
  have hmx : 200000000000000 = maxRow := rfl
  have hc1 := hc.bs.parts
  have fit : fits (ys.length + 1) 24 = true := by
    simp only [fits, Bool.and_eq_true, decide_eq_true_eq]; omega
  obtain ⟨H2, hH2⟩ : ∃ H2, H2 = h.new (.cells 0 22 [c] 0 false) := ⟨_, rfl⟩
  obtain ⟨l', H3, a3, o3, n3, k3⟩ := o.row.app hlo (new := [c]) rfl (by simp [hc1.2.1]) fit (by omega) H2 hH2
  have kp : ∀ b g c, lo ≤ b → b < h.n → h.get b = some (.cells g 5 c 0 false) → H3.get b = h.get b := fun b g c h1 h2 h3 => k3 b h2 (.inr (fun g c e => by rw [h3] at e; simp at e))
  refine ⟨H2, l', H3, ?_, a3, ⟨by rw [List.map_append, List.length_append]; exact o3, fun r hr => ?_⟩, n3, k3⟩
  · intro y ρ hy
    simp [iop, fillL, hy, hc1.1, hc1.2.1, putAt, ← hH2]
  · rcases List.mem_append.1 hr with hr | hr
    · exact (o.el r hr).keep n3 kp
    · simp only [List.mem_cons, List.not_mem_nil, or_false] at hr
      subst hr
      exact hc.keep n3 kp

end Go.Det

/- Records read: the walks. -/
set_option linter.unusedVariables false
set_option linter.unusedSimpArgs false
set_option linter.unusedSectionVars false
namespace Go.Det
open Go.Proofs
attribute [local irreducible] Wp Wo Wd iop ev slots quiets wanted put

theorem OwnCh.none {lo : Nat} {h : H} : OwnCh lo h .nils [] := ⟨.inl ⟨rfl, rfl, rfl⟩, fun p hp => by simp at hp⟩

end Go.Det

/- Items read: the plain law; chains that are appended to. -/
set_option linter.unusedVariables false
set_option linter.unusedSimpArgs false
namespace Go.Det
open Go.Proofs

/-- An item's entry. -/
def itemC (lf : List UInt8) : List UInt8 := (lf.take (lf.length - 2)).drop 15
def itemT (lf : List UInt8) : Nat := be ((lf.take 10).drop 2)
def itemOf (lf ex : List UInt8) : Nat × List (List UInt8) × Int :=
  match (if 17 ≤ lf.length then certR ex else none) with
  | some l => if mayS (itemC lf :: l) = true ∧ leafB (itemT lf) (itemC lf) = lf then (itemT lf, itemC lf :: l, 0) else (0, [], 5)
  | none => (0, [], 5)
/-! Chains that are appended to. -/

def RowK (lo : Nat) (h : H) (v : AV) (cs : List AV) : Prop := (v = .nils ∧ cs = []) ∨ ∃ b g c, lo ≤ b ∧ b < h.n ∧ h.get b = some (.cells g 22 cs 0 false) ∧ v = .sl ⟨b, g, 0⟩ cs.length c ∧ (c = .op 1 ∨ c = .ex cs.length)

theorem Ch.src {h : H} {v : AV} {ys : List (AV × List UInt8)} (c : Ch h v ys) : srcCells h 1 v = some ((ys.map (·.1)).length, ys.map (·.1)) := by
  rcases c.row with ⟨rfl, rfl⟩ | ⟨a, q, rfl, _, h3⟩
  · rfl
  · simp only [srcCells, Nat.mul_one, h3, Option.map_some, List.length_map]

theorem RowK.app {lo : Nat} {h : H} {v w : AV} {cs new : List AV} (o : RowK lo h v cs) (hlo : lo ≤ h.n) (hs : srcCells h 1 w = some (new.length, new)) (h1 : new.all AV.one = true) (hn : cs.length + new.length < 33554432) :
    ∃ v' h', append h 22 1 24 v w = some (.val v' h') ∧ RowK lo h' v' (cs ++ new) ∧ h.n ≤ h'.n ∧ ∀ b, b < h.n → (b < lo ∨ ∀ g c, h.get b ≠ some (.cells g 22 c 0 false)) → h'.get b = h.get b := by
  have hmx : 200000000000000 = maxRow := rfl
  unfold append
  simp only [hs]
  by_cases h0 : new = []
  · subst h0
    rcases o with ⟨rfl, rfl⟩ | ⟨b, g, c, q1, q2, q3, rfl, q4⟩
    · exact ⟨.nils, h, rfl, .inl ⟨rfl, rfl⟩, Nat.le_refl _, fun _ _ _ => rfl⟩
    · exact ⟨_, h, rfl, by rw [List.append_nil]; exact .inr ⟨b, g, c, q1, q2, q3, rfl, q4⟩, Nat.le_refl _, fun _ _ _ => rfl⟩
  · have hpos : 0 < new.length := List.length_pos_iff.2 h0
    have hne : (new.length == 0) = false := by simp [h0]
    have fit : fits (cs.length + new.length) 24 = true := by simp only [fits, Bool.and_eq_true, decide_eq_true_eq]; omega
    have hle : cs.length + new.length ≤ 9223372036854775807 := by omega
    rcases o with ⟨rfl, rfl⟩ | ⟨b, g, c, q1, q2, q3, rfl, q4⟩
    · simp only [List.length_nil, Nat.zero_add] at fit hle
      refine ⟨.sl ⟨h.n, 0, 0⟩ new.length (.op 1), h.new (.cells 0 22 new 0 false), ?_, .inr ⟨h.n, 0, .op 1, hlo, by simp, h.get_new _, rfl, .inl rfl⟩, by simp, fun b hb _ => h.get_new_ne b _ (by omega)⟩
      simp [hne, fit, hle, h1, h0]
    · rcases q4 with rfl | rfl
      · refine ⟨.sl ⟨b, g + 1, 0⟩ (cs.length + new.length) (.op 1), h.set b (.cells (g + 1) 22 (cs ++ new) 0 false), ?_, .inr ⟨b, g + 1, .op 1, q1, q2, h.get_set b _, by rw [List.length_append], .inl rfl⟩, Nat.le_refl _, fun b' hb' hk => ?_⟩
        · simp [hne, fit, hle, h1, h0, q3]
        · have : b' ≠ b := by
            rintro rfl
            rcases hk with hk | hk
            · omega
            · exact hk _ _ q3
          exact h.get_set_ne b b' _ this
      · have hld : h.ldn ⟨b, g, 0⟩ (cs.length * 1) = some cs := by
          unfold H.ldn H.row
          simp only [q3, BEq.rfl, Bool.not_false, Bool.true_or, Bool.and_self, if_true, Nat.mul_one]
          exact cut_all _
        refine ⟨.sl ⟨h.n, 0, 0⟩ (cs.length + new.length) (.op 1), h.new (.cells 0 22 (cs ++ new) 0 false), ?_, .inr ⟨h.n, 0, .op 1, hlo, by simp, h.get_new _, by rw [List.length_append], .inl rfl⟩, by simp, fun b hb _ => h.get_new_ne b _ (by omega)⟩
        rw [Nat.mul_one] at hld
        simp [hne, fit, hle, h1, h0, hld, hpos]

theorem RowK.ch {lo : Nat} {h : H} {v : AV} {ys : List (AV × List UInt8)} (o : RowK lo h v (ys.map (·.1))) (el : ∀ p ∈ ys, Bs h p.1 p.2 ∧ Cok p.1) : Ch h v ys := by
  refine ⟨?_, el, ?_⟩
  · rcases o with ⟨h1, h2⟩ | ⟨b, g, c, h1, h2, h3, h4, h5⟩
    · exact .inl ⟨h1, by simpa using h2⟩
    · refine .inr ⟨⟨b, g, 0⟩, c, by rw [h4, List.length_map], h2, ?_⟩
      unfold H.ldn H.row
      simp only [h3, BEq.rfl, Bool.not_false, Bool.true_or, Bool.and_self, if_true]
      have : ys.length = (ys.map (·.1)).length := by simp
      rw [this]
      exact cut_all _
  · rintro a m c e
    rcases o with ⟨h1, _⟩ | ⟨b, g, q, _, _, _, h4, h5⟩
    · rw [h1] at e; simp at e
    · rw [h4] at e; simp only [AV.sl.injEq] at e
      obtain ⟨_, rfl, rfl⟩ := e
      rcases h5 with h5 | h5
      · exact .inr h5
      · exact .inl ⟨_, h5, by simp⟩
theorem RowK.ext {lo : Nat} {h h' : H} {v : AV} {cs : List AV} (o : RowK lo h v cs) (hx : Ext h h') : RowK lo h' v cs := by
  refine o.imp id ?_
  rintro ⟨b, g, c, h1, h2, h3, h4⟩
  have := hx.1
  exact ⟨b, g, c, h1, by omega, by rw [hx.2 b h2]; exact h3, h4⟩
theorem RowK.mono {lo lo' : Nat} {h : H} {v : AV} {cs : List AV} (o : RowK lo h v cs) (hl : lo' ≤ lo) : RowK lo' h v cs := by
  refine o.imp id ?_
  rintro ⟨b, g, c, h1, h2⟩
  exact ⟨b, g, c, by omega, h2⟩
theorem OwnCh.rowK {lo : Nat} {h : H} {v : AV} {ys : List (AV × List UInt8)} (o : OwnCh lo h v ys) : RowK lo h v (ys.map (·.1)) := by
  rcases o.row with ⟨h1, h2, _⟩ | ⟨b, g, h1, h2, h3, h4, _⟩
  · exact .inl ⟨h1, h2⟩
  · exact .inr ⟨b, g, .op 1, h1, h2, h3, by rw [h4, List.length_map], .inl rfl⟩

/-- A chain of its own, however its row came to be. -/
structure OwnK (lo : Nat) (h : H) (v : AV) (ys : List (AV × List UInt8)) : Prop where
  row : RowK lo h v (ys.map (·.1))
  el : ∀ p ∈ ys, Ow lo h p.1 p.2
theorem OwnCh.k {lo : Nat} {h : H} {v : AV} {ys : List (AV × List UInt8)} (o : OwnCh lo h v ys) : OwnK lo h v ys := ⟨o.rowK, o.el⟩
theorem OwnK.ch {lo : Nat} {h : H} {v : AV} {ys : List (AV × List UInt8)} (o : OwnK lo h v ys) : Ch h v ys := o.row.ch fun p hp => ⟨(o.el p hp).bs, (o.el p hp).cok⟩
theorem OwnK.ext {lo : Nat} {h h' : H} {v : AV} {ys : List (AV × List UInt8)} (o : OwnK lo h v ys) (hx : Ext h h') : OwnK lo h' v ys := ⟨o.row.ext hx, fun p hp => (o.el p hp).ext hx⟩
theorem OwnK.mono {lo lo' : Nat} {h : H} {v : AV} {ys : List (AV × List UInt8)} (o : OwnK lo h v ys) (hl : lo' ≤ lo) : OwnK lo' h v ys := ⟨o.row.mono hl, fun p hp => (o.el p hp).mono hl⟩
theorem OwnK.none {lo : Nat} {h : H} : OwnK lo h .nils [] := OwnCh.none.k
end Go.Det

/- Frames: entries' rows, readers. -/
set_option linter.unusedVariables false
set_option linter.unusedSimpArgs false
set_option linter.unusedSectionVars false
namespace Go.Det
open Go.Proofs

theorem ExtB.fr {b : Nat} {h h' : H} (x : ExtB b h h') : Fr (fun s => s = b + 1) h h' := ⟨x.1, fun k hk hs => x.2 k hk (fun e => hs (by rw [e]))⟩
theorem Ch.fr {h h' : H} {v : AV} {xs : List (AV × List UInt8)} (c : Ch h v xs) {S : Nat → Prop} (x : Fr S h h') (hs : ∀ s, S s → s = 0 ∨ h.n < s) : Ch h' v xs := c.ext (x.ext hs)
theorem Ch.bd {h : H} {v : AV} {xs : List (AV × List UInt8)} (c : Ch h v xs) : blk v ≤ h.n := by
  rcases c.row with ⟨rfl, _⟩ | ⟨a, q, rfl, h2, _⟩
  · exact Nat.zero_le _
  · exact h2
theorem OwnCh.parts {lo : Nat} {h : H} {v : AV} {xs : List (AV × List UInt8)} (c : OwnCh lo h v xs) : v.cells = [v] ∧ v.one = true ∧ isStrV v = false := c.ch.parts
theorem OwnK.parts {lo : Nat} {h : H} {v : AV} {xs : List (AV × List UInt8)} (c : OwnK lo h v xs) : v.cells = [v] ∧ v.one = true ∧ isStrV v = false := c.ch.parts
theorem OwnCh.bd {lo : Nat} {h : H} {v : AV} {xs : List (AV × List UInt8)} (c : OwnCh lo h v xs) : (blk v = 0 ∨ lo < blk v) ∧ blk v ≤ h.n := by
  rcases c.row with ⟨rfl, _⟩ | ⟨b, g, h1, h2, _, rfl, _⟩
  · exact ⟨.inl rfl, Nat.zero_le _⟩
  · exact ⟨.inr (Nat.succ_le_succ h1), h2⟩
theorem OwnK.bd {lo : Nat} {h : H} {v : AV} {xs : List (AV × List UInt8)} (c : OwnK lo h v xs) : (blk v = 0 ∨ lo < blk v) ∧ blk v ≤ h.n := by
  rcases c.row with ⟨rfl, _⟩ | ⟨b, g, _, h1, h2, _, rfl, _⟩
  · exact ⟨.inl rfl, Nat.zero_le _⟩
  · exact ⟨.inr (Nat.succ_le_succ h1), h2⟩
theorem RowK.fr {lo : Nat} {h h' : H} {v : AV} {cs : List AV} (o : RowK lo h v cs) {S : Nat → Prop} (x : Fr S h h') (hs : ∀ s, S s → s ≤ lo ∨ h.n < s) : RowK lo h' v cs := by
  refine o.imp id ?_
  rintro ⟨b, g, c, h1, h2, h3, h4⟩
  have := x.1
  exact ⟨b, g, c, h1, by omega, by rw [x.2 b h2 (fun e => by have := hs _ e; omega)]; exact h3, h4⟩
theorem Ow.fr2 {lo : Nat} {h h' : H} {v : AV} {l : List UInt8} (ho : Ow lo h v l) {S : Nat → Prop} (x : Fr S h h') (hs : ∀ s, S s → s ≤ lo ∨ h.n < s) : Ow lo h' v l := by
  have := x.1
  rcases ho with ⟨rfl, rfl⟩ | ⟨b, g, h1, h2, h3, h4⟩
  · exact .inl ⟨rfl, rfl⟩
  · exact .inr ⟨b, g, h1, by omega, by rw [x.2 b h2 (fun e => by have := hs _ e; omega)]; exact h3, h4⟩
theorem OwnK.fr {lo : Nat} {h h' : H} {v : AV} {ys : List (AV × List UInt8)} (o : OwnK lo h v ys) {S : Nat → Prop} (x : Fr S h h') (hs : ∀ s, S s → s ≤ lo ∨ h.n < s) : OwnK lo h' v ys := ⟨o.row.fr x hs, fun p hp => (o.el p hp).fr2 x hs⟩
theorem OwnCh.fr {lo : Nat} {h h' : H} {v : AV} {ys : List (AV × List UInt8)} (o : OwnCh lo h v ys) {S : Nat → Prop} (x : Fr S h h') (hs : ∀ s, S s → s ≤ lo ∨ h.n < s) : OwnCh lo h' v ys := by
  refine ⟨?_, fun p hp => (o.el p hp).fr2 x hs⟩
  have hx := x.1
  exact o.row.ext hx (fun b g c h1 h2 _ => x.2 b h2 (fun e => by have := hs _ e; omega))

theorem Rd.bs {h : H} {b : Nat} {v : AV} {l : List UInt8} (r : Rd h b v l) : Bs h v l := r.2.2.1
theorem Rd.ne {h : H} {b : Nat} {v : AV} {l : List UInt8} (r : Rd h b v l) : blk v ≠ b + 1 := by
  have := r.2.2.2
  cases v <;> try (simp [blk]; done)
  · rename_i a n c
    have := (this a n c rfl).1
    simp only [blk]; omega
theorem Rd.bd {h : H} {b : Nat} {v : AV} {l : List UInt8} (r : Rd h b v l) : b < h.n ∧ blk v ≤ h.n ∧ blk v ≠ b + 1 := ⟨r.1, r.bs.bd, r.ne⟩
theorem Rd.fr {h h' : H} {b : Nat} {v : AV} {l : List UInt8} (r : Rd h b v l) {S : Nat → Prop} (x : Fr S h h') (hs : ∀ s, S s → s ≠ b + 1 ∧ (s ≠ blk v ∨ s = 0)) : Rd h' b v l :=
  r.keep x.1 (x.2 b r.1 (fun e => (hs _ e).1 rfl)) (fun a n c e => x.2 a.b (r.bs.lt e) (fun h1 => by have := hs _ h1; rw [e] at this; simp only [blk] at this; omega))
theorem RRd.bs {h : H} {b : Nat} {v : AV} {l : List UInt8} (r : RRd h b v l) : Bs h v l := r.2.2.1
theorem RRd.ne {h : H} {b : Nat} {v : AV} {l : List UInt8} (r : RRd h b v l) : blk v ≠ b + 1 := by
  have := r.2.2.2.2
  cases v <;> try (simp [blk]; done)
  · rename_i a n c
    have := this a n c rfl
    simp only [blk]; omega
theorem RRd.bd {h : H} {b : Nat} {v : AV} {l : List UInt8} (r : RRd h b v l) : b < h.n ∧ blk v ≤ h.n ∧ blk v ≠ b + 1 := ⟨r.1, r.bs.bd, r.ne⟩
theorem RRd.fr {h h' : H} {b : Nat} {v : AV} {l : List UInt8} (r : RRd h b v l) {S : Nat → Prop} (x : Fr S h h') (hs : ∀ s, S s → s ≠ b + 1 ∧ (s ≠ blk v ∨ s = 0)) : RRd h' b v l :=
  r.keep x.1 (x.2 b r.1 (fun e => (hs _ e).1 rfl)) (fun a n c e => x.2 a.b (r.bs.lt e) (fun h1 => by have := hs _ h1; rw [e] at this; simp only [blk] at this; omega))
theorem SB.blk {v v' : AV} (s : SB v v') : Go.Det.blk v' = 0 ∨ Go.Det.blk v' = Go.Det.blk v := by
  cases v' <;> try (exact .inl rfl)
  rename_i a n c
  obtain ⟨a0, n0, c0, rfl, e⟩ := s a n c rfl
  exact .inr (by simp [Go.Det.blk, e])
theorem Ch.none {h : H} : Ch h .nils [] := (OwnK.none (lo := 0)).ch

theorem RowK.bd {lo : Nat} {h : H} {v : AV} {cs : List AV} (o : RowK lo h v cs) : (blk v = 0 ∨ lo < blk v) ∧ blk v ≤ h.n := by
  rcases o with ⟨rfl, _⟩ | ⟨b, g, _, h1, h2, _, rfl, _⟩
  · exact ⟨.inl rfl, Nat.zero_le _⟩
  · exact ⟨.inr (Nat.succ_le_succ h1), h2⟩

/-- A chain whose row is its own, its rows of bytes as they read. -/
structure OwB (lo : Nat) (h : H) (v : AV) (ys : List (AV × List UInt8)) : Prop where
  row : RowK lo h v (ys.map (·.1))
  el : ∀ p ∈ ys, Bs h p.1 p.2 ∧ Cok p.1
theorem OwB.ch {lo : Nat} {h : H} {v : AV} {ys : List (AV × List UInt8)} (o : OwB lo h v ys) : Ch h v ys := o.row.ch o.el
theorem OwB.parts {lo : Nat} {h : H} {v : AV} {xs : List (AV × List UInt8)} (c : OwB lo h v xs) : v.cells = [v] ∧ v.one = true ∧ isStrV v = false := c.ch.parts
theorem OwB.bd {lo : Nat} {h : H} {v : AV} {xs : List (AV × List UInt8)} (c : OwB lo h v xs) : (blk v = 0 ∨ lo < blk v) ∧ blk v ≤ h.n := c.row.bd
theorem OwB.fr {lo : Nat} {h h' : H} {v : AV} {ys : List (AV × List UInt8)} (o : OwB lo h v ys) {S : Nat → Prop} (x : Fr S h h') (hs : ∀ s, S s → s = 0 ∨ h.n < s) : OwB lo h' v ys :=
  ⟨o.row.fr x (fun s h1 => (hs s h1).imp (fun e => by omega) id), fun p hp => ⟨(o.el p hp).1.ext (x.ext hs), (o.el p hp).2⟩⟩
theorem OwB.none {lo : Nat} {h : H} : OwB lo h .nils [] := ⟨.inl ⟨rfl, rfl⟩, fun p hp => by simp at hp⟩
theorem OwnK.b {lo : Nat} {h : H} {v : AV} {ys : List (AV × List UInt8)} (o : OwnK lo h v ys) : OwB lo h v ys := ⟨o.row, fun p hp => ⟨(o.el p hp).bs, (o.el p hp).cok⟩⟩
theorem Ch.bq {h : H} {v : AV} {xs : List (AV × List UInt8)} (c : Ch h v xs) : blk v ≤ h.n := c.bd
theorem OwnCh.bq {lo : Nat} {h : H} {v : AV} {xs : List (AV × List UInt8)} (c : OwnCh lo h v xs) : Dj (blk v = 0 ∨ lo < blk v) ∧ blk v ≤ h.n := c.bd
theorem OwnK.bq {lo : Nat} {h : H} {v : AV} {xs : List (AV × List UInt8)} (c : OwnK lo h v xs) : Dj (blk v = 0 ∨ lo < blk v) ∧ blk v ≤ h.n := c.bd
theorem OwB.bq {lo : Nat} {h : H} {v : AV} {xs : List (AV × List UInt8)} (c : OwB lo h v xs) : Dj (blk v = 0 ∨ lo < blk v) ∧ blk v ≤ h.n := c.bd
theorem RowK.bq {lo : Nat} {h : H} {v : AV} {xs : List AV} (c : RowK lo h v xs) : Dj (blk v = 0 ∨ lo < blk v) ∧ blk v ≤ h.n := c.bd
theorem Rd.bq {h : H} {b : Nat} {v : AV} {l : List UInt8} (r : Rd h b v l) : Dj (blk v ≠ b + 1) ∧ b < h.n ∧ blk v ≤ h.n := ⟨r.ne, r.1, r.bs.bd⟩
theorem RRd.bq {h : H} {b : Nat} {v : AV} {l : List UInt8} (r : RRd h b v l) : Dj (blk v ≠ b + 1) ∧ b < h.n ∧ blk v ≤ h.n := ⟨r.ne, r.1, r.bs.bd⟩
theorem SB.bq {v v' : AV} (s : SB v v') : Dj (Go.Det.blk v' = 0 ∨ Go.Det.blk v' = Go.Det.blk v) := s.blk
end Go.Det

/- Items read: the walks. -/
set_option linter.unusedVariables false
set_option linter.unusedSimpArgs false
set_option linter.unusedSectionVars false
namespace Go.Det
open Go.Proofs
attribute [local irreducible] Wp Wo Wd iop ev slots quiets wanted put

theorem leafE_zero {xs : List (AV × List UInt8)} (h : leafE xs = 0) : mayE xs = true := by
  unfold leafE at h
  by_cases hm : mayE xs = true
  · exact hm
  · rw [if_neg hm] at h; cases h
end Go.Det

/- Rows are spoiled: within a range of blocks. -/
set_option linter.unusedVariables false
set_option linter.unusedSimpArgs false
set_option linter.unusedSectionVars false
namespace Go.Det
open Go.Proofs
attribute [local irreducible] Wp Wo Wd iop ev slots quiets wanted put

/-- A chain of its own, its blocks between two numbers. -/
structure OwI (lo hi : Nat) (h : H) (v : AV) (ys : List (AV × List UInt8)) : Prop where
  k : OwnK lo h v ys
  hi : Go.Det.blk v ≤ hi ∧ ∀ p ∈ ys, Go.Det.blk p.1 ≤ hi
theorem OwI.of {lo : Nat} {h : H} {v : AV} {ys : List (AV × List UInt8)} (o : OwnK lo h v ys) : OwI lo h.n h v ys := ⟨o, o.bd.2, fun p hp => (o.el p hp).bd.2⟩
theorem OwI.ch {lo hi : Nat} {h : H} {v : AV} {ys : List (AV × List UInt8)} (o : OwI lo hi h v ys) : Ch h v ys := o.k.ch
theorem OwI.parts {lo hi : Nat} {h : H} {v : AV} {xs : List (AV × List UInt8)} (c : OwI lo hi h v xs) : v.cells = [v] ∧ v.one = true ∧ isStrV v = false := c.ch.parts
theorem OwI.bd {lo hi : Nat} {h : H} {v : AV} {xs : List (AV × List UInt8)} (c : OwI lo hi h v xs) : (Go.Det.blk v = 0 ∨ lo < Go.Det.blk v) ∧ Go.Det.blk v ≤ hi := ⟨c.k.bd.1, c.hi.1⟩
theorem OwI.bq {lo hi : Nat} {h : H} {v : AV} {xs : List (AV × List UInt8)} (c : OwI lo hi h v xs) : Dj (Go.Det.blk v = 0 ∨ lo < Go.Det.blk v) ∧ Go.Det.blk v ≤ hi := c.bd
theorem OwI.fr {lo hi : Nat} {h h' : H} {v : AV} {ys : List (AV × List UInt8)} (o : OwI lo hi h v ys) {S : Nat → Prop} (x : Fr S h h') (hs : ∀ s, S s → s ≤ lo ∨ hi < s ∨ h.n < s) : OwI lo hi h' v ys := by
  refine ⟨⟨?_, fun p hp => ?_⟩, o.hi⟩
  · have hv := o.hi.1
    refine o.k.row.imp id ?_
    rintro ⟨b, g, c, h1, h2, h3, rfl, h4⟩
    have := x.1
    exact ⟨b, g, c, h1, by omega, by rw [x.2 b h2 (fun e => by have := hs _ e; simp only [blk_sl] at hv; omega)]; exact h3, rfl, h4⟩
  · have h1 := o.k.el p hp
    have h2 := h1.bd
    have h3 := o.hi.2 p hp
    exact h1.fr x (by
      by_cases h0 : Go.Det.blk p.1 = 0
      · exact .inl h0
      · exact .inr (fun e => by have := hs _ e; omega))

/-! The contracts, told so -/
end Go.Det

/- Chains as arguments. -/
set_option linter.unusedVariables false
set_option linter.unusedSimpArgs false
namespace Go.Det
open Go.Proofs

theorem flat_one {α β : Type} (f : α → β) : ∀ l : List α, (l.map fun p => [f p]).flatten = l.map f
  | [] => rfl
  | a :: l => by simp [flat_one f l]

theorem mem_fn {α : Type} {n : Nat} {f : Fin n → α} {p : α} (h : p ∈ List.ofFn f) : ∃ j, f j = p := by
  obtain ⟨i, hi, e⟩ := List.getElem_of_mem h
  exact ⟨⟨i, by simpa using hi⟩, by simpa using e⟩

theorem chain_of {h : H} {xs : List (List Int)} {v : AV} (hk : KSl (KSl (KInt .u8) 1) 1 h xs [v]) (hw : ∀ x ∈ xs, ∀ n ∈ x, IntKind.u8.min ≤ n ∧ n ≤ IntKind.u8.max) :
    ∃ ps : List (AV × List UInt8), Ch h v ps ∧ ps.length = xs.length ∧ ∀ p ∈ ps, ∃ x ∈ xs, p.2.length = x.length := by
  obtain ⟨v', e, hv⟩ := hk
  simp only [List.cons.injEq, and_true] at e
  subst e
  rcases hv with ⟨rfl, rfl⟩ | ⟨a, c, rfl, h1, h2, cc, h3, h4, h5⟩
  · exact ⟨[], ⟨.inl ⟨rfl, rfl⟩, fun p hp => by simp at hp, fun a m c e => by cases e⟩, rfl, fun p hp => by simp at hp⟩
  · have key : ∀ j : Fin xs.length, ∃ p : AV × List UInt8, cc[j.1]? = some [p.1] ∧ Bs h p.1 p.2 ∧ Cok p.1 ∧ ∃ x ∈ xs, p.2.length = x.length := by
      intro j
      have hj : xs[j.1]? = some xs[j.1] := List.getElem?_eq_getElem j.2
      obtain ⟨cs, hc, hl⟩ := h5 j.1 _ hj
      obtain ⟨x, b, rfl, hB, hbl, hcap⟩ := hl.bytes (hw _ (List.mem_of_getElem? hj))
      exact ⟨(x, b), hc, hB, fun a m c e => .inl (hcap a m c e), _, List.mem_of_getElem? hj, hbl⟩
    obtain ⟨f, hf⟩ := Classical.axiomOfChoice key
    have e1 : cc = (List.ofFn f).map fun p => [p.1] := by
      apply List.ext_getElem?
      intro i
      by_cases hi : i < xs.length
      · rw [(hf ⟨i, hi⟩).1]; simp [hi]
      · rw [List.getElem?_eq_none (by omega), List.getElem?_eq_none (by simp; omega)]
    refine ⟨List.ofFn f, ⟨.inr ⟨a, .ex c, by rw [List.length_ofFn], h2, ?_⟩, fun p hp => ?_, fun a m c' e => ?_⟩, List.length_ofFn, fun p hp => ?_⟩
    · rw [List.length_ofFn, ← flat_one (fun p : AV × List UInt8 => p.1), ← e1]
      rw [Nat.mul_one] at h3
      exact h3
    · obtain ⟨j, rfl⟩ := mem_fn hp
      exact ⟨(hf j).2.1, (hf j).2.2.1⟩
    · simp only [AV.sl.injEq] at e
      exact .inl ⟨c, e.2.2.symm, by omega⟩
    · obtain ⟨j, rfl⟩ := mem_fn hp
      exact (hf j).2.2.2
end Go.Det

/- The law EntryTakes, walked. -/
set_option linter.unusedVariables false
set_option linter.unusedSimpArgs false
set_option linter.unusedSectionVars false
namespace Go.Det
open Go.Proofs
attribute [local irreducible] Wp Wo Wd iop ev slots quiets wanted put

attribute [local irreducible] recOf itemOf sameE
end Go.Det

/- The law EntryBack, walked. -/
set_option linter.unusedVariables false
set_option linter.unusedSimpArgs false
set_option linter.unusedSectionVars false
namespace Go.Det
open Go.Proofs
attribute [local irreducible] Wp Wo Wd iop ev slots quiets wanted put

theorem leafE_ok {xs : List (AV × List UInt8)} (h : mayE xs = true) : leafE xs = 0 := if_pos h
def sndS : IC → IC
  | .seq _ b => b
  | c => c
attribute [local irreducible] recOf itemOf sameE leafE leafX extraX recX mayE
end Go.Det

/- Bundles: the plain law. -/
set_option linter.unusedVariables false
set_option linter.unusedSimpArgs false
namespace Go.Det
open Go.Proofs

end Go.Det

/- Functions of the program in the form that the deterministic machine runs. -/
set_option maxRecDepth 100000
namespace Go.Det
open Go.Proofs
/-- escritoire/escritoirelaw05.EntryOwn params 1 -/
def ir9 : IFunc := { ntmps := 110, results := [(2, none)], body := IC.seq (IC.region [{ dst := some 1, op := IOp.new 72 (IX.t 0), guard := none }, { dst := some 2, op := IOp.mv (IX.c (AV.bool false)), guard := none }]) (IC.seq (IC.draw [{ toIOper := { dst := some 14, op := IOp.fa 0 (IX.t 1), guard := none }, act := false, id := 0, mask := 0 }, { toIOper := { dst := some 15, op := IOp.ld (some 2) (IX.t 14), guard := none }, act := false, id := 1, mask := 1 }, { toIOper := { dst := some 16, op := IOp.fa 2 (IX.t 1), guard := none }, act := false, id := 2, mask := 0 }, { toIOper := { dst := some 17, op := IOp.ld (some 2) (IX.t 16), guard := none }, act := false, id := 3, mask := 4 }, { toIOper := { dst := some 18, op := IOp.fa 4 (IX.t 1), guard := none }, act := false, id := 4, mask := 0 }, { toIOper := { dst := some 19, op := IOp.ld (some 98) (IX.t 18), guard := none }, act := false, id := 5, mask := 16 }, { toIOper := { dst := some 20, op := IOp.fa 102 (IX.t 1), guard := none }, act := false, id := 6, mask := 0 }, { toIOper := { dst := some 21, op := IOp.ld (some 98) (IX.t 20), guard := none }, act := false, id := 7, mask := 64 }, { toIOper := { dst := some 3, op := IOp.new 70 (IX.c (AV.agg [AV.int (IntKind.u64) 0, AV.nils])), guard := none }, act := false, id := 8, mask := 0 }, { toIOper := { dst := some 4, op := IOp.new 70 (IX.c (AV.agg [AV.int (IntKind.u64) 0, AV.nils])), guard := none }, act := false, id := 9, mask := 0 }, { toIOper := { dst := some 5, op := IOp.new 65 (IX.c (AV.agg [AV.int (IntKind.u64) 0, AV.int (IntKind.u64) 0, AV.int (IntKind.u8) 0, AV.int (IntKind.u8) 0, AV.int (IntKind.u8) 0, AV.int (IntKind.u8) 0, AV.int (IntKind.u8) 0, AV.int (IntKind.u8) 0, AV.int (IntKind.u8) 0, AV.int (IntKind.u8) 0, AV.int (IntKind.u8) 0, AV.int (IntKind.u8) 0, AV.int (IntKind.u8) 0, AV.int (IntKind.u8) 0, AV.int (IntKind.u8) 0, AV.int (IntKind.u8) 0, AV.int (IntKind.u8) 0, AV.int (IntKind.u8) 0, AV.int (IntKind.u8) 0, AV.int (IntKind.u8) 0, AV.int (IntKind.u8) 0, AV.int (IntKind.u8) 0, AV.int (IntKind.u8) 0, AV.int (IntKind.u8) 0, AV.int (IntKind.u8) 0, AV.int (IntKind.u8) 0, AV.int (IntKind.u8) 0, AV.int (IntKind.u8) 0, AV.int (IntKind.u8) 0, AV.int (IntKind.u8) 0, AV.int (IntKind.u8) 0, AV.int (IntKind.u8) 0, AV.int (IntKind.u8) 0, AV.int (IntKind.u8) 0, AV.int (IntKind.u8) 0, AV.int (IntKind.u8) 0, AV.int (IntKind.u8) 0, AV.int (IntKind.u8) 0, AV.int (IntKind.u8) 0, AV.int (IntKind.u8) 0, AV.int (IntKind.u8) 0, AV.int (IntKind.u8) 0, AV.int (IntKind.u8) 0, AV.int (IntKind.u8) 0, AV.int (IntKind.u8) 0, AV.int (IntKind.u8) 0, AV.int (IntKind.u8) 0, AV.int (IntKind.u8) 0, AV.int (IntKind.u8) 0, AV.int (IntKind.u8) 0, AV.int (IntKind.u8) 0, AV.int (IntKind.u8) 0, AV.int (IntKind.u8) 0, AV.int (IntKind.u8) 0, AV.int (IntKind.u8) 0, AV.int (IntKind.u8) 0, AV.int (IntKind.u8) 0, AV.int (IntKind.u8) 0, AV.int (IntKind.u8) 0, AV.int (IntKind.u8) 0, AV.int (IntKind.u8) 0, AV.int (IntKind.u8) 0, AV.int (IntKind.u8) 0, AV.int (IntKind.u8) 0, AV.int (IntKind.u8) 0, AV.int (IntKind.u8) 0, AV.int (IntKind.u8) 0, AV.int (IntKind.u8) 0, AV.int (IntKind.u8) 0, AV.int (IntKind.u8) 0, AV.int (IntKind.u8) 0, AV.int (IntKind.u8) 0, AV.int (IntKind.u8) 0, AV.int (IntKind.u8) 0, AV.int (IntKind.u8) 0, AV.int (IntKind.u8) 0, AV.int (IntKind.u8) 0, AV.int (IntKind.u8) 0, AV.int (IntKind.u8) 0, AV.int (IntKind.u8) 0, AV.int (IntKind.u8) 0, AV.int (IntKind.u8) 0, AV.int (IntKind.u8) 0, AV.int (IntKind.u8) 0, AV.int (IntKind.u8) 0, AV.int (IntKind.u8) 0, AV.int (IntKind.u8) 0, AV.int (IntKind.u8) 0, AV.int (IntKind.u8) 0, AV.int (IntKind.u8) 0, AV.int (IntKind.u8) 0, AV.int (IntKind.u8) 0, AV.int (IntKind.u8) 0, AV.int (IntKind.u8) 0, AV.int (IntKind.u8) 0, AV.int (IntKind.u8) 0, AV.int (IntKind.u8) 0, AV.int (IntKind.u8) 0])), guard := none }, act := false, id := 10, mask := 0 }, { toIOper := { dst := some 6, op := IOp.new 65 (IX.c (AV.agg [AV.int (IntKind.u64) 0, AV.int (IntKind.u64) 0, AV.int (IntKind.u8) 0, AV.int (IntKind.u8) 0, AV.int (IntKind.u8) 0, AV.int (IntKind.u8) 0, AV.int (IntKind.u8) 0, AV.int (IntKind.u8) 0, AV.int (IntKind.u8) 0, AV.int (IntKind.u8) 0, AV.int (IntKind.u8) 0, AV.int (IntKind.u8) 0, AV.int (IntKind.u8) 0, AV.int (IntKind.u8) 0, AV.int (IntKind.u8) 0, AV.int (IntKind.u8) 0, AV.int (IntKind.u8) 0, AV.int (IntKind.u8) 0, AV.int (IntKind.u8) 0, AV.int (IntKind.u8) 0, AV.int (IntKind.u8) 0, AV.int (IntKind.u8) 0, AV.int (IntKind.u8) 0, AV.int (IntKind.u8) 0, AV.int (IntKind.u8) 0, AV.int (IntKind.u8) 0, AV.int (IntKind.u8) 0, AV.int (IntKind.u8) 0, AV.int (IntKind.u8) 0, AV.int (IntKind.u8) 0, AV.int (IntKind.u8) 0, AV.int (IntKind.u8) 0, AV.int (IntKind.u8) 0, AV.int (IntKind.u8) 0, AV.int (IntKind.u8) 0, AV.int (IntKind.u8) 0, AV.int (IntKind.u8) 0, AV.int (IntKind.u8) 0, AV.int (IntKind.u8) 0, AV.int (IntKind.u8) 0, AV.int (IntKind.u8) 0, AV.int (IntKind.u8) 0, AV.int (IntKind.u8) 0, AV.int (IntKind.u8) 0, AV.int (IntKind.u8) 0, AV.int (IntKind.u8) 0, AV.int (IntKind.u8) 0, AV.int (IntKind.u8) 0, AV.int (IntKind.u8) 0, AV.int (IntKind.u8) 0, AV.int (IntKind.u8) 0, AV.int (IntKind.u8) 0, AV.int (IntKind.u8) 0, AV.int (IntKind.u8) 0, AV.int (IntKind.u8) 0, AV.int (IntKind.u8) 0, AV.int (IntKind.u8) 0, AV.int (IntKind.u8) 0, AV.int (IntKind.u8) 0, AV.int (IntKind.u8) 0, AV.int (IntKind.u8) 0, AV.int (IntKind.u8) 0, AV.int (IntKind.u8) 0, AV.int (IntKind.u8) 0, AV.int (IntKind.u8) 0, AV.int (IntKind.u8) 0, AV.int (IntKind.u8) 0, AV.int (IntKind.u8) 0, AV.int (IntKind.u8) 0, AV.int (IntKind.u8) 0, AV.int (IntKind.u8) 0, AV.int (IntKind.u8) 0, AV.int (IntKind.u8) 0, AV.int (IntKind.u8) 0, AV.int (IntKind.u8) 0, AV.int (IntKind.u8) 0, AV.int (IntKind.u8) 0, AV.int (IntKind.u8) 0, AV.int (IntKind.u8) 0, AV.int (IntKind.u8) 0, AV.int (IntKind.u8) 0, AV.int (IntKind.u8) 0, AV.int (IntKind.u8) 0, AV.int (IntKind.u8) 0, AV.int (IntKind.u8) 0, AV.int (IntKind.u8) 0, AV.int (IntKind.u8) 0, AV.int (IntKind.u8) 0, AV.int (IntKind.u8) 0, AV.int (IntKind.u8) 0, AV.int (IntKind.u8) 0, AV.int (IntKind.u8) 0, AV.int (IntKind.u8) 0, AV.int (IntKind.u8) 0, AV.int (IntKind.u8) 0, AV.int (IntKind.u8) 0, AV.int (IntKind.u8) 0, AV.int (IntKind.u8) 0])), guard := none }, act := false, id := 11, mask := 0 }, { toIOper := { dst := none, op := IOp.st 2 (IX.t 3) (IX.t 15), guard := none }, act := true, id := 12, mask := 3843 }, { toIOper := { dst := none, op := IOp.st 2 (IX.t 4) (IX.t 17), guard := none }, act := true, id := 13, mask := 7951 }, { toIOper := { dst := none, op := IOp.st 98 (IX.t 5) (IX.t 19), guard := none }, act := true, id := 14, mask := 16191 }, { toIOper := { dst := none, op := IOp.st 98 (IX.t 6) (IX.t 21), guard := none }, act := true, id := 15, mask := 32767 }]) (IC.seq (IC.region [{ dst := some 23, op := IOp.ld (some 2) (IX.t 3), guard := none }, { dst := some 24, op := IOp.call 38 [IX.t 23], guard := none }, { dst := some 22, op := IOp.mv (IX.t 24), guard := none }, { dst := some 25, op := IOp.ext (IX.t 22) 0, guard := none }, { dst := some 26, op := IOp.ext (IX.t 22) 1, guard := none }, { dst := some 7, op := IOp.mv (IX.t 25), guard := none }, { dst := some 8, op := IOp.mv (IX.t 26), guard := none }]) (IC.seq (IC.region [{ dst := some 28, op := IOp.ld (some 2) (IX.t 4), guard := none }, { dst := some 29, op := IOp.call 38 [IX.t 28], guard := none }, { dst := some 27, op := IOp.mv (IX.t 29), guard := none }, { dst := some 30, op := IOp.ext (IX.t 27) 0, guard := none }, { dst := some 31, op := IOp.ext (IX.t 27) 1, guard := none }, { dst := some 9, op := IOp.mv (IX.t 30), guard := none }, { dst := some 10, op := IOp.mv (IX.t 31), guard := none }]) (IC.seq (IC.seq (IC.draw [{ toIOper := { dst := some 32, op := IOp.mv (IX.t 8), guard := none }, act := false, id := 0, mask := 0 }, { toIOper := { dst := some 33, op := IOp.bin (BinOp.eql) (IX.t 32) (IX.c (AV.int (IntKind.i64) 0)), guard := none }, act := false, id := 1, mask := 1 }, { toIOper := { dst := some 34, op := IOp.mv (IX.t 33), guard := none }, act := false, id := 2, mask := 3 }, { toIOper := { dst := some 35, op := IOp.mv (IX.t 10), guard := some (34, true) }, act := false, id := 3, mask := 7 }, { toIOper := { dst := some 36, op := IOp.bin (BinOp.eql) (IX.t 35) (IX.c (AV.int (IntKind.i64) 0)), guard := some (34, true) }, act := false, id := 4, mask := 15 }, { toIOper := { dst := some 37, op := IOp.pick (IX.t 34) (IX.t 36) (IX.c (AV.bool false)), guard := none }, act := false, id := 5, mask := 31 }, { toIOper := { dst := some 38, op := IOp.mv (IX.t 37), guard := none }, act := false, id := 6, mask := 63 }, { toIOper := { dst := some 39, op := IOp.mv (IX.t 7), guard := some (38, true) }, act := false, id := 7, mask := 127 }, { toIOper := { dst := some 40, op := IOp.mv (IX.t 9), guard := some (38, true) }, act := false, id := 8, mask := 127 }, { toIOper := { dst := some 42, op := IOp.fa 0 (IX.t 3), guard := some (38, true) }, act := false, id := 10, mask := 127 }, { toIOper := { dst := some 43, op := IOp.ld none (IX.t 42), guard := some (38, true) }, act := false, id := 11, mask := 1151 }, { toIOper := { dst := some 44, op := IOp.fa 0 (IX.t 4), guard := some (38, true) }, act := false, id := 12, mask := 127 }, { toIOper := { dst := some 45, op := IOp.ld none (IX.t 44), guard := some (38, true) }, act := false, id := 13, mask := 4223 }, { toIOper := { dst := some 46, op := IOp.bin (BinOp.eql) (IX.t 43) (IX.t 45), guard := some (38, true) }, act := false, id := 14, mask := 15487 }, { toIOper := { dst := some 41, op := IOp.call 23 [IX.t 39, IX.t 40], guard := some (38, true) }, act := true, id := 9, mask := 511 }, { toIOper := { dst := some 47, op := IOp.mv (IX.t 46), guard := some (38, true) }, act := false, id := 15, mask := 32767 }, { toIOper := { dst := some 48, op := IOp.fa 1 (IX.t 3), guard := some (47, true) }, act := false, id := 16, mask := 65535 }, { toIOper := { dst := some 49, op := IOp.ld none (IX.t 48), guard := some (47, true) }, act := false, id := 17, mask := 131071 }, { toIOper := { dst := some 50, op := IOp.ia 1 (IX.t 49) (IX.c (AV.int (IntKind.i64) 0)), guard := some (47, true) }, act := false, id := 18, mask := 262143 }, { toIOper := { dst := some 51, op := IOp.ld none (IX.t 50), guard := some (47, true) }, act := false, id := 19, mask := 524287 }, { toIOper := { dst := some 52, op := IOp.fa 1 (IX.t 4), guard := some (47, true) }, act := false, id := 20, mask := 65535 }, { toIOper := { dst := some 53, op := IOp.ld none (IX.t 52), guard := some (47, true) }, act := false, id := 21, mask := 1114111 }, { toIOper := { dst := some 54, op := IOp.ia 1 (IX.t 53) (IX.c (AV.int (IntKind.i64) 0)), guard := some (47, true) }, act := false, id := 22, mask := 3211263 }, { toIOper := { dst := some 55, op := IOp.ld none (IX.t 54), guard := some (47, true) }, act := false, id := 23, mask := 7405567 }, { toIOper := { dst := some 56, op := IOp.call 23 [IX.t 51, IX.t 55], guard := some (47, true) }, act := true, id := 24, mask := 16777215 }, { toIOper := { dst := some 57, op := IOp.pick (IX.t 47) (IX.t 56) (IX.c (AV.bool false)), guard := some (38, true) }, act := false, id := 25, mask := 33554431 }, { toIOper := { dst := some 58, op := IOp.eq (EqD.bo) true false (IX.t 41) (IX.t 57), guard := some (38, true) }, act := false, id := 26, mask := 67108863 }, { toIOper := { dst := some 59, op := IOp.pick (IX.t 38) (IX.t 58) (IX.c (AV.bool false)), guard := none }, act := false, id := 27, mask := 134217727 }]) (IC.cond (IX.t 59) (IC.seq (IC.region [{ dst := some 2, op := IOp.mv (IX.c (AV.bool false)), guard := none }]) (IC.ret)) (IC.skip))) (IC.seq (IC.region [{ dst := some 61, op := IOp.ld (some 2) (IX.t 3), guard := none }, { dst := some 62, op := IOp.call 39 [IX.t 61], guard := none }, { dst := some 60, op := IOp.mv (IX.t 62), guard := none }, { dst := some 63, op := IOp.ext (IX.t 60) 0, guard := none }, { dst := some 64, op := IOp.ext (IX.t 60) 1, guard := none }, { dst := some 11, op := IOp.mv (IX.t 63), guard := none }, { dst := some 8, op := IOp.mv (IX.t 64), guard := none }]) (IC.seq (IC.draw [{ toIOper := { dst := some 65, op := IOp.ld (some 98) (IX.t 5), guard := none }, act := false, id := 0, mask := 0 }, { toIOper := { dst := some 67, op := IOp.ld (some 98) (IX.t 6), guard := none }, act := false, id := 2, mask := 0 }, { toIOper := { dst := some 66, op := IOp.call 36 [IX.t 65], guard := none }, act := true, id := 1, mask := 1 }, { toIOper := { dst := some 68, op := IOp.call 36 [IX.t 67], guard := none }, act := true, id := 3, mask := 7 }, { toIOper := { dst := some 12, op := IOp.mv (IX.t 66), guard := none }, act := false, id := 4, mask := 15 }, { toIOper := { dst := some 13, op := IOp.mv (IX.t 68), guard := none }, act := false, id := 5, mask := 31 }]) (IC.seq (IC.draw [{ toIOper := { dst := some 69, op := IOp.call 35 [], guard := none }, act := true, id := 0, mask := 0 }, { toIOper := { dst := some 70, op := IOp.mv (IX.t 69), guard := none }, act := false, id := 1, mask := 1 }, { toIOper := { dst := some 71, op := IOp.mv (IX.t 8), guard := some (70, true) }, act := false, id := 2, mask := 3 }, { toIOper := { dst := some 72, op := IOp.bin (BinOp.neq) (IX.t 71) (IX.c (AV.int (IntKind.i64) 0)), guard := some (70, true) }, act := false, id := 3, mask := 7 }, { toIOper := { dst := some 73, op := IOp.mv (IX.t 72), guard := some (70, true) }, act := false, id := 4, mask := 15 }, { toIOper := { dst := some 74, op := IOp.mv (IX.t 11), guard := some (73, false) }, act := false, id := 5, mask := 31 }, { toIOper := { dst := some 75, op := IOp.mv (IX.t 12), guard := some (73, false) }, act := false, id := 6, mask := 31 }, { toIOper := { dst := some 76, op := IOp.call 23 [IX.t 74, IX.t 75], guard := some (73, false) }, act := true, id := 7, mask := 127 }, { toIOper := { dst := some 77, op := IOp.un (UnOp.not) (IX.t 76), guard := some (73, false) }, act := false, id := 8, mask := 255 }, { toIOper := { dst := some 78, op := IOp.pick (IX.t 73) (IX.c (AV.bool true)) (IX.t 77), guard := some (70, true) }, act := false, id := 9, mask := 511 }, { toIOper := { dst := some 79, op := IOp.pick (IX.t 70) (IX.t 78) (IX.c (AV.bool false)), guard := none }, act := false, id := 10, mask := 1023 }, { toIOper := { dst := some 80, op := IOp.mv (IX.t 79), guard := none }, act := false, id := 11, mask := 2047 }, { toIOper := { dst := some 81, op := IOp.mv (IX.t 12), guard := some (80, true) }, act := false, id := 12, mask := 4095 }, { toIOper := { dst := some 82, op := IOp.mv (IX.t 13), guard := some (80, true) }, act := false, id := 13, mask := 4095 }, { toIOper := { dst := some 84, op := IOp.fa 0 (IX.t 5), guard := some (80, true) }, act := false, id := 15, mask := 4095 }, { toIOper := { dst := some 85, op := IOp.ld none (IX.t 84), guard := some (80, true) }, act := false, id := 16, mask := 36863 }, { toIOper := { dst := some 86, op := IOp.fa 0 (IX.t 6), guard := some (80, true) }, act := false, id := 17, mask := 4095 }, { toIOper := { dst := some 87, op := IOp.ld none (IX.t 86), guard := some (80, true) }, act := false, id := 18, mask := 135167 }, { toIOper := { dst := some 88, op := IOp.bin (BinOp.eql) (IX.t 85) (IX.t 87), guard := some (80, true) }, act := false, id := 19, mask := 495615 }, { toIOper := { dst := some 83, op := IOp.call 23 [IX.t 81, IX.t 82], guard := some (80, true) }, act := true, id := 14, mask := 16383 }, { toIOper := { dst := some 89, op := IOp.mv (IX.t 88), guard := some (80, true) }, act := false, id := 20, mask := 1048575 }, { toIOper := { dst := some 90, op := IOp.fa 1 (IX.t 5), guard := some (89, true) }, act := false, id := 21, mask := 2097151 }, { toIOper := { dst := some 91, op := IOp.ld none (IX.t 90), guard := some (89, true) }, act := false, id := 22, mask := 4194303 }, { toIOper := { dst := some 92, op := IOp.fa 1 (IX.t 6), guard := some (89, true) }, act := false, id := 23, mask := 2097151 }, { toIOper := { dst := some 93, op := IOp.ld none (IX.t 92), guard := some (89, true) }, act := false, id := 24, mask := 10485759 }, { toIOper := { dst := some 94, op := IOp.bin (BinOp.eql) (IX.t 91) (IX.t 93), guard := some (89, true) }, act := false, id := 25, mask := 33554431 }, { toIOper := { dst := some 95, op := IOp.pick (IX.t 89) (IX.t 94) (IX.c (AV.bool false)), guard := some (80, true) }, act := false, id := 26, mask := 67108863 }, { toIOper := { dst := some 96, op := IOp.mv (IX.t 95), guard := some (80, true) }, act := false, id := 27, mask := 134217727 }, { toIOper := { dst := some 97, op := IOp.fa 2 (IX.t 5), guard := some (96, true) }, act := false, id := 28, mask := 268435455 }, { toIOper := { dst := some 98, op := IOp.ld (some 32) (IX.t 97), guard := some (96, true) }, act := false, id := 29, mask := 536870911 }, { toIOper := { dst := some 99, op := IOp.fa 2 (IX.t 6), guard := some (96, true) }, act := false, id := 30, mask := 268435455 }, { toIOper := { dst := some 100, op := IOp.ld (some 32) (IX.t 99), guard := some (96, true) }, act := false, id := 31, mask := 1342177279 }, { toIOper := { dst := some 101, op := IOp.eq (EqD.arr 32 1 false (EqD.num)) false false (IX.t 98) (IX.t 100), guard := some (96, true) }, act := false, id := 32, mask := 4294967295 }, { toIOper := { dst := some 102, op := IOp.pick (IX.t 96) (IX.t 101) (IX.c (AV.bool false)), guard := some (80, true) }, act := false, id := 33, mask := 8589934591 }, { toIOper := { dst := some 103, op := IOp.eq (EqD.bo) false false (IX.t 83) (IX.t 102), guard := some (80, true) }, act := false, id := 34, mask := 17179869183 }, { toIOper := { dst := some 104, op := IOp.pick (IX.t 80) (IX.t 103) (IX.c (AV.bool false)), guard := none }, act := false, id := 35, mask := 34359738367 }, { toIOper := { dst := some 105, op := IOp.mv (IX.t 104), guard := none }, act := false, id := 36, mask := 68719476735 }, { toIOper := { dst := some 106, op := IOp.mv (IX.t 12), guard := some (105, true) }, act := false, id := 37, mask := 137438953471 }, { toIOper := { dst := some 107, op := IOp.len false (IX.t 106), guard := some (105, true) }, act := false, id := 38, mask := 274877906943 }, { toIOper := { dst := some 108, op := IOp.bin (BinOp.eql) (IX.t 107) (IX.c (AV.int (IntKind.i64) 50)), guard := some (105, true) }, act := false, id := 39, mask := 549755813887 }, { toIOper := { dst := some 109, op := IOp.pick (IX.t 105) (IX.t 108) (IX.c (AV.bool false)), guard := none }, act := false, id := 40, mask := 1099511627775 }, { toIOper := { dst := some 2, op := IOp.mv (IX.t 109), guard := none }, act := false, id := 41, mask := 2199023255551 }]) (IC.ret)))))))), known := false } 
theorem f9 : TF 9 = some ir9 := by kernel_rfl
end Go.Det

/- The law EntryOwn, walked. -/
set_option linter.unusedVariables false
set_option linter.unusedSimpArgs false
set_option linter.unusedSectionVars false
namespace Go.Det
open Go.Proofs
attribute [local irreducible] Wp Wo Wd iop ev slots quiets wanted put

theorem eqArr_bytes {r s : List UInt8} (hl : r.length = s.length) : ∀ (m i f : Nat), i + m = r.length → m + 2 ≤ f → eqArr f .num 1 false (bytesAV r) (bytesAV s) i m = some (decide (r.drop i = s.drop i))
  | 0, i, f, hi, hf => by
    obtain ⟨f, rfl⟩ : ∃ g, f = g + 1 := ⟨f - 1, by omega⟩
    have h1 : r.drop i = [] := List.drop_eq_nil_of_le (by omega)
    have h2 : s.drop i = [] := List.drop_eq_nil_of_le (by omega)
    simp [eqArr, h1, h2]
  | m + 1, i, f, hi, hf => by
    obtain ⟨f, rfl⟩ : ∃ g, f = g + 1 := ⟨f - 1, by omega⟩
    have i1 : i < r.length := by omega
    have i2 : i < s.length := by omega
    have p1 : Det.part (bytesAV r) (i * 1) none = some (.int .u8 (r[i]).toNat) := by simp [Det.part, get_byte, i1]
    have p2 : Det.part (bytesAV s) (i * 1) none = some (.int .u8 (s[i]).toNat) := by simp [Det.part, get_byte, i2]
    have d1 : r.drop i = r[i] :: r.drop (i + 1) := List.drop_eq_getElem_cons i1
    have d2 : s.drop i = s[i] :: s.drop (i + 1) := List.drop_eq_getElem_cons i2
    have ih := eqArr_bytes hl m (i + 1) f (by omega) (by omega)
    have hv : eqv f .num (.int .u8 (r[i]).toNat) (.int .u8 (s[i]).toNat) = some (((r[i]).toNat : Int) == ((s[i]).toNat : Int)) := by
      obtain ⟨g, rfl⟩ : ∃ g, f = g + 1 := ⟨f - 1, by omega⟩
      simp [eqv]
    rw [d1, d2]
    unfold eqArr
    simp only [Bool.false_eq_true, if_false, p1, p2, hv]
    by_cases he : r[i] = s[i]
    · have e1 : (((r[i]).toNat : Int) == ((s[i]).toNat : Int)) = true := by simp [he]
      rw [e1]
      simp only [ih, he, List.cons.injEq, true_and]
    · have e1 : (((r[i]).toNat : Int) == ((s[i]).toNat : Int)) = false := by
        simp only [beq_eq_false_iff_ne, ne_eq]
        exact fun e => he (UInt8.toNat.inj (by omega))
      rw [e1]
      simp only [List.cons.injEq, he, false_and, decide_false]
theorem eqv_arr {r s : List UInt8} (hr : r.length = 32) (hs : s.length = 32) : eqv 1000 (.arr 32 1 false .num) (.agg (bytesAV r)) (.agg (bytesAV s)) = some (decide (r = s)) := by
  have := eqArr_bytes (r := r) (s := s) (by omega) 32 0 999 (by omega) (by omega)
  simpa [eqv] using this
theorem Wd.eqArr {o : IOper} {id mask : Nat} {x y : IX} {l : List DOper} {ts : List AV} {h : H} {pe : Pend} {Q : List AV → H → Prop} {a b : List UInt8} (ho : o.op = .eq (.arr 32 1 false .num) false false x y) (hg : wanted o.guard ts = true) (hx : ev ts x = .agg (bytesAV a)) (hy : ev ts y = .agg (bytesAV b)) (ha : a.length = 32) (hb : b.length = 32)
    (h1 : a = b → Wd TF l (put ts o.dst (.bool true)) h pe Q) (h2 : a ≠ b → Wd TF l (put ts o.dst (.bool false)) h pe Q) : Wd TF (⟨o, false, id, mask⟩ :: l) ts h pe Q := by
  have hi : iop o.op (ev ts) h = some (.val (.bool (decide (a = b))) h) := by
    rw [ho]
    simp only [iop, hx, hy, eqv_arr ha hb, Option.map_some]
    cases decide (a = b) <;> rfl
  refine Wd.make _ _ hg (by rw [ho]; rfl) hi ?_
  by_cases hp : a = b
  · simp only [hp, decide_true]; exact h1 hp
  · simp only [hp, decide_false]; exact h2 hp

/-! Plain: what is signed. -/
theorem headB_len {t s : Nat} {r : List UInt8} (hr : r.length = 32) : (headB t s r).length = 50 := by simp [headB, digits_len, hr]
theorem digits_inj {n m : Nat} (hn : n < 2 ^ 64) (hm : m < 2 ^ 64) (h : digits n 8 8 = digits m 8 8) : n = m := by
  have e : (256 : Nat) ^ 8 = 2 ^ 64 := by decide
  have h1 := be_dig' (n := n) (s := 8) (by rw [e]; exact hn)
  have h2 := be_dig' (n := m) (s := 8) (by rw [e]; exact hm)
  rw [h, h2] at h1; exact h1.symm
theorem head_inj {t s t' s' : Nat} {r r' : List UInt8} (ht : t < 2 ^ 64) (ht' : t' < 2 ^ 64) (hs : s < 2 ^ 64) (hs' : s' < 2 ^ 64) (h : (headB t s r == headB t' s' r') = true) : (s : Int) = s' ∧ (t : Int) = t' ∧ r = r' := by
  have h := eq_of_beq h
  rw [headB, headB] at h
  simp only [List.append_assoc] at h
  have h1 := List.append_cancel_left h
  obtain ⟨a1, b1⟩ := List.append_inj h1 (by simp [digits_len])
  obtain ⟨a2, b2⟩ := List.append_inj b1 (by simp [digits_len])
  exact ⟨by rw [digits_inj hs hs' a2], by rw [digits_inj ht ht' a1], b2⟩
theorem head_eq {t s t' s' : Nat} {r r' : List UInt8} (h1 : (s : Int) = s') (h2 : (t : Int) = t') (h3 : r = r') : (headB t s r == headB t' s' r') = true := by
  obtain rfl : s = s' := by omega
  obtain rfl : t = t' := by omega
  subst h3; simp
theorem leaf_not {u t s : Nat} {xs : List (AV × List UInt8)} {r : List UInt8} (he : leafE xs = 0) (h : (leafX u xs == headB t s r) = true) : False := by
  have h := eq_of_beq h
  rw [leafX, if_pos (leafE_zero he), leafB, headB] at h
  simp at h
theorem leafB_inj {t t' : Nat} {c c' : List UInt8} (ht : t < 2 ^ 64) (ht' : t' < 2 ^ 64) (hc : c.length < 16777216) (hc' : c'.length < 16777216) (h : leafB t c = leafB t' c') : t = t' ∧ c = c' := by
  rw [leafB, leafB] at h
  simp only [List.append_assoc] at h
  have h1 := List.append_cancel_left h
  obtain ⟨a1, b1⟩ := List.append_inj h1 (by simp [digits_len])
  have h2 := List.append_cancel_left b1
  have d1 := dec3 hc [0, 0]
  have d2 := dec3 hc' [0, 0]
  have e : certB c ++ [0, 0] = certB c' ++ [0, 0] := by rw [certB, certB]; simpa using h2
  rw [e] at d1
  exact ⟨digits_inj ht ht' a1, by rw [← d1.2.1, d2.2.1]⟩
theorem leaf_inj {t t' : Nat} {xs ys : List (AV × List UInt8)} {p q : AV × List UInt8} (ht : t < 2 ^ 64) (ht' : t' < 2 ^ 64) (hx : mayE xs = true) (hy : mayE ys = true) (hp : xs[0]? = some p) (hq : ys[0]? = some q) (h : (leafX t xs == leafX t' ys) = true) : (t : Int) = t' ∧ p.2 = q.2 := by
  have h := eq_of_beq h
  rw [leafX, leafX, if_pos hx, if_pos hy] at h
  obtain ⟨p', g1, g2, g3, g4, _⟩ := mayE_first hx
  obtain ⟨q', k1, k2, k3, k4, _⟩ := mayE_first hy
  rw [hp] at g1; rw [hq] at k1
  cases g1; cases k1
  obtain ⟨e1, e2⟩ := leafB_inj ht ht' (by rw [g2]; omega) (by rw [k2]; omega) h
  exact ⟨by rw [e1], by rw [← g2, ← k2]; exact e2⟩
theorem leaf_same {t t' : Nat} {xs ys : List (AV × List UInt8)} {p q : AV × List UInt8} (hx : mayE xs = true) (hy : mayE ys = true) (hp : xs[0]? = some p) (hq : ys[0]? = some q) (h1 : (t : Int) = t') (h2 : p.2 = q.2) : (leafX t xs == leafX t' ys) = true := by
  obtain rfl : t = t' := by omega
  obtain ⟨p', g1, g2, _⟩ := mayE_first hx
  obtain ⟨q', k1, k2, _⟩ := mayE_first hy
  rw [hp] at g1; rw [hq] at k1
  cases g1; cases k1
  rw [leafX, leafX, if_pos hx, if_pos hy, g2, k2, h2]
  simp

def hcells (s t : Nat) (r : List UInt8) (g : List AV) : List AV := .int .u64 s :: .int .u64 t :: (bytesAV r ++ g)
def ownQ (k : Nat) : Ex → St → Prop := fun e s => (e = .normal ∨ e = .ret) ∧ ∃ v, retV s.2 s.1 [(k, none)] = some v ∧ v = .bool true
def ow3 : IC := sndS (sndS (sndS (sndS (sndS (sndS ir9.body)))))
def ow2 : IC := sndS (sndS (sndS (sndS ir9.body)))
def ow1 : IC := sndS (sndS ir9.body)

/-- A head's block is read. -/
theorem hd_ld {k : H} {b s t : Nat} {r : List UInt8} {g : List AV} (p : Pt k b (.cells 0 65 (hcells s t r g) 0 false)) (hr : r.length = 32) (hg : g.length = 64) :
    k.ldg ⟨b, 0, 0⟩ (some 98) = some (.agg (hcells s t r g)) ∧ k.ldg ⟨b, 0, 2⟩ (some 32) = some (.agg (bytesAV r)) ∧ k.ldg ⟨b, 0, 0⟩ none = some (.int .u64 s) ∧ k.ldg ⟨b, 0, 1⟩ none = some (.int .u64 t) := by
  have hb := bytes_len r
  have hl : (hcells s t r g).length = 98 := by simp [hcells, hb, hr, hg]
  have hrow : k.row ⟨b, 0, 0⟩ = some (hcells s t r g) ∧ k.row ⟨b, 0, 2⟩ = some (hcells s t r g) ∧ k.row ⟨b, 0, 1⟩ = some (hcells s t r g) := by
    simp [H.row, p.2]
  refine ⟨?_, ?_, ?_, ?_⟩
  · simp only [H.ldg, H.ldn, hrow.1, cut, List.drop_zero]
    rw [List.take_of_length_le (by omega), hl]; rfl
  · simp only [H.ldg, H.ldn, hrow.2.1, cut]
    have e : ((hcells s t r g).drop 2).take 32 = bytesAV r := by
      simp only [hcells, List.drop_succ_cons, List.drop_zero]
      rw [List.take_left' (by rw [hb, hr])]
    rw [e, hb, hr]; rfl
  · simp [H.ldg, H.ld, hrow.1, hcells, getL]
  · simp [H.ldg, H.ld, hrow.2.2, hcells, getL]

theorem Pt.ext' {h h' : H} {b : Nat} {B : Blk} (p : Pt h b B) (x : Ext h h') : Pt h' b B := ⟨Nat.lt_of_lt_of_le p.1 x.1, by rw [x.2 _ p.1]; exact p.2⟩

attribute [local irreducible] leafE leafX mayE headB
set_option maxHeartbeats 16000000 in
theorem own9_3 {h : H} {ts : List AV} {b5 b6 s5 t5 s6 t6 : Nat} {r5 r6 : List UInt8} {g5 g6 : List AV} {sv : AV} {u : Nat} {xs : List (AV × List UInt8)} (p5 : Pt h b5 (.cells 0 65 (hcells s5 t5 r5 g5) 0 false)) (p6 : Pt h b6 (.cells 0 65 (hcells s6 t6 r6 g6) 0 false)) (hr5 : r5.length = 32) (hr6 : r6.length = 32) (hg5 : g5.length = 64) (hg6 : g6.length = 64) (ho5 : ∀ x ∈ g5, x.one = true) (ho6 : ∀ x ∈ g6, x.one = true) (hs5 : s5 < 2 ^ 64) (ht5 : t5 < 2 ^ 64) (hs6 : s6 < 2 ^ 64) (ht6 : t6 < 2 ^ 64) (hsv : Bs h sv (leafX u xs)) (t0 : ts.length = 110) (q5 : getL ts 5 = some (.ptr ⟨b5, 0, 0⟩)) (q6 : getL ts 6 = some (.ptr ⟨b6, 0, 0⟩)) (q8 : getL ts 8 = some (.int .i64 (leafE xs))) (q11 : getL ts 11 = some sv) : Wp TF ow3 (ts, h) (ownQ 2) := by
  have hmx : 200000000000000 = maxRow := rfl
  obtain ⟨m, H1, c1, X1, o1⟩ := head_run ht5 hs5 hr5 hg5 ho5 h
  obtain ⟨n, H2, c2, X2, o2⟩ := head_run ht6 hs6 hr6 hg6 ho6 H1
  have l5 := (hd_ld p5 hr5 hg5).1
  have l6 := (hd_ld p6 hr6 hg6).1
  have l6' := (hd_ld (p6.ext' X1) hr6 hg6).1
  have P5 := (p5.ext' X1).ext' X2
  have P6 := (p6.ext' X1).ext' X2
  have a5 := (hd_ld P5 hr5 hg5).2.1
  have a6 := (hd_ld P6 hr6 hg6).2.1
  have z5 := (hd_ld P5 hr5 hg5).2.2.1
  have z6 := (hd_ld P6 hr6 hg6).2.2.1
  have y5 := (hd_ld P5 hr5 hg5).2.2.2
  have y6 := (hd_ld P6 hr6 hg6).2.2.2
  have hlen := headB_len (t := t5) (s := s5) hr5
  rw [laid_eq t0 [(5, .ptr ⟨b5, 0, 0⟩), (6, .ptr ⟨b6, 0, 0⟩), (8, .int .i64 (leafE xs)), (11, sv)] (by simp [q5, q6, q8, q11])]
  refine Wp.seq (Wp.draw ?_)
  refine Wd.read (.agg (hcells s5 t5 r5 g5)) (.ld (some 98) (.c (.ptr ⟨b5, 0, 0⟩))) (by kernel_rfl) (by kernel_rfl) (iop_ld (a := ⟨b5, 0, 0⟩) (by kernel_rfl) l5) ?_
  refine Wd.read (.agg (hcells s6 t6 r6 g6)) (.ld (some 98) (.c (.ptr ⟨b6, 0, 0⟩))) (by kernel_rfl) (by kernel_rfl) (iop_ld (a := ⟨b6, 0, 0⟩) (by kernel_rfl) l6) ?_
  refine Wd.call (by kernel_rfl) (by kernel_rfl) c1 (holds_of [(.ld (some 98) (.c (.ptr ⟨b6, 0, 0⟩)), .agg (hcells s6 t6 r6 g6), 2), (.ld (some 98) (.c (.ptr ⟨b5, 0, 0⟩)), .agg (hcells s5 t5 r5 g5), 0)] (by kernel_rfl) (holds_and (rd_ld l6) (holds_and (rd_ld l5) rfl))) ?_
  refine Wd.call (by kernel_rfl) (by kernel_rfl) c2 (holds_of [(.ld (some 98) (.c (.ptr ⟨b6, 0, 0⟩)), .agg (hcells s6 t6 r6 g6), 2)] (by kernel_rfl) (holds_and (rd_ld l6') rfl)) ?_
  refine Wd.pure (by kernel_rfl) (by kernel_rfl) ?_
  refine Wd.pure (by kernel_rfl) (by kernel_rfl) ?_
  refine Wd.done (holds_of [] (by kernel_rfl) rfl) ?_
  unfold ownQ
  have m1 := p5.1
  have m2 := p6.1
  have m3 := hsv.bq
  have k4 := hsv.parts
  have m5 := o1.bq
  have k6 := o1.parts
  have m7 := o2.bq
  have k8 := o2.parts
  have m9 := P5.1
  have m10 := P6.1
  have m11 := X1.1
  have m12 := X2.1
  refine Wp.seq ?_
  refine Wp.draw ?_
  have c13 := awake_run (H2)
  refine Wd.call (by kernel_rfl) (by kernel_rfl) c13 (holds_of [] (by kernel_rfl) rfl) ?_
  clear c13
  refine Wd.pure (by kernel_rfl) (by kernel_rfl) ?_
  refine Wd.pure (by kernel_rfl) (by kernel_rfl) ?_
  refine Wd.cmpN (op := .neq) (x := IX.t 71) (y := IX.c (AV.int IntKind.i64 0)) (k := IntKind.i64) (a := leafE xs) (b := 0) ((leafE xs : Int) = (0 : Int)) (by kernel_rfl) (by kernel_rfl) (by kernel_rfl) (by kernel_rfl) (by simp) (by kernel_rfl) (fun q14 => ?_) (fun q14 => ?_)
  · skip
    refine Wd.pure (by kernel_rfl) (by kernel_rfl) ?_
    refine Wd.pure (by kernel_rfl) (by kernel_rfl) ?_
    refine Wd.pure (by kernel_rfl) (by kernel_rfl) ?_
    have F15 := (hsv.fr (X1.fr.trans0 X2.fr) (.inr id))
    have F16 := (o1.fr X2.fr (.inr id))
    have c17 := equal_run F15 F16.bs
    refine Wd.call (by kernel_rfl) (by kernel_rfl) c17 (holds_of [] (by kernel_rfl) rfl) ?_
    clear c17
    refine Wd.boolS (fun q18 => ?_) (fun q18 => ?_)
    · exact (leaf_not (by with_reducible assumption) ‹(leafX _ _ == headB _ _ _) = true›).elim
    have m19 := F15.bq
    have k20 := F15.parts
    have m21 := F16.bq
    have k22 := F16.parts
    refine Wd.pure (by kernel_rfl) (by kernel_rfl) ?_
    refine Wd.pure (by kernel_rfl) (by kernel_rfl) ?_
    refine Wd.pure (by kernel_rfl) (by kernel_rfl) ?_
    refine Wd.pure (by kernel_rfl) (by kernel_rfl) ?_
    refine Wd.pure (by kernel_rfl) (by kernel_rfl) ?_
    refine Wd.pure (by kernel_rfl) (by kernel_rfl) ?_
    refine Wd.pure (by kernel_rfl) (by kernel_rfl) ?_
    refine Wd.read (AV.int IntKind.u64 ↑s5) (.ld (none) (.c (.ptr { b := b5, g := 0, o := 0 }))) (by kernel_rfl) (by kernel_rfl) (iop_ld (a := { b := b5, g := 0, o := 0 }) (by kernel_rfl) z5) ?_
    refine Wd.pure (by kernel_rfl) (by kernel_rfl) ?_
    refine Wd.read (AV.int IntKind.u64 ↑s6) (.ld (none) (.c (.ptr { b := b6, g := 0, o := 0 }))) (by kernel_rfl) (by kernel_rfl) (iop_ld (a := { b := b6, g := 0, o := 0 }) (by kernel_rfl) z6) ?_
    refine Wd.cmp (op := .eql) (x := IX.t 85) (y := IX.t 87) (k := IntKind.u64) (a := ↑s5) (b := ↑s6) ((↑s5 : Int) = (↑s6 : Int)) (by kernel_rfl) (by kernel_rfl) (by kernel_rfl) (by kernel_rfl) (by simp) (by kernel_rfl) (fun q23 => ?_) (fun q23 => ?_)
    · skip
      have c24 := equal_run F16.bs o2.bs
      refine Wd.call (by kernel_rfl) (by kernel_rfl) c24 (holds_of [(IOp.ld none (IX.c (AV.ptr { b := b6, g := 0, o := 0 })), AV.int IntKind.u64 ↑s6, 18), (IOp.ld none (IX.c (AV.ptr { b := b5, g := 0, o := 0 })), AV.int IntKind.u64 ↑s5, 16)] (by kernel_rfl) (holds_and (rd_ld z6) (holds_and (rd_ld z5) rfl))) ?_
      clear c24
      refine Wd.boolS (fun q25 => ?_) (fun q25 => ?_)
      · skip
        refine Wd.pure (by kernel_rfl) (by kernel_rfl) ?_
        refine Wd.pure (by kernel_rfl) (by kernel_rfl) ?_
        refine Wd.read (AV.int IntKind.u64 ↑t5) (.ld (none) (.c (.ptr { b := b5, g := 0, o := 1 }))) (by kernel_rfl) (by kernel_rfl) (iop_ld (a := { b := b5, g := 0, o := 1 }) (by kernel_rfl) y5) ?_
        refine Wd.pure (by kernel_rfl) (by kernel_rfl) ?_
        refine Wd.read (AV.int IntKind.u64 ↑t6) (.ld (none) (.c (.ptr { b := b6, g := 0, o := 1 }))) (by kernel_rfl) (by kernel_rfl) (iop_ld (a := { b := b6, g := 0, o := 1 }) (by kernel_rfl) y6) ?_
        refine Wd.cmp (op := .eql) (x := IX.t 91) (y := IX.t 93) (k := IntKind.u64) (a := ↑t5) (b := ↑t6) ((↑t5 : Int) = (↑t6 : Int)) (by kernel_rfl) (by kernel_rfl) (by kernel_rfl) (by kernel_rfl) (by simp) (by kernel_rfl) (fun q26 => ?_) (fun q26 => ?_)
        rotate_left
        · ((have hh := head_inj ht5 ht6 hs5 hs6 ‹(headB _ _ _ == headB _ _ _) = true›; exfalso; omega))
        refine Wd.pure (by kernel_rfl) (by kernel_rfl) ?_
        refine Wd.pure (by kernel_rfl) (by kernel_rfl) ?_
        refine Wd.pure (by kernel_rfl) (by kernel_rfl) ?_
        refine Wd.read (AV.agg (bytesAV r5)) (.ld (some 32) (.c (.ptr { b := b5, g := 0, o := 2 }))) (by kernel_rfl) (by kernel_rfl) (iop_ld (a := { b := b5, g := 0, o := 2 }) (by kernel_rfl) a5) ?_
        refine Wd.pure (by kernel_rfl) (by kernel_rfl) ?_
        refine Wd.read (AV.agg (bytesAV r6)) (.ld (some 32) (.c (.ptr { b := b6, g := 0, o := 2 }))) (by kernel_rfl) (by kernel_rfl) (iop_ld (a := { b := b6, g := 0, o := 2 }) (by kernel_rfl) a6) ?_
        refine Wd.eqArr (a := r5) (b := r6) rfl (by kernel_rfl) (by kernel_rfl) (by kernel_rfl) hr5 hr6 (fun qA => ?_) (fun qA => ?_)
        rotate_left
        · exact (‹r5 ≠ r6› (head_inj ht5 ht6 hs5 hs6 ‹(headB _ _ _ == headB _ _ _) = true›).2.2).elim
        refine Wd.pure (by kernel_rfl) (by kernel_rfl) ?_
        refine Wd.pure (by kernel_rfl) (by kernel_rfl) ?_
        refine Wd.pure (by kernel_rfl) (by kernel_rfl) ?_
        refine Wd.pure (by kernel_rfl) (by kernel_rfl) ?_
        refine Wd.pure (by kernel_rfl) (by kernel_rfl) ?_
        refine Wd.make (.int .i64 (List.length (headB t5 s5 r5) : Nat)) H2 (by kernel_rfl) (by kernel_rfl) (Bs.len F16.bs (by kernel_rfl)) ?_
        refine Wd.cmp (op := .eql) (x := IX.t 107) (y := IX.c (AV.int IntKind.i64 50)) (k := IntKind.i64) (a := ↑(headB t5 s5 r5).length) (b := 50) ((↑(headB t5 s5 r5).length : Int) = (50 : Int)) (by kernel_rfl) (by kernel_rfl) (by kernel_rfl) (by kernel_rfl) (by simp) (by kernel_rfl) (fun q27 => ?_) (fun q27 => ?_)
        rotate_left
        · (exfalso; omega)
        refine Wd.pure (by kernel_rfl) (by kernel_rfl) ?_
        refine Wd.pure (by kernel_rfl) (by kernel_rfl) ?_
        refine Wd.done (holds_of [(IOp.ld (some 32) (IX.c (AV.ptr { b := b6, g := 0, o := 2 })), AV.agg (bytesAV r6), 31), (IOp.ld (some 32) (IX.c (AV.ptr { b := b5, g := 0, o := 2 })), AV.agg (bytesAV r5), 29), (IOp.ld none (IX.c (AV.ptr { b := b6, g := 0, o := 1 })), AV.int IntKind.u64 ↑t6, 24), (IOp.ld none (IX.c (AV.ptr { b := b5, g := 0, o := 1 })), AV.int IntKind.u64 ↑t5, 22), (IOp.ld none (IX.c (AV.ptr { b := b6, g := 0, o := 0 })), AV.int IntKind.u64 ↑s6, 18), (IOp.ld none (IX.c (AV.ptr { b := b5, g := 0, o := 0 })), AV.int IntKind.u64 ↑s5, 16)] (by kernel_rfl) (holds_and (rd_ld a6) (holds_and (rd_ld a5) (holds_and (rd_ld y6) (holds_and (rd_ld y5) (holds_and (rd_ld z6) (holds_and (rd_ld z5) rfl))))))) ?_
        refine Wp.ret ?_
        refine ⟨.inr rfl, (AV.bool true), (ret_one (res_tmp (by kernel_rfl) res_nil)), ?_⟩
        dsimp only
      · skip
        refine Wd.pure (by kernel_rfl) (by kernel_rfl) ?_
        refine Wd.pure (by kernel_rfl) (by kernel_rfl) ?_
        refine Wd.read (AV.int IntKind.u64 ↑t5) (.ld (none) (.c (.ptr { b := b5, g := 0, o := 1 }))) (by kernel_rfl) (by kernel_rfl) (iop_ld (a := { b := b5, g := 0, o := 1 }) (by kernel_rfl) y5) ?_
        refine Wd.pure (by kernel_rfl) (by kernel_rfl) ?_
        refine Wd.read (AV.int IntKind.u64 ↑t6) (.ld (none) (.c (.ptr { b := b6, g := 0, o := 1 }))) (by kernel_rfl) (by kernel_rfl) (iop_ld (a := { b := b6, g := 0, o := 1 }) (by kernel_rfl) y6) ?_
        refine Wd.cmp (op := .eql) (x := IX.t 91) (y := IX.t 93) (k := IntKind.u64) (a := ↑t5) (b := ↑t6) ((↑t5 : Int) = (↑t6 : Int)) (by kernel_rfl) (by kernel_rfl) (by kernel_rfl) (by kernel_rfl) (by simp) (by kernel_rfl) (fun q28 => ?_) (fun q28 => ?_)
        · skip
          refine Wd.pure (by kernel_rfl) (by kernel_rfl) ?_
          refine Wd.pure (by kernel_rfl) (by kernel_rfl) ?_
          refine Wd.pure (by kernel_rfl) (by kernel_rfl) ?_
          refine Wd.read (AV.agg (bytesAV r5)) (.ld (some 32) (.c (.ptr { b := b5, g := 0, o := 2 }))) (by kernel_rfl) (by kernel_rfl) (iop_ld (a := { b := b5, g := 0, o := 2 }) (by kernel_rfl) a5) ?_
          refine Wd.pure (by kernel_rfl) (by kernel_rfl) ?_
          refine Wd.read (AV.agg (bytesAV r6)) (.ld (some 32) (.c (.ptr { b := b6, g := 0, o := 2 }))) (by kernel_rfl) (by kernel_rfl) (iop_ld (a := { b := b6, g := 0, o := 2 }) (by kernel_rfl) a6) ?_
          refine Wd.eqArr (a := r5) (b := r6) rfl (by kernel_rfl) (by kernel_rfl) (by kernel_rfl) hr5 hr6 (fun qA => ?_) (fun qA => ?_)
          · exact Bool.noConfusion (‹(headB _ _ _ == headB _ _ _) = false›.symm.trans (head_eq (by with_reducible assumption) (by with_reducible assumption) (by with_reducible assumption)))
          refine Wd.pure (by kernel_rfl) (by kernel_rfl) ?_
          refine Wd.pure (by kernel_rfl) (by kernel_rfl) ?_
          refine Wd.pure (by kernel_rfl) (by kernel_rfl) ?_
          refine Wd.pure (by kernel_rfl) (by kernel_rfl) ?_
          refine Wd.pure (by kernel_rfl) (by kernel_rfl) ?_
          refine Wd.make (.int .i64 (List.length (headB t5 s5 r5) : Nat)) H2 (by kernel_rfl) (by kernel_rfl) (Bs.len F16.bs (by kernel_rfl)) ?_
          refine Wd.cmp (op := .eql) (x := IX.t 107) (y := IX.c (AV.int IntKind.i64 50)) (k := IntKind.i64) (a := ↑(headB t5 s5 r5).length) (b := 50) ((↑(headB t5 s5 r5).length : Int) = (50 : Int)) (by kernel_rfl) (by kernel_rfl) (by kernel_rfl) (by kernel_rfl) (by simp) (by kernel_rfl) (fun q29 => ?_) (fun q29 => ?_)
          rotate_left
          · (exfalso; omega)
          refine Wd.pure (by kernel_rfl) (by kernel_rfl) ?_
          refine Wd.pure (by kernel_rfl) (by kernel_rfl) ?_
          refine Wd.done (holds_of [(IOp.ld (some 32) (IX.c (AV.ptr { b := b6, g := 0, o := 2 })), AV.agg (bytesAV r6), 31), (IOp.ld (some 32) (IX.c (AV.ptr { b := b5, g := 0, o := 2 })), AV.agg (bytesAV r5), 29), (IOp.ld none (IX.c (AV.ptr { b := b6, g := 0, o := 1 })), AV.int IntKind.u64 ↑t6, 24), (IOp.ld none (IX.c (AV.ptr { b := b5, g := 0, o := 1 })), AV.int IntKind.u64 ↑t5, 22), (IOp.ld none (IX.c (AV.ptr { b := b6, g := 0, o := 0 })), AV.int IntKind.u64 ↑s6, 18), (IOp.ld none (IX.c (AV.ptr { b := b5, g := 0, o := 0 })), AV.int IntKind.u64 ↑s5, 16)] (by kernel_rfl) (holds_and (rd_ld a6) (holds_and (rd_ld a5) (holds_and (rd_ld y6) (holds_and (rd_ld y5) (holds_and (rd_ld z6) (holds_and (rd_ld z5) rfl))))))) ?_
          refine Wp.ret ?_
          refine ⟨.inr rfl, (AV.bool true), (ret_one (res_tmp (by kernel_rfl) res_nil)), ?_⟩
          dsimp only
        · skip
          refine Wd.pure (by kernel_rfl) (by kernel_rfl) ?_
          refine Wd.pure (by kernel_rfl) (by kernel_rfl) ?_
          refine Wd.not (by kernel_rfl) rfl ?_
          refine Wd.not (by kernel_rfl) rfl ?_
          refine Wd.not (by kernel_rfl) rfl ?_
          refine Wd.not (by kernel_rfl) rfl ?_
          refine Wd.not (by kernel_rfl) rfl ?_
          refine Wd.pure (by kernel_rfl) (by kernel_rfl) ?_
          refine Wd.pure (by kernel_rfl) (by kernel_rfl) ?_
          refine Wd.pure (by kernel_rfl) (by kernel_rfl) ?_
          refine Wd.pure (by kernel_rfl) (by kernel_rfl) ?_
          refine Wd.pure (by kernel_rfl) (by kernel_rfl) ?_
          refine Wd.make (.int .i64 (List.length (headB t5 s5 r5) : Nat)) H2 (by kernel_rfl) (by kernel_rfl) (Bs.len F16.bs (by kernel_rfl)) ?_
          refine Wd.cmp (op := .eql) (x := IX.t 107) (y := IX.c (AV.int IntKind.i64 50)) (k := IntKind.i64) (a := ↑(headB t5 s5 r5).length) (b := 50) ((↑(headB t5 s5 r5).length : Int) = (50 : Int)) (by kernel_rfl) (by kernel_rfl) (by kernel_rfl) (by kernel_rfl) (by simp) (by kernel_rfl) (fun q30 => ?_) (fun q30 => ?_)
          rotate_left
          · (exfalso; omega)
          refine Wd.pure (by kernel_rfl) (by kernel_rfl) ?_
          refine Wd.pure (by kernel_rfl) (by kernel_rfl) ?_
          refine Wd.done (holds_of [(IOp.ld none (IX.c (AV.ptr { b := b6, g := 0, o := 1 })), AV.int IntKind.u64 ↑t6, 24), (IOp.ld none (IX.c (AV.ptr { b := b5, g := 0, o := 1 })), AV.int IntKind.u64 ↑t5, 22), (IOp.ld none (IX.c (AV.ptr { b := b6, g := 0, o := 0 })), AV.int IntKind.u64 ↑s6, 18), (IOp.ld none (IX.c (AV.ptr { b := b5, g := 0, o := 0 })), AV.int IntKind.u64 ↑s5, 16)] (by kernel_rfl) (holds_and (rd_ld y6) (holds_and (rd_ld y5) (holds_and (rd_ld z6) (holds_and (rd_ld z5) rfl))))) ?_
          refine Wp.ret ?_
          refine ⟨.inr rfl, (AV.bool true), (ret_one (res_tmp (by kernel_rfl) res_nil)), ?_⟩
          dsimp only
    · skip
      have c31 := equal_run F16.bs o2.bs
      refine Wd.call (by kernel_rfl) (by kernel_rfl) c31 (holds_of [(IOp.ld none (IX.c (AV.ptr { b := b6, g := 0, o := 0 })), AV.int IntKind.u64 ↑s6, 18), (IOp.ld none (IX.c (AV.ptr { b := b5, g := 0, o := 0 })), AV.int IntKind.u64 ↑s5, 16)] (by kernel_rfl) (holds_and (rd_ld z6) (holds_and (rd_ld z5) rfl))) ?_
      clear c31
      refine Wd.boolS (fun q32 => ?_) (fun q32 => ?_)
      · ((have hh := head_inj ht5 ht6 hs5 hs6 ‹(headB _ _ _ == headB _ _ _) = true›; exfalso; omega))
      refine Wd.pure (by kernel_rfl) (by kernel_rfl) ?_
      refine Wd.not (by kernel_rfl) rfl ?_
      refine Wd.not (by kernel_rfl) rfl ?_
      refine Wd.not (by kernel_rfl) rfl ?_
      refine Wd.not (by kernel_rfl) rfl ?_
      refine Wd.not (by kernel_rfl) rfl ?_
      refine Wd.pure (by kernel_rfl) (by kernel_rfl) ?_
      refine Wd.pure (by kernel_rfl) (by kernel_rfl) ?_
      refine Wd.not (by kernel_rfl) rfl ?_
      refine Wd.not (by kernel_rfl) rfl ?_
      refine Wd.not (by kernel_rfl) rfl ?_
      refine Wd.not (by kernel_rfl) rfl ?_
      refine Wd.not (by kernel_rfl) rfl ?_
      refine Wd.pure (by kernel_rfl) (by kernel_rfl) ?_
      refine Wd.pure (by kernel_rfl) (by kernel_rfl) ?_
      refine Wd.pure (by kernel_rfl) (by kernel_rfl) ?_
      refine Wd.pure (by kernel_rfl) (by kernel_rfl) ?_
      refine Wd.pure (by kernel_rfl) (by kernel_rfl) ?_
      refine Wd.make (.int .i64 (List.length (headB t5 s5 r5) : Nat)) H2 (by kernel_rfl) (by kernel_rfl) (Bs.len F16.bs (by kernel_rfl)) ?_
      refine Wd.cmp (op := .eql) (x := IX.t 107) (y := IX.c (AV.int IntKind.i64 50)) (k := IntKind.i64) (a := ↑(headB t5 s5 r5).length) (b := 50) ((↑(headB t5 s5 r5).length : Int) = (50 : Int)) (by kernel_rfl) (by kernel_rfl) (by kernel_rfl) (by kernel_rfl) (by simp) (by kernel_rfl) (fun q33 => ?_) (fun q33 => ?_)
      rotate_left
      · (exfalso; omega)
      refine Wd.pure (by kernel_rfl) (by kernel_rfl) ?_
      refine Wd.pure (by kernel_rfl) (by kernel_rfl) ?_
      refine Wd.done (holds_of [(IOp.ld none (IX.c (AV.ptr { b := b6, g := 0, o := 0 })), AV.int IntKind.u64 ↑s6, 18), (IOp.ld none (IX.c (AV.ptr { b := b5, g := 0, o := 0 })), AV.int IntKind.u64 ↑s5, 16)] (by kernel_rfl) (holds_and (rd_ld z6) (holds_and (rd_ld z5) rfl))) ?_
      refine Wp.ret ?_
      refine ⟨.inr rfl, (AV.bool true), (ret_one (res_tmp (by kernel_rfl) res_nil)), ?_⟩
      dsimp only
  · skip
    refine Wd.pure (by kernel_rfl) (by kernel_rfl) ?_
    refine Wd.not (by kernel_rfl) rfl ?_
    refine Wd.not (by kernel_rfl) rfl ?_
    refine Wd.actNot (by kernel_rfl) (holds_of [] (by kernel_rfl) rfl) ?_
    refine Wd.not (by kernel_rfl) rfl ?_
    refine Wd.pure (by kernel_rfl) (by kernel_rfl) ?_
    refine Wd.pure (by kernel_rfl) (by kernel_rfl) ?_
    refine Wd.pure (by kernel_rfl) (by kernel_rfl) ?_
    refine Wd.pure (by kernel_rfl) (by kernel_rfl) ?_
    refine Wd.pure (by kernel_rfl) (by kernel_rfl) ?_
    refine Wd.pure (by kernel_rfl) (by kernel_rfl) ?_
    refine Wd.read (AV.int IntKind.u64 ↑s5) (.ld (none) (.c (.ptr { b := b5, g := 0, o := 0 }))) (by kernel_rfl) (by kernel_rfl) (iop_ld (a := { b := b5, g := 0, o := 0 }) (by kernel_rfl) z5) ?_
    refine Wd.pure (by kernel_rfl) (by kernel_rfl) ?_
    refine Wd.read (AV.int IntKind.u64 ↑s6) (.ld (none) (.c (.ptr { b := b6, g := 0, o := 0 }))) (by kernel_rfl) (by kernel_rfl) (iop_ld (a := { b := b6, g := 0, o := 0 }) (by kernel_rfl) z6) ?_
    refine Wd.cmp (op := .eql) (x := IX.t 85) (y := IX.t 87) (k := IntKind.u64) (a := ↑s5) (b := ↑s6) ((↑s5 : Int) = (↑s6 : Int)) (by kernel_rfl) (by kernel_rfl) (by kernel_rfl) (by kernel_rfl) (by simp) (by kernel_rfl) (fun q34 => ?_) (fun q34 => ?_)
    · skip
      have F35 := (o1.fr X2.fr (.inr id))
      have c36 := equal_run F35.bs o2.bs
      refine Wd.call (by kernel_rfl) (by kernel_rfl) c36 (holds_of [(IOp.ld none (IX.c (AV.ptr { b := b6, g := 0, o := 0 })), AV.int IntKind.u64 ↑s6, 18), (IOp.ld none (IX.c (AV.ptr { b := b5, g := 0, o := 0 })), AV.int IntKind.u64 ↑s5, 16)] (by kernel_rfl) (holds_and (rd_ld z6) (holds_and (rd_ld z5) rfl))) ?_
      clear c36
      refine Wd.boolS (fun q37 => ?_) (fun q37 => ?_)
      · skip
        have m38 := F35.bq
        have k39 := F35.parts
        refine Wd.pure (by kernel_rfl) (by kernel_rfl) ?_
        refine Wd.pure (by kernel_rfl) (by kernel_rfl) ?_
        refine Wd.read (AV.int IntKind.u64 ↑t5) (.ld (none) (.c (.ptr { b := b5, g := 0, o := 1 }))) (by kernel_rfl) (by kernel_rfl) (iop_ld (a := { b := b5, g := 0, o := 1 }) (by kernel_rfl) y5) ?_
        refine Wd.pure (by kernel_rfl) (by kernel_rfl) ?_
        refine Wd.read (AV.int IntKind.u64 ↑t6) (.ld (none) (.c (.ptr { b := b6, g := 0, o := 1 }))) (by kernel_rfl) (by kernel_rfl) (iop_ld (a := { b := b6, g := 0, o := 1 }) (by kernel_rfl) y6) ?_
        refine Wd.cmp (op := .eql) (x := IX.t 91) (y := IX.t 93) (k := IntKind.u64) (a := ↑t5) (b := ↑t6) ((↑t5 : Int) = (↑t6 : Int)) (by kernel_rfl) (by kernel_rfl) (by kernel_rfl) (by kernel_rfl) (by simp) (by kernel_rfl) (fun q40 => ?_) (fun q40 => ?_)
        rotate_left
        · ((have hh := head_inj ht5 ht6 hs5 hs6 ‹(headB _ _ _ == headB _ _ _) = true›; exfalso; omega))
        refine Wd.pure (by kernel_rfl) (by kernel_rfl) ?_
        refine Wd.pure (by kernel_rfl) (by kernel_rfl) ?_
        refine Wd.pure (by kernel_rfl) (by kernel_rfl) ?_
        refine Wd.read (AV.agg (bytesAV r5)) (.ld (some 32) (.c (.ptr { b := b5, g := 0, o := 2 }))) (by kernel_rfl) (by kernel_rfl) (iop_ld (a := { b := b5, g := 0, o := 2 }) (by kernel_rfl) a5) ?_
        refine Wd.pure (by kernel_rfl) (by kernel_rfl) ?_
        refine Wd.read (AV.agg (bytesAV r6)) (.ld (some 32) (.c (.ptr { b := b6, g := 0, o := 2 }))) (by kernel_rfl) (by kernel_rfl) (iop_ld (a := { b := b6, g := 0, o := 2 }) (by kernel_rfl) a6) ?_
        refine Wd.eqArr (a := r5) (b := r6) rfl (by kernel_rfl) (by kernel_rfl) (by kernel_rfl) hr5 hr6 (fun qA => ?_) (fun qA => ?_)
        rotate_left
        · exact (‹r5 ≠ r6› (head_inj ht5 ht6 hs5 hs6 ‹(headB _ _ _ == headB _ _ _) = true›).2.2).elim
        refine Wd.pure (by kernel_rfl) (by kernel_rfl) ?_
        refine Wd.pure (by kernel_rfl) (by kernel_rfl) ?_
        refine Wd.pure (by kernel_rfl) (by kernel_rfl) ?_
        refine Wd.pure (by kernel_rfl) (by kernel_rfl) ?_
        refine Wd.pure (by kernel_rfl) (by kernel_rfl) ?_
        refine Wd.make (.int .i64 (List.length (headB t5 s5 r5) : Nat)) H2 (by kernel_rfl) (by kernel_rfl) (Bs.len F35.bs (by kernel_rfl)) ?_
        refine Wd.cmp (op := .eql) (x := IX.t 107) (y := IX.c (AV.int IntKind.i64 50)) (k := IntKind.i64) (a := ↑(headB t5 s5 r5).length) (b := 50) ((↑(headB t5 s5 r5).length : Int) = (50 : Int)) (by kernel_rfl) (by kernel_rfl) (by kernel_rfl) (by kernel_rfl) (by simp) (by kernel_rfl) (fun q41 => ?_) (fun q41 => ?_)
        rotate_left
        · (exfalso; omega)
        refine Wd.pure (by kernel_rfl) (by kernel_rfl) ?_
        refine Wd.pure (by kernel_rfl) (by kernel_rfl) ?_
        refine Wd.done (holds_of [(IOp.ld (some 32) (IX.c (AV.ptr { b := b6, g := 0, o := 2 })), AV.agg (bytesAV r6), 31), (IOp.ld (some 32) (IX.c (AV.ptr { b := b5, g := 0, o := 2 })), AV.agg (bytesAV r5), 29), (IOp.ld none (IX.c (AV.ptr { b := b6, g := 0, o := 1 })), AV.int IntKind.u64 ↑t6, 24), (IOp.ld none (IX.c (AV.ptr { b := b5, g := 0, o := 1 })), AV.int IntKind.u64 ↑t5, 22), (IOp.ld none (IX.c (AV.ptr { b := b6, g := 0, o := 0 })), AV.int IntKind.u64 ↑s6, 18), (IOp.ld none (IX.c (AV.ptr { b := b5, g := 0, o := 0 })), AV.int IntKind.u64 ↑s5, 16)] (by kernel_rfl) (holds_and (rd_ld a6) (holds_and (rd_ld a5) (holds_and (rd_ld y6) (holds_and (rd_ld y5) (holds_and (rd_ld z6) (holds_and (rd_ld z5) rfl))))))) ?_
        refine Wp.ret ?_
        refine ⟨.inr rfl, (AV.bool true), (ret_one (res_tmp (by kernel_rfl) res_nil)), ?_⟩
        dsimp only
      · skip
        have m42 := F35.bq
        have k43 := F35.parts
        refine Wd.pure (by kernel_rfl) (by kernel_rfl) ?_
        refine Wd.pure (by kernel_rfl) (by kernel_rfl) ?_
        refine Wd.read (AV.int IntKind.u64 ↑t5) (.ld (none) (.c (.ptr { b := b5, g := 0, o := 1 }))) (by kernel_rfl) (by kernel_rfl) (iop_ld (a := { b := b5, g := 0, o := 1 }) (by kernel_rfl) y5) ?_
        refine Wd.pure (by kernel_rfl) (by kernel_rfl) ?_
        refine Wd.read (AV.int IntKind.u64 ↑t6) (.ld (none) (.c (.ptr { b := b6, g := 0, o := 1 }))) (by kernel_rfl) (by kernel_rfl) (iop_ld (a := { b := b6, g := 0, o := 1 }) (by kernel_rfl) y6) ?_
        refine Wd.cmp (op := .eql) (x := IX.t 91) (y := IX.t 93) (k := IntKind.u64) (a := ↑t5) (b := ↑t6) ((↑t5 : Int) = (↑t6 : Int)) (by kernel_rfl) (by kernel_rfl) (by kernel_rfl) (by kernel_rfl) (by simp) (by kernel_rfl) (fun q44 => ?_) (fun q44 => ?_)
        · skip
          refine Wd.pure (by kernel_rfl) (by kernel_rfl) ?_
          refine Wd.pure (by kernel_rfl) (by kernel_rfl) ?_
          refine Wd.pure (by kernel_rfl) (by kernel_rfl) ?_
          refine Wd.read (AV.agg (bytesAV r5)) (.ld (some 32) (.c (.ptr { b := b5, g := 0, o := 2 }))) (by kernel_rfl) (by kernel_rfl) (iop_ld (a := { b := b5, g := 0, o := 2 }) (by kernel_rfl) a5) ?_
          refine Wd.pure (by kernel_rfl) (by kernel_rfl) ?_
          refine Wd.read (AV.agg (bytesAV r6)) (.ld (some 32) (.c (.ptr { b := b6, g := 0, o := 2 }))) (by kernel_rfl) (by kernel_rfl) (iop_ld (a := { b := b6, g := 0, o := 2 }) (by kernel_rfl) a6) ?_
          refine Wd.eqArr (a := r5) (b := r6) rfl (by kernel_rfl) (by kernel_rfl) (by kernel_rfl) hr5 hr6 (fun qA => ?_) (fun qA => ?_)
          · exact Bool.noConfusion (‹(headB _ _ _ == headB _ _ _) = false›.symm.trans (head_eq (by with_reducible assumption) (by with_reducible assumption) (by with_reducible assumption)))
          refine Wd.pure (by kernel_rfl) (by kernel_rfl) ?_
          refine Wd.pure (by kernel_rfl) (by kernel_rfl) ?_
          refine Wd.pure (by kernel_rfl) (by kernel_rfl) ?_
          refine Wd.pure (by kernel_rfl) (by kernel_rfl) ?_
          refine Wd.pure (by kernel_rfl) (by kernel_rfl) ?_
          refine Wd.make (.int .i64 (List.length (headB t5 s5 r5) : Nat)) H2 (by kernel_rfl) (by kernel_rfl) (Bs.len F35.bs (by kernel_rfl)) ?_
          refine Wd.cmp (op := .eql) (x := IX.t 107) (y := IX.c (AV.int IntKind.i64 50)) (k := IntKind.i64) (a := ↑(headB t5 s5 r5).length) (b := 50) ((↑(headB t5 s5 r5).length : Int) = (50 : Int)) (by kernel_rfl) (by kernel_rfl) (by kernel_rfl) (by kernel_rfl) (by simp) (by kernel_rfl) (fun q45 => ?_) (fun q45 => ?_)
          rotate_left
          · (exfalso; omega)
          refine Wd.pure (by kernel_rfl) (by kernel_rfl) ?_
          refine Wd.pure (by kernel_rfl) (by kernel_rfl) ?_
          refine Wd.done (holds_of [(IOp.ld (some 32) (IX.c (AV.ptr { b := b6, g := 0, o := 2 })), AV.agg (bytesAV r6), 31), (IOp.ld (some 32) (IX.c (AV.ptr { b := b5, g := 0, o := 2 })), AV.agg (bytesAV r5), 29), (IOp.ld none (IX.c (AV.ptr { b := b6, g := 0, o := 1 })), AV.int IntKind.u64 ↑t6, 24), (IOp.ld none (IX.c (AV.ptr { b := b5, g := 0, o := 1 })), AV.int IntKind.u64 ↑t5, 22), (IOp.ld none (IX.c (AV.ptr { b := b6, g := 0, o := 0 })), AV.int IntKind.u64 ↑s6, 18), (IOp.ld none (IX.c (AV.ptr { b := b5, g := 0, o := 0 })), AV.int IntKind.u64 ↑s5, 16)] (by kernel_rfl) (holds_and (rd_ld a6) (holds_and (rd_ld a5) (holds_and (rd_ld y6) (holds_and (rd_ld y5) (holds_and (rd_ld z6) (holds_and (rd_ld z5) rfl))))))) ?_
          refine Wp.ret ?_
          refine ⟨.inr rfl, (AV.bool true), (ret_one (res_tmp (by kernel_rfl) res_nil)), ?_⟩
          dsimp only
        · skip
          refine Wd.pure (by kernel_rfl) (by kernel_rfl) ?_
          refine Wd.pure (by kernel_rfl) (by kernel_rfl) ?_
          refine Wd.not (by kernel_rfl) rfl ?_
          refine Wd.not (by kernel_rfl) rfl ?_
          refine Wd.not (by kernel_rfl) rfl ?_
          refine Wd.not (by kernel_rfl) rfl ?_
          refine Wd.not (by kernel_rfl) rfl ?_
          refine Wd.pure (by kernel_rfl) (by kernel_rfl) ?_
          refine Wd.pure (by kernel_rfl) (by kernel_rfl) ?_
          refine Wd.pure (by kernel_rfl) (by kernel_rfl) ?_
          refine Wd.pure (by kernel_rfl) (by kernel_rfl) ?_
          refine Wd.pure (by kernel_rfl) (by kernel_rfl) ?_
          refine Wd.make (.int .i64 (List.length (headB t5 s5 r5) : Nat)) H2 (by kernel_rfl) (by kernel_rfl) (Bs.len F35.bs (by kernel_rfl)) ?_
          refine Wd.cmp (op := .eql) (x := IX.t 107) (y := IX.c (AV.int IntKind.i64 50)) (k := IntKind.i64) (a := ↑(headB t5 s5 r5).length) (b := 50) ((↑(headB t5 s5 r5).length : Int) = (50 : Int)) (by kernel_rfl) (by kernel_rfl) (by kernel_rfl) (by kernel_rfl) (by simp) (by kernel_rfl) (fun q46 => ?_) (fun q46 => ?_)
          rotate_left
          · (exfalso; omega)
          refine Wd.pure (by kernel_rfl) (by kernel_rfl) ?_
          refine Wd.pure (by kernel_rfl) (by kernel_rfl) ?_
          refine Wd.done (holds_of [(IOp.ld none (IX.c (AV.ptr { b := b6, g := 0, o := 1 })), AV.int IntKind.u64 ↑t6, 24), (IOp.ld none (IX.c (AV.ptr { b := b5, g := 0, o := 1 })), AV.int IntKind.u64 ↑t5, 22), (IOp.ld none (IX.c (AV.ptr { b := b6, g := 0, o := 0 })), AV.int IntKind.u64 ↑s6, 18), (IOp.ld none (IX.c (AV.ptr { b := b5, g := 0, o := 0 })), AV.int IntKind.u64 ↑s5, 16)] (by kernel_rfl) (holds_and (rd_ld y6) (holds_and (rd_ld y5) (holds_and (rd_ld z6) (holds_and (rd_ld z5) rfl))))) ?_
          refine Wp.ret ?_
          refine ⟨.inr rfl, (AV.bool true), (ret_one (res_tmp (by kernel_rfl) res_nil)), ?_⟩
          dsimp only
    · skip
      have F47 := (o1.fr X2.fr (.inr id))
      have c48 := equal_run F47.bs o2.bs
      refine Wd.call (by kernel_rfl) (by kernel_rfl) c48 (holds_of [(IOp.ld none (IX.c (AV.ptr { b := b6, g := 0, o := 0 })), AV.int IntKind.u64 ↑s6, 18), (IOp.ld none (IX.c (AV.ptr { b := b5, g := 0, o := 0 })), AV.int IntKind.u64 ↑s5, 16)] (by kernel_rfl) (holds_and (rd_ld z6) (holds_and (rd_ld z5) rfl))) ?_
      clear c48
      refine Wd.boolS (fun q49 => ?_) (fun q49 => ?_)
      · ((have hh := head_inj ht5 ht6 hs5 hs6 ‹(headB _ _ _ == headB _ _ _) = true›; exfalso; omega))
      have m50 := F47.bq
      have k51 := F47.parts
      refine Wd.pure (by kernel_rfl) (by kernel_rfl) ?_
      refine Wd.not (by kernel_rfl) rfl ?_
      refine Wd.not (by kernel_rfl) rfl ?_
      refine Wd.not (by kernel_rfl) rfl ?_
      refine Wd.not (by kernel_rfl) rfl ?_
      refine Wd.not (by kernel_rfl) rfl ?_
      refine Wd.pure (by kernel_rfl) (by kernel_rfl) ?_
      refine Wd.pure (by kernel_rfl) (by kernel_rfl) ?_
      refine Wd.not (by kernel_rfl) rfl ?_
      refine Wd.not (by kernel_rfl) rfl ?_
      refine Wd.not (by kernel_rfl) rfl ?_
      refine Wd.not (by kernel_rfl) rfl ?_
      refine Wd.not (by kernel_rfl) rfl ?_
      refine Wd.pure (by kernel_rfl) (by kernel_rfl) ?_
      refine Wd.pure (by kernel_rfl) (by kernel_rfl) ?_
      refine Wd.pure (by kernel_rfl) (by kernel_rfl) ?_
      refine Wd.pure (by kernel_rfl) (by kernel_rfl) ?_
      refine Wd.pure (by kernel_rfl) (by kernel_rfl) ?_
      refine Wd.make (.int .i64 (List.length (headB t5 s5 r5) : Nat)) H2 (by kernel_rfl) (by kernel_rfl) (Bs.len F47.bs (by kernel_rfl)) ?_
      refine Wd.cmp (op := .eql) (x := IX.t 107) (y := IX.c (AV.int IntKind.i64 50)) (k := IntKind.i64) (a := ↑(headB t5 s5 r5).length) (b := 50) ((↑(headB t5 s5 r5).length : Int) = (50 : Int)) (by kernel_rfl) (by kernel_rfl) (by kernel_rfl) (by kernel_rfl) (by simp) (by kernel_rfl) (fun q52 => ?_) (fun q52 => ?_)
      rotate_left
      · (exfalso; omega)
      refine Wd.pure (by kernel_rfl) (by kernel_rfl) ?_
      refine Wd.pure (by kernel_rfl) (by kernel_rfl) ?_
      refine Wd.done (holds_of [(IOp.ld none (IX.c (AV.ptr { b := b6, g := 0, o := 0 })), AV.int IntKind.u64 ↑s6, 18), (IOp.ld none (IX.c (AV.ptr { b := b5, g := 0, o := 0 })), AV.int IntKind.u64 ↑s5, 16)] (by kernel_rfl) (holds_and (rd_ld z6) (holds_and (rd_ld z5) rfl))) ?_
      refine Wp.ret ?_
      refine ⟨.inr rfl, (AV.bool true), (ret_one (res_tmp (by kernel_rfl) res_nil)), ?_⟩
      dsimp only

set_option maxHeartbeats 16000000 in
theorem own9_2 {h : H} {ts : List AV} {b5 b6 s5 t5 s6 t6 : Nat} {r5 r6 : List UInt8} {g5 g6 : List AV} {b3 b4 ta tb : Nat} {za zb va vb : AV} {xa xb : List (AV × List UInt8)} (p3 : Pt h b3 (.cells 0 70 [.int .u64 ta, za] 0 false)) (p4 : Pt h b4 (.cells 0 70 [.int .u64 tb, zb] 0 false)) (p5 : Pt h b5 (.cells 0 65 (hcells s5 t5 r5 g5) 0 false)) (p6 : Pt h b6 (.cells 0 65 (hcells s6 t6 r6 g6) 0 false)) (hr5 : r5.length = 32) (hr6 : r6.length = 32) (hg5 : g5.length = 64) (hg6 : g6.length = 64) (ho5 : ∀ x ∈ g5, x.one = true) (ho6 : ∀ x ∈ g6, x.one = true) (hs5 : s5 < 2 ^ 64) (ht5 : t5 < 2 ^ 64) (hs6 : s6 < 2 ^ 64) (ht6 : t6 < 2 ^ 64) (ca : Ch h za xa) (cb : Ch h zb xb) (la : xa.length < 2 ^ 62) (lb : xb.length < 2 ^ 62) (ha : ta < 2 ^ 64) (hb : tb < 2 ^ 64) (oa : Bs h va (leafX ta xa)) (ob : Bs h vb (leafX tb xb)) (t0 : ts.length = 110) (q3 : getL ts 3 = some (.ptr ⟨b3, 0, 0⟩)) (q4 : getL ts 4 = some (.ptr ⟨b4, 0, 0⟩)) (q5 : getL ts 5 = some (.ptr ⟨b5, 0, 0⟩)) (q6 : getL ts 6 = some (.ptr ⟨b6, 0, 0⟩)) (q7 : getL ts 7 = some va) (q8 : getL ts 8 = some (.int .i64 (leafE xa))) (q9 : getL ts 9 = some vb) (q10 : getL ts 10 = some (.int .i64 (leafE xb))) : Wp TF ow2 (ts, h) (ownQ 2) := by
  have hmx : 200000000000000 = maxRow := rfl
  by_cases hE : mayE xa = true ∧ mayE xb = true
  · obtain ⟨⟨pv, pl⟩, ga, _⟩ := mayE_first hE.1
    obtain ⟨⟨qv, ql⟩, gb, _⟩ := mayE_first hE.2
    have n1 := (List.getElem?_eq_some_iff.1 ga).1
    have n2 := (List.getElem?_eq_some_iff.1 gb).1
    have Ba : Bs h pv pl := (ca.el _ (List.mem_of_getElem? ga)).1
    have Bb : Bs h qv ql := (cb.el _ (List.mem_of_getElem? gb)).1
    obtain ⟨a, qa, rfl, lda⟩ := ca.at ga
    obtain ⟨b, qb, rfl, ldb⟩ := cb.at gb
    dsimp only at lda ldb
    rw [laid_eq t0 [(3, .ptr ⟨b3, 0, 0⟩), (4, .ptr ⟨b4, 0, 0⟩), (5, .ptr ⟨b5, 0, 0⟩), (6, .ptr ⟨b6, 0, 0⟩), (7, va), (8, .int .i64 (leafE xa)), (9, vb), (10, .int .i64 (leafE xb))] (by simp [q3, q4, q5, q6, q7, q8, q9, q10])]
    unfold ownQ
    have m1 := p5.1
    have m2 := p6.1
    have m3 := oa.bq
    have k4 := oa.parts
    have m5 := ob.bq
    have k6 := ob.parts
    have m7 := Ba.bq
    have k8 := Ba.parts
    have m9 := Bb.bq
    have k10 := Bb.parts
    have m11 := p3.1
    have m12 := ca.bq
    have k13 := ca.parts
    have m14 := p4.1
    have m15 := cb.bq
    have k16 := cb.parts
    refine Wp.seq ?_
    refine Wp.seq ?_
    refine Wp.draw ?_
    refine Wd.pure (by kernel_rfl) (by kernel_rfl) ?_
    refine Wd.cmp (op := .eql) (x := IX.t 32) (y := IX.c (AV.int IntKind.i64 0)) (k := IntKind.i64) (a := leafE xa) (b := 0) ((leafE xa : Int) = (0 : Int)) (by kernel_rfl) (by kernel_rfl) (by kernel_rfl) (by kernel_rfl) (by simp) (by kernel_rfl) (fun q17 => ?_) (fun q17 => ?_)
    rotate_left
    · exact (‹¬ leafE _ = 0› (leafE_ok hE.1)).elim
    refine Wd.pure (by kernel_rfl) (by kernel_rfl) ?_
    refine Wd.pure (by kernel_rfl) (by kernel_rfl) ?_
    refine Wd.cmp (op := .eql) (x := IX.t 35) (y := IX.c (AV.int IntKind.i64 0)) (k := IntKind.i64) (a := leafE xb) (b := 0) ((leafE xb : Int) = (0 : Int)) (by kernel_rfl) (by kernel_rfl) (by kernel_rfl) (by kernel_rfl) (by simp) (by kernel_rfl) (fun q18 => ?_) (fun q18 => ?_)
    rotate_left
    · exact (‹¬ leafE _ = 0› (leafE_ok hE.2)).elim
    refine Wd.pure (by kernel_rfl) (by kernel_rfl) ?_
    refine Wd.pure (by kernel_rfl) (by kernel_rfl) ?_
    refine Wd.pure (by kernel_rfl) (by kernel_rfl) ?_
    refine Wd.pure (by kernel_rfl) (by kernel_rfl) ?_
    refine Wd.pure (by kernel_rfl) (by kernel_rfl) ?_
    refine Wd.read (AV.int IntKind.u64 ↑ta) (.ld (none) (.c (.ptr { b := b3, g := 0, o := 0 }))) (by kernel_rfl) (by kernel_rfl) (iop_ldP p3 (a := { b := b3, g := 0, o := 0 }) (by kernel_rfl) rfl (by kernel_rfl)) ?_
    refine Wd.pure (by kernel_rfl) (by kernel_rfl) ?_
    refine Wd.read (AV.int IntKind.u64 ↑tb) (.ld (none) (.c (.ptr { b := b4, g := 0, o := 0 }))) (by kernel_rfl) (by kernel_rfl) (iop_ldP p4 (a := { b := b4, g := 0, o := 0 }) (by kernel_rfl) rfl (by kernel_rfl)) ?_
    refine Wd.cmp (op := .eql) (x := IX.t 43) (y := IX.t 45) (k := IntKind.u64) (a := ↑ta) (b := ↑tb) ((↑ta : Int) = (↑tb : Int)) (by kernel_rfl) (by kernel_rfl) (by kernel_rfl) (by kernel_rfl) (by simp) (by kernel_rfl) (fun q19 => ?_) (fun q19 => ?_)
    · skip
      have c20 := equal_run oa ob
      refine Wd.call (by kernel_rfl) (by kernel_rfl) c20 (holds_of [(IOp.ld none (IX.c (AV.ptr { b := b4, g := 0, o := 0 })), AV.int IntKind.u64 ↑tb, 13), (IOp.ld none (IX.c (AV.ptr { b := b3, g := 0, o := 0 })), AV.int IntKind.u64 ↑ta, 11)] (by kernel_rfl) (holds_and (rd_ldP p4 rfl (by kernel_rfl)) (holds_and (rd_ldP p3 rfl (by kernel_rfl)) rfl))) ?_
      clear c20
      refine Wd.boolS (fun q21 => ?_) (fun q21 => ?_)
      · skip
        refine Wd.pure (by kernel_rfl) (by kernel_rfl) ?_
        refine Wd.pure (by kernel_rfl) (by kernel_rfl) ?_
        refine Wd.read (AV.sl a xa.length qa) (.ld (none) (.c (.ptr { b := b3, g := 0, o := 1 }))) (by kernel_rfl) (by kernel_rfl) (iop_ldP p3 (a := { b := b3, g := 0, o := 1 }) (by kernel_rfl) rfl (by kernel_rfl)) ?_
        refine Wd.make (.ptr ⟨(a : AA).b, (a : AA).g, (a : AA).o + 0 * 1⟩) h (by kernel_rfl) (by kernel_rfl) (iop_iaN (a := a) (n := xa.length) (c := qa) (ie := (0 : Int)) (i := 0) (by kernel_rfl) (by kernel_rfl) rfl (by first | omega | (simp; omega))) ?_
        refine Wd.read (pv) (.ld (none) (.c (.ptr { b := a.b, g := a.g, o := a.o + 0 * 1 }))) (by kernel_rfl) (by kernel_rfl) (iop_ld (a := { b := a.b, g := a.g, o := a.o + 0 * 1 }) (by kernel_rfl) lda) ?_
        refine Wd.pure (by kernel_rfl) (by kernel_rfl) ?_
        refine Wd.read (AV.sl b xb.length qb) (.ld (none) (.c (.ptr { b := b4, g := 0, o := 1 }))) (by kernel_rfl) (by kernel_rfl) (iop_ldP p4 (a := { b := b4, g := 0, o := 1 }) (by kernel_rfl) rfl (by kernel_rfl)) ?_
        refine Wd.make (.ptr ⟨(b : AA).b, (b : AA).g, (b : AA).o + 0 * 1⟩) h (by kernel_rfl) (by kernel_rfl) (iop_iaN (a := b) (n := xb.length) (c := qb) (ie := (0 : Int)) (i := 0) (by kernel_rfl) (by kernel_rfl) rfl (by first | omega | (simp; omega))) ?_
        refine Wd.read (qv) (.ld (none) (.c (.ptr { b := b.b, g := b.g, o := b.o + 0 * 1 }))) (by kernel_rfl) (by kernel_rfl) (iop_ld (a := { b := b.b, g := b.g, o := b.o + 0 * 1 }) (by kernel_rfl) ldb) ?_
        have c22 := equal_run Ba Bb
        refine Wd.call (by kernel_rfl) (by kernel_rfl) c22 (holds_of [(IOp.ld none (IX.c (AV.ptr { b := b.b, g := b.g, o := b.o })), qv, 23), (IOp.ld none (IX.c (AV.ptr { b := b4, g := 0, o := 1 })), AV.sl b xb.length qb, 21), (IOp.ld none (IX.c (AV.ptr { b := a.b, g := a.g, o := a.o })), pv, 19), (IOp.ld none (IX.c (AV.ptr { b := b3, g := 0, o := 1 })), AV.sl a xa.length qa, 17), (IOp.ld none (IX.c (AV.ptr { b := b4, g := 0, o := 0 })), AV.int IntKind.u64 ↑tb, 13), (IOp.ld none (IX.c (AV.ptr { b := b3, g := 0, o := 0 })), AV.int IntKind.u64 ↑ta, 11)] (by kernel_rfl) (holds_and (rd_ld ldb) (holds_and (rd_ldP p4 rfl (by kernel_rfl)) (holds_and (rd_ld lda) (holds_and (rd_ldP p3 rfl (by kernel_rfl)) (holds_and (rd_ldP p4 rfl (by kernel_rfl)) (holds_and (rd_ldP p3 rfl (by kernel_rfl)) rfl))))))) ?_
        clear c22
        refine Wd.boolS (fun q23 => ?_) (fun q23 => ?_)
        rotate_left
        · exact (ne_of_beq_false ‹(pl == ql) = false› (leaf_inj ha hb hE.1 hE.2 ga gb ‹(leafX _ _ == leafX _ _) = true›).2).elim
        refine Wd.pure (by kernel_rfl) (by kernel_rfl) ?_
        refine Wd.pure (by kernel_rfl) (by kernel_rfl) ?_
        refine Wd.pure (by kernel_rfl) (by kernel_rfl) ?_
        refine Wd.done (holds_of [] (by kernel_rfl) rfl) ?_
        refine Wp.cond false (by kernel_rfl) ?_
        refine Wp.skip ?_
        refine Wp.seq ?_
        refine Wp.region ?_
        refine Wo.val (AV.agg [AV.int IntKind.u64 ↑ta, AV.sl a xa.length qa]) h (by kernel_rfl) (iop_ldP p3 (a := { b := b3, g := 0, o := 0 }) (by kernel_rfl) rfl (by kernel_rfl)) ?_
        obtain ⟨r24, H25, c26, z27, rfl, X29, q30⟩ := sct_run (t := ta) ca la ha
        have m31 := X29.1
        have m32 := q30.bq
        have k33 := q30.parts
        refine Wo.call (by kernel_rfl) (by kernel_rfl) c26 ?_
        clear c26
        refine Wo.pre 5 (by kernel_rfl) ?_
        refine Wo.nil ?_
        exact  own9_3 (b5 := b5) (b6 := b6) (s5 := s5) (t5 := t5) (s6 := s6) (t6 := t6) (r5 := r5) (r6 := r6) (g5 := g5) (g6 := g6) (u := ta) (xs := xa) (p5.fr X29.fr id) (p6.fr X29.fr id) hr5 hr6 hg5 hg6 ho5 ho6 hs5 ht5 hs6 ht6 q30.bs (by kernel_rfl) (by kernel_rfl) (by kernel_rfl) (by kernel_rfl) (by kernel_rfl)
      · skip
        refine Wd.pure (by kernel_rfl) (by kernel_rfl) ?_
        refine Wd.pure (by kernel_rfl) (by kernel_rfl) ?_
        refine Wd.read (AV.sl a xa.length qa) (.ld (none) (.c (.ptr { b := b3, g := 0, o := 1 }))) (by kernel_rfl) (by kernel_rfl) (iop_ldP p3 (a := { b := b3, g := 0, o := 1 }) (by kernel_rfl) rfl (by kernel_rfl)) ?_
        refine Wd.make (.ptr ⟨(a : AA).b, (a : AA).g, (a : AA).o + 0 * 1⟩) h (by kernel_rfl) (by kernel_rfl) (iop_iaN (a := a) (n := xa.length) (c := qa) (ie := (0 : Int)) (i := 0) (by kernel_rfl) (by kernel_rfl) rfl (by first | omega | (simp; omega))) ?_
        refine Wd.read (pv) (.ld (none) (.c (.ptr { b := a.b, g := a.g, o := a.o + 0 * 1 }))) (by kernel_rfl) (by kernel_rfl) (iop_ld (a := { b := a.b, g := a.g, o := a.o + 0 * 1 }) (by kernel_rfl) lda) ?_
        refine Wd.pure (by kernel_rfl) (by kernel_rfl) ?_
        refine Wd.read (AV.sl b xb.length qb) (.ld (none) (.c (.ptr { b := b4, g := 0, o := 1 }))) (by kernel_rfl) (by kernel_rfl) (iop_ldP p4 (a := { b := b4, g := 0, o := 1 }) (by kernel_rfl) rfl (by kernel_rfl)) ?_
        refine Wd.make (.ptr ⟨(b : AA).b, (b : AA).g, (b : AA).o + 0 * 1⟩) h (by kernel_rfl) (by kernel_rfl) (iop_iaN (a := b) (n := xb.length) (c := qb) (ie := (0 : Int)) (i := 0) (by kernel_rfl) (by kernel_rfl) rfl (by first | omega | (simp; omega))) ?_
        refine Wd.read (qv) (.ld (none) (.c (.ptr { b := b.b, g := b.g, o := b.o + 0 * 1 }))) (by kernel_rfl) (by kernel_rfl) (iop_ld (a := { b := b.b, g := b.g, o := b.o + 0 * 1 }) (by kernel_rfl) ldb) ?_
        have c34 := equal_run Ba Bb
        refine Wd.call (by kernel_rfl) (by kernel_rfl) c34 (holds_of [(IOp.ld none (IX.c (AV.ptr { b := b.b, g := b.g, o := b.o })), qv, 23), (IOp.ld none (IX.c (AV.ptr { b := b4, g := 0, o := 1 })), AV.sl b xb.length qb, 21), (IOp.ld none (IX.c (AV.ptr { b := a.b, g := a.g, o := a.o })), pv, 19), (IOp.ld none (IX.c (AV.ptr { b := b3, g := 0, o := 1 })), AV.sl a xa.length qa, 17), (IOp.ld none (IX.c (AV.ptr { b := b4, g := 0, o := 0 })), AV.int IntKind.u64 ↑tb, 13), (IOp.ld none (IX.c (AV.ptr { b := b3, g := 0, o := 0 })), AV.int IntKind.u64 ↑ta, 11)] (by kernel_rfl) (holds_and (rd_ld ldb) (holds_and (rd_ldP p4 rfl (by kernel_rfl)) (holds_and (rd_ld lda) (holds_and (rd_ldP p3 rfl (by kernel_rfl)) (holds_and (rd_ldP p4 rfl (by kernel_rfl)) (holds_and (rd_ldP p3 rfl (by kernel_rfl)) rfl))))))) ?_
        clear c34
        refine Wd.boolS (fun q35 => ?_) (fun q35 => ?_)
        · exact Bool.noConfusion (‹(leafX _ _ == leafX _ _) = false›.symm.trans (leaf_same hE.1 hE.2 ga gb (by with_reducible assumption) (eq_of_beq ‹(pl == ql) = true›)))
        refine Wd.pure (by kernel_rfl) (by kernel_rfl) ?_
        refine Wd.pure (by kernel_rfl) (by kernel_rfl) ?_
        refine Wd.pure (by kernel_rfl) (by kernel_rfl) ?_
        refine Wd.done (holds_of [] (by kernel_rfl) rfl) ?_
        refine Wp.cond false (by kernel_rfl) ?_
        refine Wp.skip ?_
        refine Wp.seq ?_
        refine Wp.region ?_
        refine Wo.val (AV.agg [AV.int IntKind.u64 ↑ta, AV.sl a xa.length qa]) h (by kernel_rfl) (iop_ldP p3 (a := { b := b3, g := 0, o := 0 }) (by kernel_rfl) rfl (by kernel_rfl)) ?_
        obtain ⟨r36, H37, c38, z39, rfl, X41, q42⟩ := sct_run (t := ta) ca la ha
        have m43 := X41.1
        have m44 := q42.bq
        have k45 := q42.parts
        refine Wo.call (by kernel_rfl) (by kernel_rfl) c38 ?_
        clear c38
        refine Wo.pre 5 (by kernel_rfl) ?_
        refine Wo.nil ?_
        exact  own9_3 (b5 := b5) (b6 := b6) (s5 := s5) (t5 := t5) (s6 := s6) (t6 := t6) (r5 := r5) (r6 := r6) (g5 := g5) (g6 := g6) (u := ta) (xs := xa) (p5.fr X41.fr id) (p6.fr X41.fr id) hr5 hr6 hg5 hg6 ho5 ho6 hs5 ht5 hs6 ht6 q42.bs (by kernel_rfl) (by kernel_rfl) (by kernel_rfl) (by kernel_rfl) (by kernel_rfl)
    · skip
      have c46 := equal_run oa ob
      refine Wd.call (by kernel_rfl) (by kernel_rfl) c46 (holds_of [(IOp.ld none (IX.c (AV.ptr { b := b4, g := 0, o := 0 })), AV.int IntKind.u64 ↑tb, 13), (IOp.ld none (IX.c (AV.ptr { b := b3, g := 0, o := 0 })), AV.int IntKind.u64 ↑ta, 11)] (by kernel_rfl) (holds_and (rd_ldP p4 rfl (by kernel_rfl)) (holds_and (rd_ldP p3 rfl (by kernel_rfl)) rfl))) ?_
      clear c46
      refine Wd.boolS (fun q47 => ?_) (fun q47 => ?_)
      · ((have hh := (leaf_inj ha hb hE.1 hE.2 ga gb ‹(leafX _ _ == leafX _ _) = true›).1; exfalso; omega))
      refine Wd.pure (by kernel_rfl) (by kernel_rfl) ?_
      refine Wd.not (by kernel_rfl) rfl ?_
      refine Wd.not (by kernel_rfl) rfl ?_
      refine Wd.not (by kernel_rfl) rfl ?_
      refine Wd.not (by kernel_rfl) rfl ?_
      refine Wd.not (by kernel_rfl) rfl ?_
      refine Wd.not (by kernel_rfl) rfl ?_
      refine Wd.not (by kernel_rfl) rfl ?_
      refine Wd.not (by kernel_rfl) rfl ?_
      refine Wd.actNot (by kernel_rfl) (holds_of [(IOp.ld none (IX.c (AV.ptr { b := b4, g := 0, o := 0 })), AV.int IntKind.u64 ↑tb, 13), (IOp.ld none (IX.c (AV.ptr { b := b3, g := 0, o := 0 })), AV.int IntKind.u64 ↑ta, 11)] (by kernel_rfl) (holds_and (rd_ldP p4 rfl (by kernel_rfl)) (holds_and (rd_ldP p3 rfl (by kernel_rfl)) rfl))) ?_
      refine Wd.pure (by kernel_rfl) (by kernel_rfl) ?_
      refine Wd.pure (by kernel_rfl) (by kernel_rfl) ?_
      refine Wd.pure (by kernel_rfl) (by kernel_rfl) ?_
      refine Wd.done (holds_of [] (by kernel_rfl) rfl) ?_
      refine Wp.cond false (by kernel_rfl) ?_
      refine Wp.skip ?_
      refine Wp.seq ?_
      refine Wp.region ?_
      refine Wo.val (AV.agg [AV.int IntKind.u64 ↑ta, AV.sl a xa.length qa]) h (by kernel_rfl) (iop_ldP p3 (a := { b := b3, g := 0, o := 0 }) (by kernel_rfl) rfl (by kernel_rfl)) ?_
      obtain ⟨r48, H49, c50, z51, rfl, X53, q54⟩ := sct_run (t := ta) ca la ha
      have m55 := X53.1
      have m56 := q54.bq
      have k57 := q54.parts
      refine Wo.call (by kernel_rfl) (by kernel_rfl) c50 ?_
      clear c50
      refine Wo.pre 5 (by kernel_rfl) ?_
      refine Wo.nil ?_
      exact  own9_3 (b5 := b5) (b6 := b6) (s5 := s5) (t5 := t5) (s6 := s6) (t6 := t6) (r5 := r5) (r6 := r6) (g5 := g5) (g6 := g6) (u := ta) (xs := xa) (p5.fr X53.fr id) (p6.fr X53.fr id) hr5 hr6 hg5 hg6 ho5 ho6 hs5 ht5 hs6 ht6 q54.bs (by kernel_rfl) (by kernel_rfl) (by kernel_rfl) (by kernel_rfl) (by kernel_rfl)
  · rw [laid_eq t0 [(3, .ptr ⟨b3, 0, 0⟩), (4, .ptr ⟨b4, 0, 0⟩), (5, .ptr ⟨b5, 0, 0⟩), (6, .ptr ⟨b6, 0, 0⟩), (7, va), (8, .int .i64 (leafE xa)), (9, vb), (10, .int .i64 (leafE xb))] (by simp [q3, q4, q5, q6, q7, q8, q9, q10])]
    unfold ownQ
    have m1 := p3.1
    have m2 := p4.1
    have m3 := p5.1
    have m4 := p6.1
    have m5 := ca.bq
    have k6 := ca.parts
    have m7 := cb.bq
    have k8 := cb.parts
    have m9 := oa.bq
    have k10 := oa.parts
    have m11 := ob.bq
    have k12 := ob.parts
    refine Wp.seq ?_
    refine Wp.seq ?_
    refine Wp.draw ?_
    refine Wd.pure (by kernel_rfl) (by kernel_rfl) ?_
    refine Wd.cmp (op := .eql) (x := IX.t 32) (y := IX.c (AV.int IntKind.i64 0)) (k := IntKind.i64) (a := leafE xa) (b := 0) ((leafE xa : Int) = (0 : Int)) (by kernel_rfl) (by kernel_rfl) (by kernel_rfl) (by kernel_rfl) (by simp) (by kernel_rfl) (fun q13 => ?_) (fun q13 => ?_)
    · skip
      refine Wd.pure (by kernel_rfl) (by kernel_rfl) ?_
      refine Wd.pure (by kernel_rfl) (by kernel_rfl) ?_
      refine Wd.cmp (op := .eql) (x := IX.t 35) (y := IX.c (AV.int IntKind.i64 0)) (k := IntKind.i64) (a := leafE xb) (b := 0) ((leafE xb : Int) = (0 : Int)) (by kernel_rfl) (by kernel_rfl) (by kernel_rfl) (by kernel_rfl) (by simp) (by kernel_rfl) (fun q14 => ?_) (fun q14 => ?_)
      · exact (hE ⟨leafE_zero ‹leafE xa = 0›, leafE_zero ‹leafE xb = 0›⟩).elim
      refine Wd.pure (by kernel_rfl) (by kernel_rfl) ?_
      refine Wd.pure (by kernel_rfl) (by kernel_rfl) ?_
      refine Wd.not (by kernel_rfl) rfl ?_
      refine Wd.not (by kernel_rfl) rfl ?_
      refine Wd.not (by kernel_rfl) rfl ?_
      refine Wd.not (by kernel_rfl) rfl ?_
      refine Wd.not (by kernel_rfl) rfl ?_
      refine Wd.not (by kernel_rfl) rfl ?_
      refine Wd.not (by kernel_rfl) rfl ?_
      refine Wd.actNot (by kernel_rfl) (holds_of [] (by kernel_rfl) rfl) ?_
      refine Wd.not (by kernel_rfl) rfl ?_
      refine Wd.not (by kernel_rfl) rfl ?_
      refine Wd.not (by kernel_rfl) rfl ?_
      refine Wd.not (by kernel_rfl) rfl ?_
      refine Wd.not (by kernel_rfl) rfl ?_
      refine Wd.not (by kernel_rfl) rfl ?_
      refine Wd.not (by kernel_rfl) rfl ?_
      refine Wd.not (by kernel_rfl) rfl ?_
      refine Wd.not (by kernel_rfl) rfl ?_
      refine Wd.actNot (by kernel_rfl) (holds_of [] (by kernel_rfl) rfl) ?_
      refine Wd.not (by kernel_rfl) rfl ?_
      refine Wd.not (by kernel_rfl) rfl ?_
      refine Wd.pure (by kernel_rfl) (by kernel_rfl) ?_
      refine Wd.done (holds_of [] (by kernel_rfl) rfl) ?_
      refine Wp.cond false (by kernel_rfl) ?_
      refine Wp.skip ?_
      refine Wp.seq ?_
      refine Wp.region ?_
      refine Wo.val (AV.agg [AV.int IntKind.u64 ↑ta, za]) h (by kernel_rfl) (iop_ldP p3 (a := { b := b3, g := 0, o := 0 }) (by kernel_rfl) rfl (by kernel_rfl)) ?_
      obtain ⟨r15, H16, c17, z18, rfl, X20, q21⟩ := sct_run (t := ta) ca la ha
      have m22 := X20.1
      have m23 := q21.bq
      have k24 := q21.parts
      refine Wo.call (by kernel_rfl) (by kernel_rfl) c17 ?_
      clear c17
      refine Wo.pre 5 (by kernel_rfl) ?_
      refine Wo.nil ?_
      exact  own9_3 (b5 := b5) (b6 := b6) (s5 := s5) (t5 := t5) (s6 := s6) (t6 := t6) (r5 := r5) (r6 := r6) (g5 := g5) (g6 := g6) (u := ta) (xs := xa) (p5.fr X20.fr id) (p6.fr X20.fr id) hr5 hr6 hg5 hg6 ho5 ho6 hs5 ht5 hs6 ht6 q21.bs (by kernel_rfl) (by kernel_rfl) (by kernel_rfl) (by kernel_rfl) (by kernel_rfl)
    · skip
      refine Wd.pure (by kernel_rfl) (by kernel_rfl) ?_
      refine Wd.not (by kernel_rfl) rfl ?_
      refine Wd.not (by kernel_rfl) rfl ?_
      refine Wd.pure (by kernel_rfl) (by kernel_rfl) ?_
      refine Wd.pure (by kernel_rfl) (by kernel_rfl) ?_
      refine Wd.not (by kernel_rfl) rfl ?_
      refine Wd.not (by kernel_rfl) rfl ?_
      refine Wd.not (by kernel_rfl) rfl ?_
      refine Wd.not (by kernel_rfl) rfl ?_
      refine Wd.not (by kernel_rfl) rfl ?_
      refine Wd.not (by kernel_rfl) rfl ?_
      refine Wd.not (by kernel_rfl) rfl ?_
      refine Wd.actNot (by kernel_rfl) (holds_of [] (by kernel_rfl) rfl) ?_
      refine Wd.not (by kernel_rfl) rfl ?_
      refine Wd.not (by kernel_rfl) rfl ?_
      refine Wd.not (by kernel_rfl) rfl ?_
      refine Wd.not (by kernel_rfl) rfl ?_
      refine Wd.not (by kernel_rfl) rfl ?_
      refine Wd.not (by kernel_rfl) rfl ?_
      refine Wd.not (by kernel_rfl) rfl ?_
      refine Wd.not (by kernel_rfl) rfl ?_
      refine Wd.not (by kernel_rfl) rfl ?_
      refine Wd.actNot (by kernel_rfl) (holds_of [] (by kernel_rfl) rfl) ?_
      refine Wd.not (by kernel_rfl) rfl ?_
      refine Wd.not (by kernel_rfl) rfl ?_
      refine Wd.pure (by kernel_rfl) (by kernel_rfl) ?_
      refine Wd.done (holds_of [] (by kernel_rfl) rfl) ?_
      refine Wp.cond false (by kernel_rfl) ?_
      refine Wp.skip ?_
      refine Wp.seq ?_
      refine Wp.region ?_
      refine Wo.val (AV.agg [AV.int IntKind.u64 ↑ta, za]) h (by kernel_rfl) (iop_ldP p3 (a := { b := b3, g := 0, o := 0 }) (by kernel_rfl) rfl (by kernel_rfl)) ?_
      obtain ⟨r25, H26, c27, z28, rfl, X30, q31⟩ := sct_run (t := ta) ca la ha
      have m32 := X30.1
      have m33 := q31.bq
      have k34 := q31.parts
      refine Wo.call (by kernel_rfl) (by kernel_rfl) c27 ?_
      clear c27
      refine Wo.pre 5 (by kernel_rfl) ?_
      refine Wo.nil ?_
      exact  own9_3 (b5 := b5) (b6 := b6) (s5 := s5) (t5 := t5) (s6 := s6) (t6 := t6) (r5 := r5) (r6 := r6) (g5 := g5) (g6 := g6) (u := ta) (xs := xa) (p5.fr X30.fr id) (p6.fr X30.fr id) hr5 hr6 hg5 hg6 ho5 ho6 hs5 ht5 hs6 ht6 q31.bs (by kernel_rfl) (by kernel_rfl) (by kernel_rfl) (by kernel_rfl) (by kernel_rfl)

set_option maxHeartbeats 16000000 in
theorem own9_1 {h : H} {ts : List AV} {b5 b6 s5 t5 s6 t6 : Nat} {r5 r6 : List UInt8} {g5 g6 : List AV} {b3 b4 ta tb : Nat} {za zb : AV} {xa xb : List (AV × List UInt8)} (p3 : Pt h b3 (.cells 0 70 [.int .u64 ta, za] 0 false)) (p4 : Pt h b4 (.cells 0 70 [.int .u64 tb, zb] 0 false)) (p5 : Pt h b5 (.cells 0 65 (hcells s5 t5 r5 g5) 0 false)) (p6 : Pt h b6 (.cells 0 65 (hcells s6 t6 r6 g6) 0 false)) (hr5 : r5.length = 32) (hr6 : r6.length = 32) (hg5 : g5.length = 64) (hg6 : g6.length = 64) (ho5 : ∀ x ∈ g5, x.one = true) (ho6 : ∀ x ∈ g6, x.one = true) (hs5 : s5 < 2 ^ 64) (ht5 : t5 < 2 ^ 64) (hs6 : s6 < 2 ^ 64) (ht6 : t6 < 2 ^ 64) (ca : Ch h za xa) (cb : Ch h zb xb) (la : xa.length < 2 ^ 62) (lb : xb.length < 2 ^ 62) (ha : ta < 2 ^ 64) (hb : tb < 2 ^ 64) (t0 : ts.length = 110) (q3 : getL ts 3 = some (.ptr ⟨b3, 0, 0⟩)) (q4 : getL ts 4 = some (.ptr ⟨b4, 0, 0⟩)) (q5 : getL ts 5 = some (.ptr ⟨b5, 0, 0⟩)) (q6 : getL ts 6 = some (.ptr ⟨b6, 0, 0⟩)) : Wp TF ow1 (ts, h) (ownQ 2) := by
  have hmx : 200000000000000 = maxRow := rfl
  rw [laid_eq t0 [(3, .ptr ⟨b3, 0, 0⟩), (4, .ptr ⟨b4, 0, 0⟩), (5, .ptr ⟨b5, 0, 0⟩), (6, .ptr ⟨b6, 0, 0⟩)] (by simp [q3, q4, q5, q6])]
  unfold ownQ
  have m1 := p3.1
  have m2 := p4.1
  have m3 := p5.1
  have m4 := p6.1
  have m5 := ca.bq
  have k6 := ca.parts
  have m7 := cb.bq
  have k8 := cb.parts
  refine Wp.seq ?_
  refine Wp.region ?_
  refine Wo.val (AV.agg [AV.int IntKind.u64 ↑ta, za]) h (by kernel_rfl) (iop_ldP p3 (a := { b := b3, g := 0, o := 0 }) (by kernel_rfl) rfl (by kernel_rfl)) ?_
  obtain ⟨r9, H10, c11, z12, rfl, X14, q15⟩ := leaf_run (t := ta) ca la ha
  have m16 := X14.1
  have m17 := q15.bq
  have k18 := q15.parts
  refine Wo.call (by kernel_rfl) (by kernel_rfl) c11 ?_
  clear c11
  refine Wo.pre 5 (by kernel_rfl) ?_
  refine Wo.nil ?_
  refine Wp.seq ?_
  refine Wp.region ?_
  have F19 := (p4.fr X14.fr id)
  refine Wo.val (AV.agg [AV.int IntKind.u64 ↑tb, zb]) H10 (by kernel_rfl) (iop_ldP F19 (a := { b := b4, g := 0, o := 0 }) (by kernel_rfl) rfl (by kernel_rfl)) ?_
  have F20 := (cb.fr X14.fr (fun _ e => e.elim))
  obtain ⟨r21, H22, c23, z24, rfl, X26, q27⟩ := leaf_run (t := tb) F20 lb hb
  have m28 := X26.1
  have m29 := q27.bq
  have k30 := q27.parts
  refine Wo.call (by kernel_rfl) (by kernel_rfl) c23 ?_
  clear c23
  refine Wo.pre 5 (by kernel_rfl) ?_
  refine Wo.nil ?_
  exact  own9_2 (b5 := b5) (b6 := b6) (s5 := s5) (t5 := t5) (s6 := s6) (t6 := t6) (r5 := r5) (r6 := r6) (g5 := g5) (g6 := g6) (b3 := b3) (b4 := b4) (ta := ta) (tb := tb) (xa := xa) (xb := xb) (p3.fr (X14.fr.trans0 X26.fr) id) (F19.fr X26.fr id) (p5.fr (X14.fr.trans0 X26.fr) id) (p6.fr (X14.fr.trans0 X26.fr) id) hr5 hr6 hg5 hg6 ho5 ho6 hs5 ht5 hs6 ht6 (ca.fr (X14.fr.trans0 X26.fr) (fun _ e => e.elim)) (F20.fr X26.fr (fun _ e => e.elim)) la lb ha hb (q15.fr X26.fr (.inr id)).bs q27.bs (by kernel_rfl) (by kernel_rfl) (by kernel_rfl) (by kernel_rfl) (by kernel_rfl) (by kernel_rfl) (by kernel_rfl) (by kernel_rfl) (by kernel_rfl)

def ownC (ta tb : Nat) (za zb : AV) (X Y : List AV) : List AV := .int .u64 ta :: za :: .int .u64 tb :: zb :: (X ++ Y)
theorem ownC_ld {k : H} {b ta tb : Nat} {za zb : AV} {X Y : List AV} (p : Pt k b (.cells 0 72 (ownC ta tb za zb X Y) 0 false)) (hX : X.length = 98) (hY : Y.length = 98) :
    k.ldg ⟨b, 0, 0⟩ (some 2) = some (.agg [.int .u64 ta, za]) ∧ k.ldg ⟨b, 0, 2⟩ (some 2) = some (.agg [.int .u64 tb, zb]) ∧ k.ldg ⟨b, 0, 4⟩ (some 98) = some (.agg X) ∧ k.ldg ⟨b, 0, 102⟩ (some 98) = some (.agg Y) := by
  have hrow : ∀ o, k.row ⟨b, 0, o⟩ = some (ownC ta tb za zb X Y) := fun o => by simp [H.row, p.2]
  refine ⟨?_, ?_, ?_, ?_⟩
  · simp [H.ldg, H.ldn, hrow, cut, ownC]
  · simp [H.ldg, H.ldn, hrow, cut, ownC]
  · simp only [H.ldg, H.ldn, hrow, cut, ownC, List.drop_succ_cons, List.drop_zero]
    rw [List.take_left' hX, hX]; rfl
  · simp only [H.ldg, H.ldn, hrow, cut, ownC, List.drop_succ_cons]
    rw [List.drop_left' hX, List.take_of_length_le (by omega), hY]; rfl

theorem put_all {c vs : List AV} (h : c.length = vs.length) : putAt c 0 vs = vs := by
  have : putAt c 0 vs = vs ++ c.drop vs.length := by cases c <;> rfl
  rw [this, ← h, List.drop_length, List.append_nil]

set_option maxHeartbeats 16000000 in
theorem own9_run {h : H} {s5 t5 s6 t6 : Nat} {r5 r6 : List UInt8} {g5 g6 : List AV} {ta tb : Nat} {za zb : AV} {xa xb : List (AV × List UInt8)} (hr5 : r5.length = 32) (hr6 : r6.length = 32) (hg5 : g5.length = 64) (hg6 : g6.length = 64) (ho5 : ∀ x ∈ g5, x.one = true) (ho6 : ∀ x ∈ g6, x.one = true) (hs5 : s5 < 2 ^ 64) (ht5 : t5 < 2 ^ 64) (hs6 : s6 < 2 ^ 64) (ht6 : t6 < 2 ^ 64) (ca : Ch h za xa) (cb : Ch h zb xb) (la : xa.length < 2 ^ 62) (lb : xb.length < 2 ^ 62) (ha : ta < 2 ^ 64) (hb : tb < 2 ^ 64) : ∃ r h', Runs TF 9 [.agg (ownC ta tb za zb (hcells s5 t5 r5 g5) (hcells s6 t6 r6 g6))] h r h' ∧ r = .bool true := by
  refine Runs.ofP f9 rfl ?_
  have z1 := ca.parts
  have z2 := cb.parts
  have hc5 : (hcells s5 t5 r5 g5).length = 98 := by have := bytes_len r5; simp [hcells, this, hr5, hg5]
  have hc6 : (hcells s6 t6 r6 g6).length = 98 := by have := bytes_len r6; simp [hcells, this, hr6, hg6]
  have w5 : (hcells s5 t5 r5 g5).all AV.one = true := by
    have := bytes_one r5
    have hg : g5.all AV.one = true := List.all_eq_true.2 ho5
    have o1 : ∀ k n, (AV.int k n).one = true := fun _ _ => rfl
    simp only [hcells, List.all_cons, List.all_append, this, hg, o1, Bool.and_self]
  have w6 : (hcells s6 t6 r6 g6).all AV.one = true := by
    have := bytes_one r6
    have hg : g6.all AV.one = true := List.all_eq_true.2 ho6
    have o1 : ∀ k n, (AV.int k n).one = true := fun _ _ => rfl
    simp only [hcells, List.all_cons, List.all_append, this, hg, o1, Bool.and_self]
  have wC : (ownC ta tb za zb (hcells s5 t5 r5 g5) (hcells s6 t6 r6 g6)).all AV.one = true := by
    have o1 : ∀ k n, (AV.int k n).one = true := fun _ _ => rfl
    simp only [ownC, List.all_cons, List.all_append, w5, w6, o1, z1.2.1, z2.2.1, Bool.and_self]
  obtain ⟨H1, e1, P1, X1, n1⟩ := pt_new h 72 _ wC
  obtain ⟨H2, e2, P2, X2, n2⟩ := pt_new H1 70 [.int .u64 0, .nils] rfl
  obtain ⟨H3, e3, P3, X3, n3⟩ := pt_new H2 70 [.int .u64 0, .nils] rfl
  obtain ⟨H4, e4, P4, X4, n4⟩ := pt_new H3 65 (.int .u64 0 :: .int .u64 0 :: List.replicate 96 (.int .u8 0)) (by decide)
  obtain ⟨H5, e5, P5, X5, n5⟩ := pt_new H4 65 (.int .u64 0 :: .int .u64 0 :: List.replicate 96 (.int .u8 0)) (by decide)
  have nx : ∀ {k k' : H} {b : Nat} {B : Blk}, Pt k b B → Fr No k k' → Pt k' b B := fun p x => p.fr x id
  have q1 := nx (nx (nx (nx P1 X2) X3) X4) X5
  have q2 := nx (nx (nx P2 X3) X4) X5
  have q3 := nx (nx P3 X4) X5
  have q4 := nx P4 X5
  obtain ⟨H6, s6', P6, X6, n6⟩ := q2.st 0 [.int .u64 ta, za] (by simp) (ones_cons rfl (ones_cons z1.2.1 ones_nil))
  have r3 := q3.fr X6 (by omega)
  have r4 := q4.fr X6 (by omega)
  have r5' := P5.fr X6 (by omega)
  have r1 := q1.fr X6 (by omega)
  obtain ⟨H7, s7, P7, X7, n7⟩ := r3.st 0 [.int .u64 tb, zb] (by simp) (ones_cons rfl (ones_cons z2.2.1 ones_nil))
  have u2 := P6.fr X7 (by omega)
  have u4 := r4.fr X7 (by omega)
  have u5 := r5'.fr X7 (by omega)
  have u1 := r1.fr X7 (by omega)
  obtain ⟨H8, s8, P8, X8, n8⟩ := u4.st 0 (hcells s5 t5 r5 g5) (by rw [hc5]; simp) w5
  have v2 := u2.fr X8 (by omega)
  have v3 := P7.fr X8 (by omega)
  have v5 := u5.fr X8 (by omega)
  have v1 := u1.fr X8 (by omega)
  obtain ⟨H9, s9, P9, X9, n9⟩ := v5.st 0 (hcells s6 t6 r6 g6) (by rw [hc6]; simp) w6
  have y2 : Pt H9 H1.n (.cells 0 70 [.int .u64 ta, za] 0 false) := v2.fr X9 (by omega)
  have y3 : Pt H9 H2.n (.cells 0 70 [.int .u64 tb, zb] 0 false) := v3.fr X9 (by omega)
  have y4 : Pt H9 H3.n (.cells 0 65 (hcells s5 t5 r5 g5) 0 false) := by
    have := P8.fr X9 (by omega)
    rw [put_all (by rw [hc5]; simp)] at this; exact this
  have y5 : Pt H9 H4.n (.cells 0 65 (hcells s6 t6 r6 g6) 0 false) := by
    have := P9
    rw [put_all (by rw [hc6]; simp)] at this; exact this
  have k1 := ownC_ld P1 hc5 hc6
  have k5 := ownC_ld q1 hc5 hc6
  have k6 := ownC_ld r1 hc5 hc6
  have k7 := ownC_ld u1 hc5 hc6
  have k8 := ownC_ld v1 hc5 hc6
  have xH : Ext h H9 := by
    refine ⟨by omega, fun b hb => ?_⟩
    rw [X9.2 b (by omega) (by omega), X8.2 b (by omega) (by omega), X7.2 b (by omega) (by omega), X6.2 b (by omega) (by omega), X5.2 b (by omega) id, X4.2 b (by omega) id, X3.2 b (by omega) id, X2.2 b (by omega) id, X1.2 b hb id]
  refine Wp.seq (Wp.region (Wo.val (.ptr ⟨h.n, 0, 0⟩) H1 (by kernel_rfl) (e1 (v := .agg (ownC ta tb za zb (hcells s5 t5 r5 g5) (hcells s6 t6 r6 g6))) (by kernel_rfl) rfl) (Wo.pre 1 (by kernel_rfl) (Wo.nil ?_))))
  refine Wp.seq (Wp.draw ?_)
  refine Wd.pure (by kernel_rfl) (by kernel_rfl) ?_
  refine Wd.read (.agg [.int .u64 ta, za]) (.ld (some 2) (.c (.ptr ⟨h.n, 0, 0⟩))) (by kernel_rfl) (by kernel_rfl) (iop_ld (a := ⟨h.n, 0, 0⟩) (by kernel_rfl) k1.1) ?_
  refine Wd.pure (by kernel_rfl) (by kernel_rfl) ?_
  refine Wd.read (.agg [.int .u64 tb, zb]) (.ld (some 2) (.c (.ptr ⟨h.n, 0, 2⟩))) (by kernel_rfl) (by kernel_rfl) (iop_ld (a := ⟨h.n, 0, 2⟩) (by kernel_rfl) k1.2.1) ?_
  refine Wd.pure (by kernel_rfl) (by kernel_rfl) ?_
  refine Wd.read (.agg (hcells s5 t5 r5 g5)) (.ld (some 98) (.c (.ptr ⟨h.n, 0, 4⟩))) (by kernel_rfl) (by kernel_rfl) (iop_ld (a := ⟨h.n, 0, 4⟩) (by kernel_rfl) k1.2.2.1) ?_
  refine Wd.pure (by kernel_rfl) (by kernel_rfl) ?_
  refine Wd.read (.agg (hcells s6 t6 r6 g6)) (.ld (some 98) (.c (.ptr ⟨h.n, 0, 102⟩))) (by kernel_rfl) (by kernel_rfl) (iop_ld (a := ⟨h.n, 0, 102⟩) (by kernel_rfl) k1.2.2.2) ?_
  refine Wd.make (.ptr ⟨H1.n, 0, 0⟩) H2 (by kernel_rfl) (by kernel_rfl) (e2 (v := .agg [.int .u64 0, .nils]) (by kernel_rfl) rfl) ?_
  refine Wd.make (.ptr ⟨H2.n, 0, 0⟩) H3 (by kernel_rfl) (by kernel_rfl) (e3 (v := .agg [.int .u64 0, .nils]) (by kernel_rfl) rfl) ?_
  refine Wd.make (.ptr ⟨H3.n, 0, 0⟩) H4 (by kernel_rfl) (by kernel_rfl) (e4 (v := .agg (.int .u64 0 :: .int .u64 0 :: List.replicate 96 (.int .u8 0))) (by kernel_rfl) rfl) ?_
  refine Wd.make (.ptr ⟨H4.n, 0, 0⟩) H5 (by kernel_rfl) (by kernel_rfl) (e5 (v := .agg (.int .u64 0 :: .int .u64 0 :: List.replicate 96 (.int .u8 0))) (by kernel_rfl) rfl) ?_
  refine Wd.act .undef H6 (by kernel_rfl) (iop_stP (a := ⟨H1.n, 0, 0⟩) (v := .agg [.int .u64 ta, za]) (vs := [.int .u64 ta, za]) (by kernel_rfl) (by kernel_rfl) rfl rfl s6') (holds_of [(.ld (some 98) (.c (.ptr ⟨h.n, 0, 102⟩)), .agg (hcells s6 t6 r6 g6), 7), (.ld (some 98) (.c (.ptr ⟨h.n, 0, 4⟩)), .agg (hcells s5 t5 r5 g5), 5), (.ld (some 2) (.c (.ptr ⟨h.n, 0, 2⟩)), .agg [.int .u64 tb, zb], 3), (.ld (some 2) (.c (.ptr ⟨h.n, 0, 0⟩)), .agg [.int .u64 ta, za], 1)] (by kernel_rfl) (holds_and (rd_ld k5.2.2.2) (holds_and (rd_ld k5.2.2.1) (holds_and (rd_ld k5.2.1) (holds_and (rd_ld k5.1) rfl))))) ?_
  refine Wd.act .undef H7 (by kernel_rfl) (iop_stP (a := ⟨H2.n, 0, 0⟩) (v := .agg [.int .u64 tb, zb]) (vs := [.int .u64 tb, zb]) (by kernel_rfl) (by kernel_rfl) rfl rfl s7) (holds_of [(.ld (some 98) (.c (.ptr ⟨h.n, 0, 102⟩)), .agg (hcells s6 t6 r6 g6), 7), (.ld (some 98) (.c (.ptr ⟨h.n, 0, 4⟩)), .agg (hcells s5 t5 r5 g5), 5), (.ld (some 2) (.c (.ptr ⟨h.n, 0, 2⟩)), .agg [.int .u64 tb, zb], 3)] (by kernel_rfl) (holds_and (rd_ld k6.2.2.2) (holds_and (rd_ld k6.2.2.1) (holds_and (rd_ld k6.2.1) rfl)))) ?_
  refine Wd.act .undef H8 (by kernel_rfl) (iop_stP (a := ⟨H3.n, 0, 0⟩) (v := .agg (hcells s5 t5 r5 g5)) (vs := hcells s5 t5 r5 g5) (by kernel_rfl) (by kernel_rfl) rfl hc5 s8) (holds_of [(.ld (some 98) (.c (.ptr ⟨h.n, 0, 102⟩)), .agg (hcells s6 t6 r6 g6), 7), (.ld (some 98) (.c (.ptr ⟨h.n, 0, 4⟩)), .agg (hcells s5 t5 r5 g5), 5)] (by kernel_rfl) (holds_and (rd_ld k7.2.2.2) (holds_and (rd_ld k7.2.2.1) rfl))) ?_
  refine Wd.act .undef H9 (by kernel_rfl) (iop_stP (a := ⟨H4.n, 0, 0⟩) (v := .agg (hcells s6 t6 r6 g6)) (vs := hcells s6 t6 r6 g6) (by kernel_rfl) (by kernel_rfl) rfl hc6 s9) (holds_of [(.ld (some 98) (.c (.ptr ⟨h.n, 0, 102⟩)), .agg (hcells s6 t6 r6 g6), 7)] (by kernel_rfl) (holds_and (rd_ld k8.2.2.2) rfl)) ?_
  refine Wd.done (holds_of [] (by kernel_rfl) rfl) ?_
  show Wp TF ow1 _ (ownQ 2)
  exact own9_1 y2 y3 y4 y5 hr5 hr6 hg5 hg6 ho5 ho6 hs5 ht5 hs6 ht6 (ca.ext xH) (cb.ext xH) la lb ha hb (by kernel_rfl) (by kernel_rfl) (by kernel_rfl) (by kernel_rfl) (by kernel_rfl)

theorem bytes_of_ints : ∀ (xs : List Int), (∀ x ∈ xs, IntKind.u8.min ≤ x ∧ x ≤ IntKind.u8.max) → ∃ l : List UInt8, xs.map (AV.int .u8) = bytesAV l ∧ l.length = xs.length
  | [], _ => ⟨[], rfl, rfl⟩
  | x :: xs, h => by
    obtain ⟨l, h1, h2⟩ := bytes_of_ints xs (fun y hy => h y (by simp [hy]))
    have hx := h x (by simp)
    have hx' : 0 ≤ x ∧ x ≤ 255 := by simpa [IntKind.min, IntKind.max, IntKind.bits, IntKind.signed] using hx
    refine ⟨UInt8.ofNat x.toNat :: l, ?_, by simp [h2]⟩
    have e : ((UInt8.ofNat x.toNat).toNat : Int) = x := by rw [UInt8.toNat_ofNat']; omega
    rw [List.map_cons, h1, bytesAV, bytesAV, List.map_cons, e]
theorem ints_one {xs : List Int} : ∀ a ∈ xs.map (AV.int .u8), a.one = true := fun a ha => by
  obtain ⟨x, _, rfl⟩ := List.mem_map.1 ha; rfl
end Go.Det

