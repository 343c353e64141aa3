/- Names of bundles, laid down. -/
import Derived.Test.YthahfhdibhgboaaNameL
import Derived.Test.YthahfhdibhgboaaReads
set_option linter.unusedVariables false
set_option linter.unusedSimpArgs false
set_option linter.unusedSectionVars false
namespace Go.Det
open Go.Proofs
attribute [local irreducible] Wp Wo Wd iop ev slots quiets wanted put

theorem iop_cmp {op : BinOp} {x y : IX} {ρ : IX → AV} {h : H} {k : IntKind} {a b : Int} (c : Bool) (hx : ρ x = .int k a) (hy : ρ y = .int k b) (hop : op = .lss ∨ op = .leq ∨ op = .gtr ∨ op = .geq ∨ op = .eql ∨ op = .neq) (e : binInt op k a b = some (.bool c)) : iop (.bin op x y) ρ h = some (.val (.bool c) h) := by
  rcases hop with rfl | rfl | rfl | rfl | rfl | rfl <;> simp [iop, binop, hx, hy, e]

theorem laid_run {h : H} {n many : Nat} (hn : n < 2 ^ 64) (hm : many < 100) : ∃ r h', Runs TF 86 [.int .u64 n, .int .i64 many] h r h' ∧ r = .str (digs n many) ∧ Ext h h' := by
  refine Runs.ofP f86 rfl ?_
  refine Wp.seq ?_
  refine Wp.region ?_
  refine Wo.pre 8 (by kernel_rfl) ?_
  refine Wo.nil ?_
  refine Wp.seq ?_
  refine Wp.region ?_
  refine Wo.pre 8 (by kernel_rfl) ?_
  refine Wo.nil ?_
  refine Wp.seq ?_
  refine Wp.seq ?_
  refine Wp.region ?_
  refine Wo.pre 8 (by kernel_rfl) ?_
  refine Wo.nil ?_
  refine Wp.block ?_
  refine laid_loop hn hm many 0 (by omega) h _ (by kernel_rfl) (by rw [show n / 10 ^ 0 = n by simp]; kernel_rfl) (by kernel_rfl) (by kernel_rfl) (by kernel_rfl) _ ?_
  intro ts' h' g0 g1 g2
  rw [laid_eq g0 [(5, .str (digs n many))] (by simp [g2])]
  refine Wp.seq ?_
  refine Wp.region ?_
  refine Wo.pre 8 (by kernel_rfl) ?_
  refine Wo.nil ?_
  exact Wp.ret ⟨.inr rfl, .str (digs n many), (by kernel_rfl), rfl, g1⟩

def nameS (n w : Nat) : List UInt8 := [98, 45] ++ digs n 6 ++ [45] ++ digs w 2
def nameR (number : Nat) (width : Int) : AV := if (number : Int) < 1000000 ∧ 1 ≤ width ∧ width ≤ 16 then .tup [.str (nameS number width.toNat), .int .i64 0] else .tup [.str [], .int .i64 1]
theorem nameR_bad {n : Nat} {w : Int} (h : ¬ ((n : Int) < 1000000 ∧ 1 ≤ w ∧ w ≤ 16)) : nameR n w = .tup [.str [], .int .i64 1] := if_neg h
theorem nameR_ok {n w : Nat} (h : (n : Int) < 1000000 ∧ 1 ≤ (w : Int) ∧ (w : Int) ≤ 16) : nameR n w = .tup [.str (nameS n w), .int .i64 0] := by
  unfold nameR
  rw [if_pos h, Int.toNat_natCast]

theorem rname_run {h : H} {n : Nat} (hn : n < 2 ^ 64) (width : Int) : ∃ r h', Runs TF 59 [.int .u64 n, .int .i64 width] h r h' ∧ r = nameR n width ∧ Ext h h' := by
  refine Runs.ofP f59 rfl ?_
  by_cases h1 : (n : Int) > 999999
  · have e : nameR n width = .tup [.str [], .int .i64 1] := nameR_bad (by omega)
    refine Wp.seq ?_
    refine Wp.region ?_
    refine Wo.pre 1 (by kernel_rfl) ?_
    refine Wo.pre 1 (by kernel_rfl) ?_
    refine Wo.nil ?_
    refine Wp.seq ?_
    refine Wp.seq ?_
    refine Wp.region ?_
    refine Wo.pre 1 (by kernel_rfl) ?_
    refine Wo.val (.bool true) h (by kernel_rfl) (iop_cmp (k := .u64) (a := n) (b := 999999) true (by kernel_rfl) (by kernel_rfl) (by simp) (by simp [binInt]; omega)) ?_
    refine Wo.pre 1 (by kernel_rfl) ?_
    refine Wo.pre 1 (by kernel_rfl) ?_
    refine Wo.pre 1 (by kernel_rfl) ?_
    refine Wo.pre 1 (by kernel_rfl) ?_
    refine Wo.pre 1 (by kernel_rfl) ?_
    refine Wo.pre 1 (by kernel_rfl) ?_
    refine Wo.pre 1 (by kernel_rfl) ?_
    refine Wo.pre 1 (by kernel_rfl) ?_
    refine Wo.nil ?_
    refine Wp.cond true (by kernel_rfl) ?_
    refine Wp.seq ?_
    refine Wp.region ?_
    refine Wo.pre 1 (by kernel_rfl) ?_
    refine Wo.pre 1 (by kernel_rfl) ?_
    refine Wo.nil ?_
    exact Wp.ret ⟨.inr rfl, .tup [.str [], .int .i64 1], (by kernel_rfl), e.symm, Ext.refl h⟩
  · by_cases h2 : width < 1
    · have e : nameR n width = .tup [.str [], .int .i64 1] := nameR_bad (by omega)
      refine Wp.seq ?_
      refine Wp.region ?_
      refine Wo.pre 1 (by kernel_rfl) ?_
      refine Wo.pre 1 (by kernel_rfl) ?_
      refine Wo.nil ?_
      refine Wp.seq ?_
      refine Wp.seq ?_
      refine Wp.region ?_
      refine Wo.pre 1 (by kernel_rfl) ?_
      refine Wo.val (.bool false) h (by kernel_rfl) (iop_cmp (k := .u64) (a := n) (b := 999999) false (by kernel_rfl) (by kernel_rfl) (by simp) (by simp [binInt]; omega)) ?_
      refine Wo.pre 1 (by kernel_rfl) ?_
      refine Wo.pre 1 (by kernel_rfl) ?_
      refine Wo.val (.bool true) h (by kernel_rfl) (iop_cmp (k := .i64) (a := width) (b := 1) true (by kernel_rfl) (by kernel_rfl) (by simp) (by simp [binInt]; omega)) ?_
      refine Wo.pre 1 (by kernel_rfl) ?_
      refine Wo.pre 1 (by kernel_rfl) ?_
      refine Wo.pre 1 (by kernel_rfl) ?_
      refine Wo.pre 1 (by kernel_rfl) ?_
      refine Wo.pre 1 (by kernel_rfl) ?_
      refine Wo.nil ?_
      refine Wp.cond true (by kernel_rfl) ?_
      refine Wp.seq ?_
      refine Wp.region ?_
      refine Wo.pre 1 (by kernel_rfl) ?_
      refine Wo.pre 1 (by kernel_rfl) ?_
      refine Wo.nil ?_
      exact Wp.ret ⟨.inr rfl, .tup [.str [], .int .i64 1], (by kernel_rfl), e.symm, Ext.refl h⟩
    · by_cases h3 : width > 16
      · have e : nameR n width = .tup [.str [], .int .i64 1] := nameR_bad (by omega)
        refine Wp.seq ?_
        refine Wp.region ?_
        refine Wo.pre 1 (by kernel_rfl) ?_
        refine Wo.pre 1 (by kernel_rfl) ?_
        refine Wo.nil ?_
        refine Wp.seq ?_
        refine Wp.seq ?_
        refine Wp.region ?_
        refine Wo.pre 1 (by kernel_rfl) ?_
        refine Wo.val (.bool false) h (by kernel_rfl) (iop_cmp (k := .u64) (a := n) (b := 999999) false (by kernel_rfl) (by kernel_rfl) (by simp) (by simp [binInt]; omega)) ?_
        refine Wo.pre 1 (by kernel_rfl) ?_
        refine Wo.pre 1 (by kernel_rfl) ?_
        refine Wo.val (.bool false) h (by kernel_rfl) (iop_cmp (op := .lss) (k := .i64) (a := width) (b := 1) false (by kernel_rfl) (by kernel_rfl) (by simp) (by simp [binInt]; omega)) ?_
        refine Wo.pre 1 (by kernel_rfl) ?_
        refine Wo.pre 1 (by kernel_rfl) ?_
        refine Wo.pre 1 (by kernel_rfl) ?_
        refine Wo.val (.bool true) h (by kernel_rfl) (iop_cmp (op := .gtr) (k := .i64) (a := width) (b := 16) true (by kernel_rfl) (by kernel_rfl) (by simp) (by simp [binInt]; omega)) ?_
        refine Wo.pre 1 (by kernel_rfl) ?_
        refine Wo.nil ?_
        refine Wp.cond true (by kernel_rfl) ?_
        refine Wp.seq ?_
        refine Wp.region ?_
        refine Wo.pre 1 (by kernel_rfl) ?_
        refine Wo.pre 1 (by kernel_rfl) ?_
        refine Wo.nil ?_
        exact Wp.ret ⟨.inr rfl, .tup [.str [], .int .i64 1], (by kernel_rfl), e.symm, Ext.refl h⟩
      · obtain ⟨w, rfl⟩ : ∃ w : Nat, width = w := ⟨width.toNat, by omega⟩
        have e : nameR n w = .tup [.str (nameS n w), .int .i64 0] := nameR_ok (by omega)
        obtain ⟨r1, H1, c1, rfl, X1⟩ := laid_run (h := h) hn (many := 6) (by omega)
        have hw64 : IntKind.u64.wrap (w : Int) = (w : Int) := u64_fit _ (by omega)
        obtain ⟨r2, H2, c2, rfl, X2⟩ := laid_run (h := H1) (n := w) (by omega) (many := 2) (by omega)
        rw [← hw64] at c2
        refine Wp.seq ?_
        refine Wp.region ?_
        refine Wo.pre 1 (by kernel_rfl) ?_
        refine Wo.pre 1 (by kernel_rfl) ?_
        refine Wo.nil ?_
        refine Wp.seq ?_
        refine Wp.seq ?_
        refine Wp.region ?_
        refine Wo.pre 1 (by kernel_rfl) ?_
        refine Wo.val (.bool false) h (by kernel_rfl) (iop_cmp (k := .u64) (a := n) (b := 999999) false (by kernel_rfl) (by kernel_rfl) (by simp) (by simp [binInt]; omega)) ?_
        refine Wo.pre 1 (by kernel_rfl) ?_
        refine Wo.pre 1 (by kernel_rfl) ?_
        refine Wo.val (.bool false) h (by kernel_rfl) (iop_cmp (op := .lss) (k := .i64) (a := w) (b := 1) false (by kernel_rfl) (by kernel_rfl) (by simp) (by simp [binInt]; omega)) ?_
        refine Wo.pre 1 (by kernel_rfl) ?_
        refine Wo.pre 1 (by kernel_rfl) ?_
        refine Wo.pre 1 (by kernel_rfl) ?_
        refine Wo.val (.bool false) h (by kernel_rfl) (iop_cmp (op := .gtr) (k := .i64) (a := w) (b := 16) false (by kernel_rfl) (by kernel_rfl) (by simp) (by simp [binInt]; omega)) ?_
        refine Wo.pre 1 (by kernel_rfl) ?_
        refine Wo.nil ?_
        refine Wp.cond false (by kernel_rfl) ?_
        refine Wp.skip ?_
        refine Wp.seq ?_
        refine Wp.region ?_
        refine Wo.pre 1 (by kernel_rfl) ?_
        refine Wo.call (by kernel_rfl) (by kernel_rfl) (c1) ?_
        refine Wo.val (.str ([98, 45] ++ digs n 6)) H1 (by kernel_rfl) (iop_addS (by kernel_rfl) (by kernel_rfl) (by rw [digs_len]; simp)) ?_
        refine Wo.val (.str ([98, 45] ++ digs n 6 ++ [45])) H1 (by kernel_rfl) (iop_addS (by kernel_rfl) (by kernel_rfl) (by rw [List.length_append, digs_len]; simp)) ?_
        refine Wo.pre 1 (by kernel_rfl) ?_
        refine Wo.pre 1 (by kernel_rfl) ?_
        refine Wo.call (by kernel_rfl) (by kernel_rfl) (c2) ?_
        refine Wo.val (.str ([98, 45] ++ digs n 6 ++ [45] ++ digs w 2)) H2 (by kernel_rfl) (iop_addS (by kernel_rfl) (by kernel_rfl) (by rw [List.length_append, List.length_append, digs_len, digs_len]; simp)) ?_
        refine Wo.pre 1 (by kernel_rfl) ?_
        refine Wo.pre 1 (by kernel_rfl) ?_
        refine Wo.nil ?_
        exact Wp.ret ⟨.inr rfl, .tup [.str (nameS n w), .int .i64 0], (by kernel_rfl), e.symm, X1.trans X2⟩

theorem arr_end (n w : Nat) (hw : w ≤ 16) : ((arr n 6).set 9 (UInt8.ofNat (48 + w / 10))).set 10 (UInt8.ofNat (48 + w % 10)) = nameS n w := by
  have h1 : w / 10 % 10 = w / 10 := by omega
  have hd := digs_len n 6
  obtain ⟨a0, a1, a2, a3, a4, a5, e⟩ : ∃ a0 a1 a2 a3 a4 a5, digs n 6 = [a0, a1, a2, a3, a4, a5] := ⟨_, _, _, _, _, _, rfl⟩
  unfold arr nameS
  rw [e]
  simp [digs, h1]

theorem name_run {h : H} {n : Nat} (hn : n < 2 ^ 64) (width : Int) : ∃ r h', Runs TF 58 [.int .u64 n, .int .i64 width] h r h' ∧ r = nameR n width ∧ Ext h h' := by
  refine Runs.ofP f58 rfl ?_
  by_cases h1 : (n : Int) ≥ 1000000
  · have e : nameR n width = .tup [.str [], .int .i64 1] := nameR_bad (by omega)
    refine Wp.seq ?_
    refine Wp.region ?_
    refine Wo.pre 1 (by kernel_rfl) ?_
    refine Wo.pre 1 (by kernel_rfl) ?_
    refine Wo.nil ?_
    refine Wp.seq ?_
    refine Wp.seq ?_
    refine Wp.region ?_
    refine Wo.pre 1 (by kernel_rfl) ?_
    refine Wo.val (.bool true) h (by kernel_rfl) (iop_cmp (k := .u64) (a := n) (b := 1000000) true (by kernel_rfl) (by kernel_rfl) (by simp) (by simp [binInt]; omega)) ?_
    refine Wo.pre 1 (by kernel_rfl) ?_
    refine Wo.pre 1 (by kernel_rfl) ?_
    refine Wo.pre 1 (by kernel_rfl) ?_
    refine Wo.pre 1 (by kernel_rfl) ?_
    refine Wo.pre 1 (by kernel_rfl) ?_
    refine Wo.pre 1 (by kernel_rfl) ?_
    refine Wo.pre 1 (by kernel_rfl) ?_
    refine Wo.pre 1 (by kernel_rfl) ?_
    refine Wo.nil ?_
    refine Wp.cond true (by kernel_rfl) ?_
    refine Wp.seq ?_
    refine Wp.region ?_
    refine Wo.pre 1 (by kernel_rfl) ?_
    refine Wo.pre 1 (by kernel_rfl) ?_
    refine Wo.nil ?_
    exact Wp.ret ⟨.inr rfl, .tup [.str [], .int .i64 1], (by kernel_rfl), e.symm, Ext.refl h⟩
  · by_cases h2 : width < 1
    · have e : nameR n width = .tup [.str [], .int .i64 1] := nameR_bad (by omega)
      refine Wp.seq ?_
      refine Wp.region ?_
      refine Wo.pre 1 (by kernel_rfl) ?_
      refine Wo.pre 1 (by kernel_rfl) ?_
      refine Wo.nil ?_
      refine Wp.seq ?_
      refine Wp.seq ?_
      refine Wp.region ?_
      refine Wo.pre 1 (by kernel_rfl) ?_
      refine Wo.val (.bool false) h (by kernel_rfl) (iop_cmp (k := .u64) (a := n) (b := 1000000) false (by kernel_rfl) (by kernel_rfl) (by simp) (by simp [binInt]; omega)) ?_
      refine Wo.pre 1 (by kernel_rfl) ?_
      refine Wo.pre 1 (by kernel_rfl) ?_
      refine Wo.val (.bool true) h (by kernel_rfl) (iop_cmp (k := .i64) (a := width) (b := 1) true (by kernel_rfl) (by kernel_rfl) (by simp) (by simp [binInt]; omega)) ?_
      refine Wo.pre 1 (by kernel_rfl) ?_
      refine Wo.pre 1 (by kernel_rfl) ?_
      refine Wo.pre 1 (by kernel_rfl) ?_
      refine Wo.pre 1 (by kernel_rfl) ?_
      refine Wo.pre 1 (by kernel_rfl) ?_
      refine Wo.nil ?_
      refine Wp.cond true (by kernel_rfl) ?_
      refine Wp.seq ?_
      refine Wp.region ?_
      refine Wo.pre 1 (by kernel_rfl) ?_
      refine Wo.pre 1 (by kernel_rfl) ?_
      refine Wo.nil ?_
      exact Wp.ret ⟨.inr rfl, .tup [.str [], .int .i64 1], (by kernel_rfl), e.symm, Ext.refl h⟩
    · by_cases h3 : width > 16
      · have e : nameR n width = .tup [.str [], .int .i64 1] := nameR_bad (by omega)
        refine Wp.seq ?_
        refine Wp.region ?_
        refine Wo.pre 1 (by kernel_rfl) ?_
        refine Wo.pre 1 (by kernel_rfl) ?_
        refine Wo.nil ?_
        refine Wp.seq ?_
        refine Wp.seq ?_
        refine Wp.region ?_
        refine Wo.pre 1 (by kernel_rfl) ?_
        refine Wo.val (.bool false) h (by kernel_rfl) (iop_cmp (k := .u64) (a := n) (b := 1000000) false (by kernel_rfl) (by kernel_rfl) (by simp) (by simp [binInt]; omega)) ?_
        refine Wo.pre 1 (by kernel_rfl) ?_
        refine Wo.pre 1 (by kernel_rfl) ?_
        refine Wo.val (.bool false) h (by kernel_rfl) (iop_cmp (op := .lss) (k := .i64) (a := width) (b := 1) false (by kernel_rfl) (by kernel_rfl) (by simp) (by simp [binInt]; omega)) ?_
        refine Wo.pre 1 (by kernel_rfl) ?_
        refine Wo.pre 1 (by kernel_rfl) ?_
        refine Wo.pre 1 (by kernel_rfl) ?_
        refine Wo.val (.bool true) h (by kernel_rfl) (iop_cmp (op := .gtr) (k := .i64) (a := width) (b := 16) true (by kernel_rfl) (by kernel_rfl) (by simp) (by simp [binInt]; omega)) ?_
        refine Wo.pre 1 (by kernel_rfl) ?_
        refine Wo.nil ?_
        refine Wp.cond true (by kernel_rfl) ?_
        refine Wp.seq ?_
        refine Wp.region ?_
        refine Wo.pre 1 (by kernel_rfl) ?_
        refine Wo.pre 1 (by kernel_rfl) ?_
        refine Wo.nil ?_
        exact Wp.ret ⟨.inr rfl, .tup [.str [], .int .i64 1], (by kernel_rfl), e.symm, Ext.refl h⟩
      · obtain ⟨w, rfl⟩ : ∃ w : Nat, width = w := ⟨width.toNat, by omega⟩
        have e : nameR n w = .tup [.str (nameS n w), .int .i64 0] := nameR_ok (by omega)
        obtain ⟨H1, hH1⟩ : ∃ H1, H1 = h.new (.cells 0 5 (bytesAV (arr n 0)) 0 false) := ⟨_, rfl⟩
        have X1 : Ext h H1 := by rw [hH1]; exact Ext.new _ _
        have g1 : H1.get h.n = some (.cells 0 5 (bytesAV (arr n 0)) 0 false) := by rw [hH1]; exact h.get_new _
        have e1 : ∀ ts, iop (.bsl 5 [.int .u8 0, .int .u8 0, .int .u8 0, .int .u8 0, .int .u8 0, .int .u8 0, .int .u8 0, .int .u8 0, .int .u8 0, .int .u8 0, .int .u8 0] 11 [(0, 1, .c (.int .u8 98)), (1, 1, .c (.int .u8 45)), (2, 1, .c (.int .u8 48)), (3, 1, .c (.int .u8 48)), (4, 1, .c (.int .u8 48)), (5, 1, .c (.int .u8 48)), (6, 1, .c (.int .u8 48)), (7, 1, .c (.int .u8 48)), (8, 1, .c (.int .u8 45)), (9, 1, .c (.int .u8 48)), (10, 1, .c (.int .u8 48))]) (ev ts) h = some (.val (.sl ⟨h.n, 0, 0⟩ 11 (.ex 11)) H1) := fun ts => by rw [hH1]; kernel_rfl
        have e2 : ∀ {x : IX} {ρ : IX → AV}, ρ x = .sl ⟨h.n, 0, 0⟩ 11 (.ex 11) → iop (.cvBB x) ρ H1 = some (.val (.sl ⟨h.n, 0, 0⟩ 11 (.ex 11)) H1) := fun hx => by simp [iop, hx, g1, capPos]
        have L1 : H1.ldg ⟨h.n, 0, 0⟩ (some 11) = some (.agg (bytesAV (arr n 0))) := by
          have : H1.ldn ⟨h.n, 0, 0⟩ 11 = some (bytesAV (arr n 0)) := by
            unfold H.ldn H.row
            simp only [g1, BEq.rfl, Bool.not_false, Bool.true_or, Bool.and_self, if_true]
            exact cut_all _
          simp [H.ldg, this]
        obtain ⟨H2, hH2⟩ : ∃ H2, H2 = H1.new (.cells 0 134 (List.replicate 11 (.int .u8 0)) 0 false) := ⟨_, rfl⟩
        have g2 : H2.get H1.n = some (.cells 0 134 (List.replicate 11 (.int .u8 0)) 0 false) := by rw [hH2]; exact H1.get_new _
        have enew : ∀ ts, iop (.new 134 (.c (.agg [.int .u8 0, .int .u8 0, .int .u8 0, .int .u8 0, .int .u8 0, .int .u8 0, .int .u8 0, .int .u8 0, .int .u8 0, .int .u8 0, .int .u8 0]))) (ev ts) H1 = some (.val (.ptr ⟨H1.n, 0, 0⟩) H2) := fun ts => by rw [hH2]; exact iop_new (by kernel_rfl) rfl
        obtain ⟨H3, hH3⟩ : ∃ H3, H3 = H2.set H1.n (.cells 0 134 (bytesAV (arr n 0)) 0 false) := ⟨_, rfl⟩
        have st3 : H2.st ⟨H1.n, 0, 0⟩ (bytesAV (arr n 0)) = some H3 := by
          have hl : (bytesAV (arr n 0)).length = 11 := by rw [bytes_len, arr_len _ _ (by omega)]
          have ho := bytes_one (arr n 0)
          unfold H.st
          simp only [g2]
          rw [if_pos (by simp [-List.all_eq_true, hl, ho]), hH3]
          rfl
        have g3 : H3.get H1.n = some (.cells 0 134 (bytesAV (arr n 0)) 0 false) := by rw [hH3, H2.get_set]
        have n3 : H3.n = H1.n + 1 := by rw [hH3, hH2]; rfl
        have X3 : Ext h H3 := ⟨by have := X1.1; omega, fun b hb => by rw [hH3, H2.get_set_ne _ b _ (by have := X1.1; omega), hH2, H1.get_new_ne b _ (by have := X1.1; omega)]; exact X1.2 b hb⟩
        refine Wp.seq ?_
        refine Wp.region ?_
        refine Wo.pre 1 (by kernel_rfl) ?_
        refine Wo.pre 1 (by kernel_rfl) ?_
        refine Wo.nil ?_
        refine Wp.seq ?_
        refine Wp.seq ?_
        refine Wp.region ?_
        refine Wo.pre 1 (by kernel_rfl) ?_
        refine Wo.val (.bool false) h (by kernel_rfl) (iop_cmp (k := .u64) (a := n) (b := 1000000) false (by kernel_rfl) (by kernel_rfl) (by simp) (by simp [binInt]; omega)) ?_
        refine Wo.pre 1 (by kernel_rfl) ?_
        refine Wo.pre 1 (by kernel_rfl) ?_
        refine Wo.val (.bool false) h (by kernel_rfl) (iop_cmp (op := .lss) (k := .i64) (a := w) (b := 1) false (by kernel_rfl) (by kernel_rfl) (by simp) (by simp [binInt]; omega)) ?_
        refine Wo.pre 1 (by kernel_rfl) ?_
        refine Wo.pre 1 (by kernel_rfl) ?_
        refine Wo.pre 1 (by kernel_rfl) ?_
        refine Wo.val (.bool false) h (by kernel_rfl) (iop_cmp (op := .gtr) (k := .i64) (a := w) (b := 16) false (by kernel_rfl) (by kernel_rfl) (by simp) (by simp [binInt]; omega)) ?_
        refine Wo.pre 1 (by kernel_rfl) ?_
        refine Wo.nil ?_
        refine Wp.cond false (by kernel_rfl) ?_
        refine Wp.skip ?_
        refine Wp.seq ?_
        refine Wp.region ?_
        refine Wo.val _ _ (by kernel_rfl) (e1 _) ?_
        refine Wo.val _ H1 (by kernel_rfl) (e2 (by kernel_rfl)) ?_
        refine Wo.pre 1 (by kernel_rfl) ?_
        refine Wo.val (.agg (bytesAV (arr n 0))) H1 (by kernel_rfl) (iop_ld (a := ⟨h.n, 0, 0⟩) (by kernel_rfl) L1) ?_
        refine Wo.val _ _ (by kernel_rfl) (enew _) ?_
        refine Wo.val .undef H3 (by kernel_rfl) (iop_stA (a := ⟨H1.n, 0, 0⟩) (cs := bytesAV (arr n 0)) (by kernel_rfl) (by kernel_rfl) (by rw [bytes_len, arr_len _ _ (by omega)]) st3) ?_
        refine Wo.nil ?_
        refine Wp.seq ?_
        refine Wp.seq ?_
        refine Wp.region ?_
        refine Wo.pre 1 (by kernel_rfl) ?_
        refine Wo.pre 1 (by kernel_rfl) ?_
        refine Wo.pre 1 (by kernel_rfl) ?_
        refine Wo.nil ?_
        refine Wp.block ?_
        refine name_loop (w := .int .i64 w) hn 6 0 (by omega) H3 _ (by kernel_rfl) (by kernel_rfl) (by kernel_rfl) (by kernel_rfl) (by rw [show n / 10 ^ 0 = n by simp]; kernel_rfl) g3 _ ?_
        intro ts' K1 d0 d1 d6 dn dk dg
        rw [laid_eq d0 [(1, .int .i64 w), (6, .ptr ⟨H1.n, 0, 0⟩)] (by simp [d1, d6])]
        obtain ⟨c9, hc9⟩ : ∃ c, c = UInt8.ofNat (48 + w / 10) := ⟨_, rfl⟩
        obtain ⟨c10, hc10⟩ : ∃ c, c = UInt8.ofNat (48 + w % 10) := ⟨_, rfl⟩
        have f9 : IntKind.u8.wrap (48 + IntKind.u8.wrap (IntKind.i64.wrap ((w : Int).tdiv 10))) = (c9.toNat : Int) := by
          rw [tdiv10, i64_fit _ (by omega), u8_fit ((w / 10 : Nat) : Int) (by omega), u8_fit _ (by omega), hc9, UInt8.toNat_ofNat']
          omega
        have f10 : IntKind.u8.wrap (48 + IntKind.u8.wrap ((w : Int).tmod 10)) = (c10.toNat : Int) := by
          rw [tmod10, u8_fit ((w % 10 : Nat) : Int) (by omega), u8_fit _ (by omega), hc10, UInt8.toNat_ofNat']
          omega
        have hend := arr_end n w (by omega)
        rw [← hc9, ← hc10] at hend
        have hal := arr_len n 6 (by omega)
        have a9 : (arr n 6)[9]? = some 48 := rfl
        have a10 : ((arr n 6).set 9 c9)[10]? = some 48 := rfl
        have M9 : K1.ldg ⟨H1.n, 0, 9⟩ none = some (.int .u8 48) := by simp [H.ldg, H.ld, H.row, dg, get_byte, a9]
        have S9 := st_byte dg (k := 9) (by omega) c9
        obtain ⟨K2, hK2⟩ : ∃ K2, K2 = K1.set H1.n (.cells 0 134 (bytesAV ((arr n 6).set 9 c9)) 0 false) := ⟨_, rfl⟩
        rw [← hK2] at S9
        have dg2 : K2.get H1.n = some (.cells 0 134 (bytesAV ((arr n 6).set 9 c9)) 0 false) := by rw [hK2, K1.get_set]
        have M10 : K2.ldg ⟨H1.n, 0, 10⟩ none = some (.int .u8 48) := by simp [H.ldg, H.ld, H.row, dg2, get_byte, a10]
        have S10 := st_byte dg2 (k := 10) (by simp; omega) c10
        rw [hend] at S10
        obtain ⟨K3, hK3⟩ : ∃ K3, K3 = K2.set H1.n (.cells 0 134 (bytesAV (nameS n w)) 0 false) := ⟨_, rfl⟩
        rw [← hK3] at S10
        have dg3 : K3.get H1.n = some (.cells 0 134 (bytesAV (nameS n w)) 0 false) := by rw [hK3, K2.get_set]
        have hsl : (nameS n w).length = 11 := by rw [← hend]; simp [hal]
        have k3n : K3.n = K1.n := by rw [hK3, hK2]; rfl
        have hbs : Bs K3 (.sl ⟨H1.n, 0, 0⟩ 11 (.ex 11)) (nameS n w) := by
          refine .inr ⟨⟨H1.n, 0, 0⟩, .ex 11, by rw [hsl], by show H1.n < K3.n; omega, ?_⟩
          unfold H.ldn H.row
          simp only [dg3, BEq.rfl, Bool.not_false, Bool.true_or, Bool.and_self, if_true]
          rw [← bytes_len]
          exact cut_all _
        refine Wp.seq ?_
        refine Wp.region ?_
        refine Wo.pre 1 (by kernel_rfl) ?_
        refine Wo.val (.int .u8 48) K1 (by kernel_rfl) (iop_ld (a := ⟨H1.n, 0, 9⟩) (by kernel_rfl) M9) ?_
        refine Wo.pre 3 (by kernel_rfl) ?_
        refine Wo.pre 1 (by kernel_rfl) ?_
        refine Wo.pre 1 (by kernel_rfl) ?_
        refine Wo.val .undef K2 (by kernel_rfl) (iop_st1 (a := ⟨H1.n, 0, 9⟩) (v := .int .u8 c9.toNat) (by kernel_rfl) (by rw [← f9]; kernel_rfl) rfl S9) ?_
        refine Wo.nil ?_
        refine Wp.seq ?_
        refine Wp.region ?_
        refine Wo.pre 1 (by kernel_rfl) ?_
        refine Wo.val (.int .u8 48) K2 (by kernel_rfl) (iop_ld (a := ⟨H1.n, 0, 10⟩) (by kernel_rfl) M10) ?_
        refine Wo.pre 3 (by kernel_rfl) ?_
        refine Wo.pre 1 (by kernel_rfl) ?_
        refine Wo.pre 1 (by kernel_rfl) ?_
        refine Wo.val .undef K3 (by kernel_rfl) (iop_st1 (a := ⟨H1.n, 0, 10⟩) (v := .int .u8 c10.toNat) (by kernel_rfl) (by rw [← f10]; kernel_rfl) rfl S10) ?_
        refine Wo.nil ?_
        refine Wp.seq ?_
        refine Wp.region ?_
        refine Wo.pre 1 (by kernel_rfl) ?_
        refine Wo.val (.str (nameS n w)) K3 (by kernel_rfl) (iop_cvBS (v := .sl ⟨H1.n, 0, 0⟩ 11 (.ex 11)) (by kernel_rfl) hbs) ?_
        refine Wo.pre 8 (by kernel_rfl) ?_
        refine Wo.nil ?_
        refine Wp.ret ⟨.inr rfl, .tup [.str (nameS n w), .int .i64 0], (by kernel_rfl), e.symm, (by have := X3.1; show h.n ≤ K3.n; omega), fun b hb => ?_⟩
        have := X1.1
        show K3.get b = h.get b
        rw [hK3, K2.get_set_ne _ b _ (by omega), hK2, K1.get_set_ne _ b _ (by omega), dk b (by omega), X3.2 b hb]
end Go.Det
