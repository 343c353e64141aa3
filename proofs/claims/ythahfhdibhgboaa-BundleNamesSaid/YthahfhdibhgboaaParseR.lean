/- Names of bundles, read: both ways. The law BundleNames. -/
import Derived.Test.YthahfhdibhgboaaParse
set_option linter.unusedVariables false
set_option linter.unusedSimpArgs false
set_option linter.unusedSectionVars false
namespace Go.Det
open Go.Proofs
attribute [local irreducible] Wp Wo Wd iop ev slots quiets wanted put

theorem iop_neS {x y : IX} {ρ : IX → AV} {h : H} {a b : List UInt8} (c : Bool) (hx : ρ x = .str a) (hy : ρ y = .str b) (e : (!(a == b)) = c) : iop (.bin .neq x y) ρ h = some (.val (.bool c) h) := by
  simp [iop, binop, binStr, hx, hy, ← e]
theorem iop_eqS {x y : IX} {ρ : IX → AV} {h : H} {a b : List UInt8} (c : Bool) (hx : ρ x = .str a) (hy : ρ y = .str b) (e : (a == b) = c) : iop (.bin .eql x y) ρ h = some (.val (.bool c) h) := by
  simp [iop, binop, binStr, hx, hy, ← e]

def numS (s : List UInt8) : Nat := val ((s.take 8).drop 2)
def widS (s : List UInt8) : Nat := val ((s.take 11).drop 9)
def okS (s : List UInt8) : Prop := s.length = 11 ∧ ∀ p, p < 11 → okAt s p
noncomputable def parseR (s : List UInt8) : AV := @ite _ (okS s ∧ 1 ≤ widS s ∧ widS s ≤ 16) (Classical.propDecidable _) (.tup [.int .u64 (numS s : Nat), .int .i64 (widS s : Nat), .int .i64 0]) (.tup [.int .u64 0, .int .i64 0, .int .i64 5])
theorem parseR_bad {s : List UInt8} (h : ¬ (okS s ∧ 1 ≤ widS s ∧ widS s ≤ 16)) : parseR s = .tup [.int .u64 0, .int .i64 0, .int .i64 5] := by unfold parseR; exact if_neg h
theorem parseR_ok {s : List UInt8} (h : okS s ∧ 1 ≤ widS s ∧ widS s ≤ 16) : parseR s = .tup [.int .u64 (numS s : Nat), .int .i64 (widS s : Nat), .int .i64 0] := by unfold parseR; exact if_pos h

theorem ok_digit {s : List UInt8} {p : Nat} {c : UInt8} (h : okAt s p) (hc : s[p]? = some c) (hf : nameF[p]? = some 48) : 48 ≤ c.toNat ∧ c.toNat ≤ 57 := by
  obtain ⟨c', f', e1, e2, e3⟩ := h
  rw [hc] at e1; rw [hf] at e2
  cases e1; cases e2
  simpa using e3

theorem split_val {s : List UInt8} (h : okS s) : val (dgs s 11) = numS s * 100 + widS s ∧ widS s < 100 ∧ numS s < 1000000 := by
  obtain ⟨hl, hok⟩ := h
  obtain ⟨c0, c1, c2, c3, c4, c5, c6, c7, c8, c9, c10, rfl⟩ := len11 hl
  have d2 := ok_digit (hok 2 (by omega)) (c := c2) rfl rfl
  have d3 := ok_digit (hok 3 (by omega)) (c := c3) rfl rfl
  have d4 := ok_digit (hok 4 (by omega)) (c := c4) rfl rfl
  have d5 := ok_digit (hok 5 (by omega)) (c := c5) rfl rfl
  have d6 := ok_digit (hok 6 (by omega)) (c := c6) rfl rfl
  have d7 := ok_digit (hok 7 (by omega)) (c := c7) rfl rfl
  have d9 := ok_digit (hok 9 (by omega)) (c := c9) rfl rfl
  have d10 := ok_digit (hok 10 (by omega)) (c := c10) rfl rfl
  simp only [dgs, numS, widS, val, List.take, List.drop, List.foldl, List.cons_append, List.nil_append, Nat.min_def]
  simp only [show ¬ (11 ≤ 8) by omega, if_false, List.take, List.drop, List.foldl, List.cons_append, List.nil_append]
  omega

set_option maxHeartbeats 2000000 in
theorem parse_run {h : H} (s : List UInt8) (hl : s.length < 2 ^ 62) : ∃ r h', Runs TF 60 [.str s] h r h' ∧ r = parseR s ∧ Ext h h' := by
  refine Runs.ofP f60 rfl ?_
  by_cases h11 : s.length = 11
  · obtain ⟨H1, hH1⟩ : ∃ H1, H1 = h.new (.iter nameF 0) := ⟨_, rfl⟩
    have X1 : Ext h H1 := by rw [hH1]; exact Ext.new _ _
    have g1 : H1.get h.n = some (.iter nameF 0) := by rw [hH1]; exact h.get_new _
    have er : ∀ ts, iop (.rng (.c (.str [98, 45, 48, 48, 48, 48, 48, 48, 45, 48, 48]))) (ev ts) h = some (.val (.ptr ⟨h.n, 0, 0⟩) H1) := fun ts => by rw [hH1]; kernel_rfl
    have hlen : (s.length : Int) = 11 := by omega
    have hv0 : val (dgs s 0) = 0 := by simp [dgs, val]
    refine Wp.seq ?_
    refine Wp.region ?_
    refine Wo.pre 1 (by kernel_rfl) ?_
    refine Wo.pre 1 (by kernel_rfl) ?_
    refine Wo.pre 1 (by kernel_rfl) ?_
    refine Wo.nil ?_
    refine Wp.seq ?_
    refine Wp.seq ?_
    refine Wp.region ?_
    refine Wo.pre 1 (by kernel_rfl) ?_
    refine Wo.pre 1 (by kernel_rfl) ?_
    refine Wo.val (.bool false) h (by kernel_rfl) (iop_cmp (op := .neq) (k := .i64) (a := s.length) (b := 11) false (by kernel_rfl) (by kernel_rfl) (by simp) (by simp [binInt, hlen])) ?_
    refine Wo.nil ?_
    refine Wp.cond false (by kernel_rfl) ?_
    refine Wp.skip ?_
    refine Wp.seq ?_
    refine Wp.region ?_
    refine Wo.pre 1 (by kernel_rfl) ?_
    refine Wo.nil ?_
    refine Wp.seq ?_
    refine Wp.seq ?_
    refine Wp.region ?_
    refine Wo.val _ H1 (by kernel_rfl) (er _) ?_
    refine Wo.nil ?_
    refine Wp.block ?_
    refine parse_loop h11 (blk := h.n) 11 0 (by omega) H1 _ (by kernel_rfl) (by kernel_rfl) (by rw [hv0]; kernel_rfl) (by kernel_rfl) g1 (fun p hp => absurd hp (by omega)) (by rw [hv0]; decide) _ ?_ ?_
    · intro p hp hn ts' h' d0 dn dk d2 d3 d4
      rw [laid_eq d0 [(2, .int .u64 0), (3, .int .i64 0), (4, .int .i64 5)] (by simp [d2, d3, d4])]
      have e := parseR_bad (s := s) (fun q => hn (q.1.2 p hp))
      exact ⟨.inr rfl, .tup [.int .u64 0, .int .i64 0, .int .i64 5], (by kernel_rfl), e.symm, by have := X1.1; show h.n ≤ h'.n; omega, fun b hb => by show h'.get b = _; rw [dk b (by omega)]; exact X1.2 b hb⟩
    · intro hok hv ts' h' d0 dn dk d5
      have hoks : okS s := ⟨h11, hok⟩
      obtain ⟨q1, q2, q3⟩ := split_val hoks
      rw [q1] at d5 hv
      obtain ⟨N, hN⟩ : ∃ N, N = numS s := ⟨_, rfl⟩
      obtain ⟨W, hW⟩ : ∃ W, W = widS s := ⟨_, rfl⟩
      rw [← hN, ← hW] at d5 hv
      rw [← hN] at q3
      rw [← hW] at q2
      have X' : Ext h h' := ⟨by have := X1.1; omega, fun b hb => by rw [dk b (by omega)]; exact X1.2 b hb⟩
      have w1 : IntKind.u64.wrap (((N * 100 + W : Nat) : Int).tdiv 100) = (N : Int) := by
        rw [Int.tdiv_eq_ediv_of_nonneg (by omega), u64_fit _ (by omega)]; omega
      have w2 : IntKind.i64.wrap (((N * 100 + W : Nat) : Int).tmod 100) = (W : Int) := by
        rw [Int.tmod_eq_emod_of_nonneg (by omega), i64_fit _ (by omega)]; omega
      rw [laid_eq d0 [(5, .int .u64 (N * 100 + W : Nat))] (by simp [d5])]
      by_cases hb1 : W < 1
      · have e := parseR_bad (s := s) (fun q => by have := q.2; omega)
        refine Wp.seq ?_
        refine Wp.region ?_
        refine Wo.pre 1 (by kernel_rfl) ?_
        refine Wo.pre 1 (by kernel_rfl) ?_
        refine Wo.pre 1 (by kernel_rfl) ?_
        refine Wo.pre 1 (by kernel_rfl) ?_
        refine Wo.pre 1 (by kernel_rfl) ?_
        refine Wo.pre 1 (by kernel_rfl) ?_
        refine Wo.pre 1 (by kernel_rfl) ?_
        refine Wo.nil ?_
        refine Wp.seq ?_
        refine Wp.seq ?_
        refine Wp.region ?_
        refine Wo.pre 1 (by kernel_rfl) ?_
        refine Wo.val (.bool true) h' (by kernel_rfl) (iop_cmp (op := .lss) (k := .i64) (a := IntKind.i64.wrap (((N * 100 + W : Nat) : Int).tmod 100)) (b := 1) true (by kernel_rfl) (by kernel_rfl) (by simp) (by rw [w2]; simp [binInt]; omega)) ?_
        refine Wo.pre 1 (by kernel_rfl) ?_
        refine Wo.pre 1 (by kernel_rfl) ?_
        refine Wo.pre 1 (by kernel_rfl) ?_
        refine Wo.pre 1 (by kernel_rfl) ?_
        refine Wo.nil ?_
        refine Wp.cond true (by kernel_rfl) ?_
        refine Wp.seq ?_
        refine Wp.region ?_
        refine Wo.pre 1 (by kernel_rfl) ?_
        refine Wo.pre 1 (by kernel_rfl) ?_
        refine Wo.pre 1 (by kernel_rfl) ?_
        refine Wo.nil ?_
        exact Wp.ret ⟨.inr rfl, .tup [.int .u64 0, .int .i64 0, .int .i64 5], (by kernel_rfl), e.symm, X'⟩
      · by_cases hb2 : W > 16
        · have e := parseR_bad (s := s) (fun q => by have := q.2; omega)
          refine Wp.seq ?_
          refine Wp.region ?_
          refine Wo.pre 1 (by kernel_rfl) ?_
          refine Wo.pre 1 (by kernel_rfl) ?_
          refine Wo.pre 1 (by kernel_rfl) ?_
          refine Wo.pre 1 (by kernel_rfl) ?_
          refine Wo.pre 1 (by kernel_rfl) ?_
          refine Wo.pre 1 (by kernel_rfl) ?_
          refine Wo.pre 1 (by kernel_rfl) ?_
          refine Wo.nil ?_
          refine Wp.seq ?_
          refine Wp.seq ?_
          refine Wp.region ?_
          refine Wo.pre 1 (by kernel_rfl) ?_
          refine Wo.val (.bool false) h' (by kernel_rfl) (iop_cmp (op := .lss) (k := .i64) (a := IntKind.i64.wrap (((N * 100 + W : Nat) : Int).tmod 100)) (b := 1) false (by kernel_rfl) (by kernel_rfl) (by simp) (by rw [w2]; simp [binInt]; omega)) ?_
          refine Wo.pre 1 (by kernel_rfl) ?_
          refine Wo.pre 1 (by kernel_rfl) ?_
          refine Wo.val (.bool true) h' (by kernel_rfl) (iop_cmp (op := .gtr) (k := .i64) (a := IntKind.i64.wrap (((N * 100 + W : Nat) : Int).tmod 100)) (b := 16) true (by kernel_rfl) (by kernel_rfl) (by simp) (by rw [w2]; simp [binInt]; omega)) ?_
          refine Wo.pre 1 (by kernel_rfl) ?_
          refine Wo.nil ?_
          refine Wp.cond true (by kernel_rfl) ?_
          refine Wp.seq ?_
          refine Wp.region ?_
          refine Wo.pre 1 (by kernel_rfl) ?_
          refine Wo.pre 1 (by kernel_rfl) ?_
          refine Wo.pre 1 (by kernel_rfl) ?_
          refine Wo.nil ?_
          exact Wp.ret ⟨.inr rfl, .tup [.int .u64 0, .int .i64 0, .int .i64 5], (by kernel_rfl), e.symm, X'⟩
        · have e := parseR_ok (s := s) ⟨hoks, by omega, by omega⟩
          rw [← hN, ← hW] at e
          refine Wp.seq ?_
          refine Wp.region ?_
          refine Wo.pre 1 (by kernel_rfl) ?_
          refine Wo.pre 1 (by kernel_rfl) ?_
          refine Wo.pre 1 (by kernel_rfl) ?_
          refine Wo.pre 1 (by kernel_rfl) ?_
          refine Wo.pre 1 (by kernel_rfl) ?_
          refine Wo.pre 1 (by kernel_rfl) ?_
          refine Wo.pre 1 (by kernel_rfl) ?_
          refine Wo.nil ?_
          refine Wp.seq ?_
          refine Wp.seq ?_
          refine Wp.region ?_
          refine Wo.pre 1 (by kernel_rfl) ?_
          refine Wo.val (.bool false) h' (by kernel_rfl) (iop_cmp (op := .lss) (k := .i64) (a := IntKind.i64.wrap (((N * 100 + W : Nat) : Int).tmod 100)) (b := 1) false (by kernel_rfl) (by kernel_rfl) (by simp) (by rw [w2]; simp [binInt]; omega)) ?_
          refine Wo.pre 1 (by kernel_rfl) ?_
          refine Wo.pre 1 (by kernel_rfl) ?_
          refine Wo.val (.bool false) h' (by kernel_rfl) (iop_cmp (op := .gtr) (k := .i64) (a := IntKind.i64.wrap (((N * 100 + W : Nat) : Int).tmod 100)) (b := 16) false (by kernel_rfl) (by kernel_rfl) (by simp) (by rw [w2]; simp [binInt]; omega)) ?_
          refine Wo.pre 1 (by kernel_rfl) ?_
          refine Wo.nil ?_
          refine Wp.cond false (by kernel_rfl) ?_
          refine Wp.skip ?_
          refine Wp.seq ?_
          refine Wp.region ?_
          refine Wo.pre 1 (by kernel_rfl) ?_
          refine Wo.pre 1 (by kernel_rfl) ?_
          refine Wo.pre 1 (by kernel_rfl) ?_
          refine Wo.pre 1 (by kernel_rfl) ?_
          refine Wo.pre 1 (by kernel_rfl) ?_
          refine Wo.nil ?_
          exact Wp.ret ⟨.inr rfl, .tup [.int .u64 N, .int .i64 W, .int .i64 0], by rw [← w1, ← w2]; kernel_rfl, e.symm, X'⟩
  · have e := parseR_bad (s := s) (fun q => h11 q.1.1)
    have hlen : (s.length : Int) ≠ 11 := by omega
    refine Wp.seq ?_
    refine Wp.region ?_
    refine Wo.pre 1 (by kernel_rfl) ?_
    refine Wo.pre 1 (by kernel_rfl) ?_
    refine Wo.pre 1 (by kernel_rfl) ?_
    refine Wo.nil ?_
    refine Wp.seq ?_
    refine Wp.seq ?_
    refine Wp.region ?_
    refine Wo.pre 1 (by kernel_rfl) ?_
    refine Wo.pre 1 (by kernel_rfl) ?_
    refine Wo.val (.bool true) h (by kernel_rfl) (iop_cmp (op := .neq) (k := .i64) (a := s.length) (b := 11) true (by kernel_rfl) (by kernel_rfl) (by simp) (by simp [binInt, hlen])) ?_
    refine Wo.nil ?_
    refine Wp.cond true (by kernel_rfl) ?_
    refine Wp.seq ?_
    refine Wp.region ?_
    refine Wo.pre 1 (by kernel_rfl) ?_
    refine Wo.pre 1 (by kernel_rfl) ?_
    refine Wo.pre 1 (by kernel_rfl) ?_
    refine Wo.nil ?_
    exact Wp.ret ⟨.inr rfl, .tup [.int .u64 0, .int .i64 0, .int .i64 5], (by kernel_rfl), e.symm, Ext.refl h⟩
end Go.Det
