/- Names of bundles, read by the reference; the law BundleNames. -/
import Derived.Test.YthahfhdibhgboaaParseR
set_option linter.unusedVariables false
set_option linter.unusedSimpArgs false
set_option linter.unusedSectionVars false
namespace Go.Det
open Go.Proofs
attribute [local irreducible] Wp Wo Wd iop ev slots quiets wanted put

def numI (s : List UInt8) (i : Nat) : Nat := val ((s.take (min i 8)).drop 2)
def widI (s : List UInt8) (i : Nat) : Nat := val ((s.take i).drop 9)
def okD (s : List UInt8) (p : Nat) : Prop := ∃ c, s[p]? = some c ∧ 48 ≤ c.toNat ∧ c.toNat ≤ 57

theorem nw_step {s : List UInt8} (h : s.length = 11) {i : Nat} (h2 : 2 ≤ i) (hi : i < 11) {c : UInt8} (hc : s[i]? = some c) : numI s (i + 1) = (if i < 8 then 10 * numI s i + (c.toNat - 48) else numI s i) ∧ widI s (i + 1) = (if 9 ≤ i then 10 * widI s i + (c.toNat - 48) else widI s i) := by
  obtain ⟨c0, c1, c2, c3, c4, c5, c6, c7, c8, c9, c10, rfl⟩ := len11 h
  have : i = 2 ∨ i = 3 ∨ i = 4 ∨ i = 5 ∨ i = 6 ∨ i = 7 ∨ i = 8 ∨ i = 9 ∨ i = 10 := by omega
  rcases this with rfl | rfl | rfl | rfl | rfl | rfl | rfl | rfl | rfl <;>
    (simp only [List.getElem?_cons_zero, List.getElem?_cons_succ, Option.some.injEq] at hc; subst hc; simp [numI, widI, val])

set_option maxHeartbeats 2000000 in
theorem parse61_loop {s : List UInt8} (hs : s.length = 11) {h : H} :
    ∀ (k i : Nat), i + k = 11 → 2 ≤ i → ∀ (ts : List AV), ts.length = 63 → getL ts 0 = some (.str s) → getL ts 5 = some (.int .u64 (numI s i)) → getL ts 6 = some (.int .i64 (widI s i)) → getL ts 7 = some (.int .i64 i) → (∀ p, 2 ≤ p → p < i → p ≠ 8 → okD s p) → numI s i < 10 ^ i → widI s i < 10 ^ i →
      ∀ (Q : Ex → St → Prop), (∀ p, 2 ≤ p → p < 11 → p ≠ 8 → ¬ okD s p → ∀ ts', ts'.length = 63 → getL ts' 2 = some (.int .u64 0) → getL ts' 3 = some (.int .i64 0) → getL ts' 4 = some (.int .i64 5) → Q .ret (ts', h)) →
        ((∀ p, 2 ≤ p → p < 11 → p ≠ 8 → okD s p) → ∀ ts', ts'.length = 63 → getL ts' 5 = some (.int .u64 (numI s 11)) → getL ts' 6 = some (.int .i64 (widI s 11)) → Q (.exit 0) (ts', h)) → Wp TF (.loop l61_1) (ts, h) Q := by
  intro k
  induction k with
  | zero =>
    intro i hi hi2 ts t0 ta t5 t6 t7 hok hn hw Q hbad hgood
    obtain rfl : i = 11 := by omega
    refine Wp.loop ?_
    rw [laid_eq t0 [(0, .str s), (5, .int .u64 (numI s 11)), (6, .int .i64 (widI s 11)), (7, .int .i64 11)] (by simp [ta, t5, t6, t7])]
    unfold l61_1
    refine Wp.seq ?_
    refine Wp.seq ?_
    refine Wp.region ?_
    refine Wo.pre 8 (by kernel_rfl) ?_
    refine Wo.nil ?_
    refine Wp.cond false (by kernel_rfl) ?_
    exact Wp.exit (hgood hok _ (by kernel_rfl) (by kernel_rfl) (by kernel_rfl))
  | succ k ih =>
    intro i hi hi2 ts t0 ta t5 t6 t7 hok hn hw Q hbad hgood
    have hlt : i < 11 := by omega
    obtain ⟨c, hc⟩ : ∃ c, s[i]? = some c := ⟨s[i]'(by omega), List.getElem?_eq_getElem (by omega)⟩
    obtain ⟨e1, e2⟩ := nw_step hs hi2 hlt hc
    obtain ⟨N, hN⟩ : ∃ N, N = numI s i := ⟨_, rfl⟩
    obtain ⟨W, hW⟩ : ∃ W, W = widI s i := ⟨_, rfl⟩
    rw [← hN] at t5 hn e1
    rw [← hW] at t6 hw e2
    have hp10 : 10 ^ (i + 1) = 10 * 10 ^ i := by rw [Nat.pow_succ, Nat.mul_comm]
    have hp11 : 10 ^ i ≤ 10 ^ 10 := Nat.pow_le_pow_right (by omega) (by omega)
    have hc8 := c.toNat_lt
    have wi : IntKind.i64.wrap ((i : Int) + 1) = ((i + 1 : Nat) : Int) := by rw [i64_fit _ (by omega)]; omega
    refine Wp.loop ?_
    rw [laid_eq t0 [(0, .str s), (5, .int .u64 N), (6, .int .i64 W), (7, .int .i64 i)] (by simp [ta, t5, t6, t7])]
    unfold l61_1
    by_cases h8 : i = 8
    · have e1' : numI s (i + 1) = N := by rw [e1, if_neg (by omega)]
      have e2' : widI s (i + 1) = W := by rw [e2, if_neg (by omega)]
      refine Wp.seq ?_
      refine Wp.seq ?_
      refine Wp.region ?_
      refine Wo.pre 1 (by kernel_rfl) ?_
      refine Wo.val (.bool true) h (by kernel_rfl) (iop_cmp (op := .lss) (k := .i64) (a := i) (b := 11) true (by kernel_rfl) (by kernel_rfl) (by simp) (by simp [binInt]; omega)) ?_
      refine Wo.nil ?_
      refine Wp.cond true (by kernel_rfl) ?_
      refine Wp.skip ?_
      refine Wp.seq ?_
      refine Wp.block ?_
      refine Wp.seq ?_
      refine Wp.seq ?_
      refine Wp.region ?_
      refine Wo.pre 1 (by kernel_rfl) ?_
      refine Wo.val (.bool true) h (by kernel_rfl) (iop_cmp (op := .eql) (k := .i64) (a := i) (b := 8) true (by kernel_rfl) (by kernel_rfl) (by simp) (by simp [binInt]; omega)) ?_
      refine Wo.nil ?_
      refine Wp.cond true (by kernel_rfl) ?_
      refine Wp.exit ?_
      refine Wp.region ?_
      refine Wo.pre 1 (by kernel_rfl) ?_
      refine Wo.pre 1 (by kernel_rfl) ?_
      refine Wo.pre 1 (by kernel_rfl) ?_
      refine Wo.nil ?_
      refine ih (i + 1) (by omega) (by omega) _ (by kernel_rfl) (by kernel_rfl) (by rw [e1']; kernel_rfl) (by rw [e2']; kernel_rfl) (by rw [← wi]; kernel_rfl) (fun p q1 q2 q3 => hok p q1 (by omega) q3) (by rw [e1', hp10]; omega) (by rw [e2', hp10]; omega) Q hbad hgood
    · by_cases hlo : c.toNat < 48
      · refine Wp.seq ?_
        refine Wp.seq ?_
        refine Wp.region ?_
        refine Wo.pre 1 (by kernel_rfl) ?_
        refine Wo.val (.bool true) h (by kernel_rfl) (iop_cmp (op := .lss) (k := .i64) (a := i) (b := 11) true (by kernel_rfl) (by kernel_rfl) (by simp) (by simp [binInt]; omega)) ?_
        refine Wo.nil ?_
        refine Wp.cond true (by kernel_rfl) ?_
        refine Wp.skip ?_
        refine Wp.seq ?_
        refine Wp.block ?_
        refine Wp.seq ?_
        refine Wp.seq ?_
        refine Wp.region ?_
        refine Wo.pre 1 (by kernel_rfl) ?_
        refine Wo.val (.bool false) h (by kernel_rfl) (iop_cmp (op := .eql) (k := .i64) (a := i) (b := 8) false (by kernel_rfl) (by kernel_rfl) (by simp) (by simp [binInt]; omega)) ?_
        refine Wo.nil ?_
        refine Wp.cond false (by kernel_rfl) ?_
        refine Wp.skip ?_
        refine Wp.seq ?_
        refine Wp.seq ?_
        refine Wp.region ?_
        refine Wo.pre 1 (by kernel_rfl) ?_
        refine Wo.pre 1 (by kernel_rfl) ?_
        refine Wo.val (.int .u8 c.toNat) h (by kernel_rfl) (iop_ixS (s := s) (i := i) (by kernel_rfl) (by kernel_rfl) hc) ?_
        refine Wo.val (.bool true) h (by kernel_rfl) (iop_cmp (op := .lss) (k := .u8) (a := c.toNat) (b := 48) true (by kernel_rfl) (by kernel_rfl) (by simp) (by simp [binInt]; omega)) ?_
        refine Wo.pre 1 (by kernel_rfl) ?_
        refine Wo.pre 1 (by kernel_rfl) ?_
        refine Wo.pre 1 (by kernel_rfl) ?_
        refine Wo.pre 1 (by kernel_rfl) ?_
        refine Wo.pre 1 (by kernel_rfl) ?_
        refine Wo.pre 1 (by kernel_rfl) ?_
        refine Wo.nil ?_
        refine Wp.cond true (by kernel_rfl) ?_
        refine Wp.seq ?_
        refine Wp.region ?_
        refine Wo.pre 1 (by kernel_rfl) ?_
        refine Wo.pre 1 (by kernel_rfl) ?_
        refine Wo.pre 1 (by kernel_rfl) ?_
        refine Wo.nil ?_
        exact Wp.ret (hbad i hi2 hlt h8 (fun ⟨c', q1, q2, q3⟩ => by rw [hc] at q1; cases q1; omega) _ (by kernel_rfl) (by kernel_rfl) (by kernel_rfl) (by kernel_rfl))
      · by_cases hhi : c.toNat > 57
        · refine Wp.seq ?_
          refine Wp.seq ?_
          refine Wp.region ?_
          refine Wo.pre 1 (by kernel_rfl) ?_
          refine Wo.val (.bool true) h (by kernel_rfl) (iop_cmp (op := .lss) (k := .i64) (a := i) (b := 11) true (by kernel_rfl) (by kernel_rfl) (by simp) (by simp [binInt]; omega)) ?_
          refine Wo.nil ?_
          refine Wp.cond true (by kernel_rfl) ?_
          refine Wp.skip ?_
          refine Wp.seq ?_
          refine Wp.block ?_
          refine Wp.seq ?_
          refine Wp.seq ?_
          refine Wp.region ?_
          refine Wo.pre 1 (by kernel_rfl) ?_
          refine Wo.val (.bool false) h (by kernel_rfl) (iop_cmp (op := .eql) (k := .i64) (a := i) (b := 8) false (by kernel_rfl) (by kernel_rfl) (by simp) (by simp [binInt]; omega)) ?_
          refine Wo.nil ?_
          refine Wp.cond false (by kernel_rfl) ?_
          refine Wp.skip ?_
          refine Wp.seq ?_
          refine Wp.seq ?_
          refine Wp.region ?_
          refine Wo.pre 1 (by kernel_rfl) ?_
          refine Wo.pre 1 (by kernel_rfl) ?_
          refine Wo.val (.int .u8 c.toNat) h (by kernel_rfl) (iop_ixS (s := s) (i := i) (by kernel_rfl) (by kernel_rfl) hc) ?_
          refine Wo.val (.bool false) h (by kernel_rfl) (iop_cmp (op := .lss) (k := .u8) (a := c.toNat) (b := 48) false (by kernel_rfl) (by kernel_rfl) (by simp) (by simp [binInt]; omega)) ?_
          refine Wo.pre 1 (by kernel_rfl) ?_
          refine Wo.pre 1 (by kernel_rfl) ?_
          refine Wo.pre 1 (by kernel_rfl) ?_
          refine Wo.val (.int .u8 c.toNat) h (by kernel_rfl) (iop_ixS (s := s) (i := i) (by kernel_rfl) (by kernel_rfl) hc) ?_
          refine Wo.val (.bool true) h (by kernel_rfl) (iop_cmp (op := .gtr) (k := .u8) (a := c.toNat) (b := 57) true (by kernel_rfl) (by kernel_rfl) (by simp) (by simp [binInt]; omega)) ?_
          refine Wo.pre 1 (by kernel_rfl) ?_
          refine Wo.nil ?_
          refine Wp.cond true (by kernel_rfl) ?_
          refine Wp.seq ?_
          refine Wp.region ?_
          refine Wo.pre 1 (by kernel_rfl) ?_
          refine Wo.pre 1 (by kernel_rfl) ?_
          refine Wo.pre 1 (by kernel_rfl) ?_
          refine Wo.nil ?_
          exact Wp.ret (hbad i hi2 hlt h8 (fun ⟨c', q1, q2, q3⟩ => by rw [hc] at q1; cases q1; omega) _ (by kernel_rfl) (by kernel_rfl) (by kernel_rfl) (by kernel_rfl))
        · have hoki : ∀ p, 2 ≤ p → p < i + 1 → p ≠ 8 → okD s p := by
            intro p q1 q2 q3
            by_cases hpi : p = i
            · subst hpi; exact ⟨c, hc, by omega, by omega⟩
            · exact hok p q1 (by omega) q3
          have w2 : IntKind.u8.wrap ((c.toNat : Int) - 48) = (c.toNat : Int) - 48 := u8_fit _ (by omega)
          by_cases h88 : i < 8
          · have e1' : numI s (i + 1) = 10 * N + (c.toNat - 48) := by rw [e1, if_pos h88]
            have e2' : widI s (i + 1) = W := by rw [e2, if_neg (by omega)]
            have w1 : IntKind.u64.wrap (10 * (N : Int)) = 10 * (N : Int) := u64_fit _ (by omega)
            have w3 : IntKind.u64.wrap ((c.toNat : Int) - 48) = (c.toNat : Int) - 48 := u64_fit _ (by omega)
            have w4 : IntKind.u64.wrap (10 * (N : Int) + ((c.toNat : Int) - 48)) = ((numI s (i + 1) : Nat) : Int) := by
              rw [u64_fit _ (by omega), e1']; omega
            refine Wp.seq ?_
            refine Wp.seq ?_
            refine Wp.region ?_
            refine Wo.pre 1 (by kernel_rfl) ?_
            refine Wo.val (.bool true) h (by kernel_rfl) (iop_cmp (op := .lss) (k := .i64) (a := i) (b := 11) true (by kernel_rfl) (by kernel_rfl) (by simp) (by simp [binInt]; omega)) ?_
            refine Wo.nil ?_
            refine Wp.cond true (by kernel_rfl) ?_
            refine Wp.skip ?_
            refine Wp.seq ?_
            refine Wp.block ?_
            refine Wp.seq ?_
            refine Wp.seq ?_
            refine Wp.region ?_
            refine Wo.pre 1 (by kernel_rfl) ?_
            refine Wo.val (.bool false) h (by kernel_rfl) (iop_cmp (op := .eql) (k := .i64) (a := i) (b := 8) false (by kernel_rfl) (by kernel_rfl) (by simp) (by simp [binInt]; omega)) ?_
            refine Wo.nil ?_
            refine Wp.cond false (by kernel_rfl) ?_
            refine Wp.skip ?_
            refine Wp.seq ?_
            refine Wp.seq ?_
            refine Wp.region ?_
            refine Wo.pre 1 (by kernel_rfl) ?_
            refine Wo.pre 1 (by kernel_rfl) ?_
            refine Wo.val (.int .u8 c.toNat) h (by kernel_rfl) (iop_ixS (s := s) (i := i) (by kernel_rfl) (by kernel_rfl) hc) ?_
            refine Wo.val (.bool false) h (by kernel_rfl) (iop_cmp (op := .lss) (k := .u8) (a := c.toNat) (b := 48) false (by kernel_rfl) (by kernel_rfl) (by simp) (by simp [binInt]; omega)) ?_
            refine Wo.pre 1 (by kernel_rfl) ?_
            refine Wo.pre 1 (by kernel_rfl) ?_
            refine Wo.pre 1 (by kernel_rfl) ?_
            refine Wo.val (.int .u8 c.toNat) h (by kernel_rfl) (iop_ixS (s := s) (i := i) (by kernel_rfl) (by kernel_rfl) hc) ?_
            refine Wo.val (.bool false) h (by kernel_rfl) (iop_cmp (op := .gtr) (k := .u8) (a := c.toNat) (b := 57) false (by kernel_rfl) (by kernel_rfl) (by simp) (by simp [binInt]; omega)) ?_
            refine Wo.pre 1 (by kernel_rfl) ?_
            refine Wo.nil ?_
            refine Wp.cond false (by kernel_rfl) ?_
            refine Wp.skip ?_
            refine Wp.seq ?_
            refine Wp.region ?_
            refine Wo.pre 1 (by kernel_rfl) ?_
            refine Wo.val (.bool true) h (by kernel_rfl) (iop_cmp (op := .lss) (k := .i64) (a := i) (b := 8) true (by kernel_rfl) (by kernel_rfl) (by simp) (by simp [binInt]; omega)) ?_
            refine Wo.nil ?_
            refine Wp.cond true (by kernel_rfl) ?_
            refine Wp.region ?_
            refine Wo.pre 1 (by kernel_rfl) ?_
            refine Wo.pre 1 (by kernel_rfl) ?_
            refine Wo.pre 1 (by kernel_rfl) ?_
            refine Wo.pre 1 (by kernel_rfl) ?_
            refine Wo.val (.int .u8 c.toNat) h (by kernel_rfl) (iop_ixS (s := s) (i := i) (by kernel_rfl) (by kernel_rfl) hc) ?_
            refine Wo.pre 1 (by kernel_rfl) ?_
            refine Wo.pre 1 (by kernel_rfl) ?_
            refine Wo.pre 1 (by kernel_rfl) ?_
            refine Wo.pre 1 (by kernel_rfl) ?_
            refine Wo.nil ?_
            refine Wp.region ?_
            refine Wo.pre 1 (by kernel_rfl) ?_
            refine Wo.pre 1 (by kernel_rfl) ?_
            refine Wo.pre 1 (by kernel_rfl) ?_
            refine Wo.nil ?_
            refine ih (i + 1) (by omega) (by omega) _ (by kernel_rfl) (by kernel_rfl) (by rw [← w4, ← w3, ← w2, ← w1]; kernel_rfl) (by rw [e2']; kernel_rfl) (by rw [← wi]; kernel_rfl) hoki (by rw [e1', hp10]; omega) (by rw [e2', hp10]; omega) Q hbad hgood
          · have e1' : numI s (i + 1) = N := by rw [e1, if_neg h88]
            have e2' : widI s (i + 1) = 10 * W + (c.toNat - 48) := by rw [e2, if_pos (by omega)]
            have w1 : IntKind.i64.wrap (10 * (W : Int)) = 10 * (W : Int) := i64_fit _ (by omega)
            have w3 : IntKind.i64.wrap ((c.toNat : Int) - 48) = (c.toNat : Int) - 48 := i64_fit _ (by omega)
            have w4 : IntKind.i64.wrap (10 * (W : Int) + ((c.toNat : Int) - 48)) = ((widI s (i + 1) : Nat) : Int) := by
              rw [i64_fit _ (by omega), e2']; omega
            refine Wp.seq ?_
            refine Wp.seq ?_
            refine Wp.region ?_
            refine Wo.pre 1 (by kernel_rfl) ?_
            refine Wo.val (.bool true) h (by kernel_rfl) (iop_cmp (op := .lss) (k := .i64) (a := i) (b := 11) true (by kernel_rfl) (by kernel_rfl) (by simp) (by simp [binInt]; omega)) ?_
            refine Wo.nil ?_
            refine Wp.cond true (by kernel_rfl) ?_
            refine Wp.skip ?_
            refine Wp.seq ?_
            refine Wp.block ?_
            refine Wp.seq ?_
            refine Wp.seq ?_
            refine Wp.region ?_
            refine Wo.pre 1 (by kernel_rfl) ?_
            refine Wo.val (.bool false) h (by kernel_rfl) (iop_cmp (op := .eql) (k := .i64) (a := i) (b := 8) false (by kernel_rfl) (by kernel_rfl) (by simp) (by simp [binInt]; omega)) ?_
            refine Wo.nil ?_
            refine Wp.cond false (by kernel_rfl) ?_
            refine Wp.skip ?_
            refine Wp.seq ?_
            refine Wp.seq ?_
            refine Wp.region ?_
            refine Wo.pre 1 (by kernel_rfl) ?_
            refine Wo.pre 1 (by kernel_rfl) ?_
            refine Wo.val (.int .u8 c.toNat) h (by kernel_rfl) (iop_ixS (s := s) (i := i) (by kernel_rfl) (by kernel_rfl) hc) ?_
            refine Wo.val (.bool false) h (by kernel_rfl) (iop_cmp (op := .lss) (k := .u8) (a := c.toNat) (b := 48) false (by kernel_rfl) (by kernel_rfl) (by simp) (by simp [binInt]; omega)) ?_
            refine Wo.pre 1 (by kernel_rfl) ?_
            refine Wo.pre 1 (by kernel_rfl) ?_
            refine Wo.pre 1 (by kernel_rfl) ?_
            refine Wo.val (.int .u8 c.toNat) h (by kernel_rfl) (iop_ixS (s := s) (i := i) (by kernel_rfl) (by kernel_rfl) hc) ?_
            refine Wo.val (.bool false) h (by kernel_rfl) (iop_cmp (op := .gtr) (k := .u8) (a := c.toNat) (b := 57) false (by kernel_rfl) (by kernel_rfl) (by simp) (by simp [binInt]; omega)) ?_
            refine Wo.pre 1 (by kernel_rfl) ?_
            refine Wo.nil ?_
            refine Wp.cond false (by kernel_rfl) ?_
            refine Wp.skip ?_
            refine Wp.seq ?_
            refine Wp.region ?_
            refine Wo.pre 1 (by kernel_rfl) ?_
            refine Wo.val (.bool false) h (by kernel_rfl) (iop_cmp (op := .lss) (k := .i64) (a := i) (b := 8) false (by kernel_rfl) (by kernel_rfl) (by simp) (by simp [binInt]; omega)) ?_
            refine Wo.nil ?_
            refine Wp.cond false (by kernel_rfl) ?_
            refine Wp.region ?_
            refine Wo.pre 1 (by kernel_rfl) ?_
            refine Wo.pre 1 (by kernel_rfl) ?_
            refine Wo.pre 1 (by kernel_rfl) ?_
            refine Wo.pre 1 (by kernel_rfl) ?_
            refine Wo.val (.int .u8 c.toNat) h (by kernel_rfl) (iop_ixS (s := s) (i := i) (by kernel_rfl) (by kernel_rfl) hc) ?_
            refine Wo.pre 1 (by kernel_rfl) ?_
            refine Wo.pre 1 (by kernel_rfl) ?_
            refine Wo.pre 1 (by kernel_rfl) ?_
            refine Wo.pre 1 (by kernel_rfl) ?_
            refine Wo.nil ?_
            refine Wp.region ?_
            refine Wo.pre 1 (by kernel_rfl) ?_
            refine Wo.pre 1 (by kernel_rfl) ?_
            refine Wo.pre 1 (by kernel_rfl) ?_
            refine Wo.nil ?_
            refine ih (i + 1) (by omega) (by omega) _ (by kernel_rfl) (by kernel_rfl) (by rw [e1']; kernel_rfl) (by rw [← w4, ← w3, ← w2, ← w1]; kernel_rfl) (by rw [← wi]; kernel_rfl) hoki (by rw [e1', hp10]; omega) (by rw [e2', hp10]; omega) Q hbad hgood

theorem ok_iff {s : List UInt8} (hs : s.length = 11) : okS s ↔ s.take 2 = [98, 45] ∧ s[8]? = some 45 ∧ ∀ p, 2 ≤ p → p < 11 → p ≠ 8 → okD s p := by
  obtain ⟨c0, c1, c2, c3, c4, c5, c6, c7, c8, c9, c10, rfl⟩ := len11 hs
  constructor
  · rintro ⟨_, hok⟩
    refine ⟨?_, ?_, ?_⟩
    · obtain ⟨c, f, q1, q2, q3⟩ := hok 0 (by omega)
      obtain ⟨c', f', r1, r2, r3⟩ := hok 1 (by omega)
      simp only [nameF, List.getElem?_cons_zero, List.getElem?_cons_succ, Option.some.injEq] at q1 q2 r1 r2
      subst q1; subst q2; subst r1; subst r2
      simp at q3 r3
      simp [q3, r3]
    · obtain ⟨c, f, q1, q2, q3⟩ := hok 8 (by omega)
      simp only [nameF, List.getElem?_cons_zero, List.getElem?_cons_succ, Option.some.injEq] at q1 q2
      subst q1; subst q2
      simp at q3
      simp [q3]
    · intro p h2 h11 h8
      obtain ⟨c, f, q1, q2, q3⟩ := hok p h11
      have hf : nameF[p]? = some 48 := by
        have : p = 2 ∨ p = 3 ∨ p = 4 ∨ p = 5 ∨ p = 6 ∨ p = 7 ∨ p = 9 ∨ p = 10 := by omega
        rcases this with rfl | rfl | rfl | rfl | rfl | rfl | rfl | rfl <;> rfl
      rw [hf] at q2
      cases q2
      exact ⟨c, q1, by simpa using q3⟩
  · rintro ⟨h1, h2, h3⟩
    refine ⟨rfl, fun p hp => ?_⟩
    simp only [List.take, List.cons.injEq, and_true, List.getElem?_cons_zero, List.getElem?_cons_succ, Option.some.injEq] at h1 h2
    obtain ⟨rfl, rfl⟩ := h1
    subst h2
    by_cases hp0 : p = 0
    · subst hp0; exact ⟨_, _, rfl, rfl, by simp⟩
    by_cases hp1 : p = 1
    · subst hp1; exact ⟨_, _, rfl, rfl, by simp⟩
    by_cases hp8 : p = 8
    · subst hp8; exact ⟨_, _, rfl, rfl, by simp⟩
    obtain ⟨c, q1, q2⟩ := h3 p (by omega) hp hp8
    have hf : nameF[p]? = some 48 := by
      have : p = 2 ∨ p = 3 ∨ p = 4 ∨ p = 5 ∨ p = 6 ∨ p = 7 ∨ p = 9 ∨ p = 10 := by omega
      rcases this with rfl | rfl | rfl | rfl | rfl | rfl | rfl | rfl <;> rfl
    exact ⟨c, 48, q1, hf, by simpa using q2⟩

set_option maxHeartbeats 2000000 in
theorem rparse_run {h : H} (s : List UInt8) (hl : s.length < 2 ^ 62) : Runs TF 61 [.str s] h (parseR s) h := by
  refine Runs.of' f61 rfl ?_
  by_cases h11 : s.length = 11
  · have hoi := ok_iff h11
    have hlen : (s.length : Int) = 11 := by omega
    have esl : ∀ {x : IX} {ρ : IX → AV}, ρ x = .str s → (∀ y, ρ (.c y) = y) → iop (.slS x none (some (.c (.int .i64 2)))) ρ h = some (.val (.str (s.take 2)) h) := by
      intro x ρ hx hc
      have q : (2 : Int) ≤ (s.length : Int) := by omega
      have q2 : 2 ≤ s.length := by omega
      simp [iop, hx, hc, bounds, asI, q]
    have evc : ∀ (ts : List AV) (y : AV), ev ts (.c y) = y := fun ts y => (by kernel_rfl)
    by_cases hA : s.take 2 = [98, 45]
    · obtain ⟨c, hc⟩ : ∃ c, s[8]? = some c := ⟨s[8]'(by omega), List.getElem?_eq_getElem (by omega)⟩
      have hix : ∀ {x : IX} {ρ : IX → AV}, ρ x = .str s → (∀ y, ρ (.c y) = y) → iop (.ixS x (.c (.int .i64 8))) ρ h = some (.val (.int .u8 c.toNat) h) := fun hx hc' => iop_ixS (i := 8) hx (hc' _) hc
      by_cases hB : c = 45
      · have hbc : (c.toNat : Int) = 45 := by rw [hB]; rfl
        refine Wp.seq ?_
        refine Wp.region ?_
        refine Wo.pre 1 (by kernel_rfl) ?_
        refine Wo.pre 1 (by kernel_rfl) ?_
        refine Wo.pre 1 (by kernel_rfl) ?_
        refine Wo.nil ?_
        refine Wp.seq ?_
        refine Wp.seq ?_
        refine Wp.region ?_
        refine Wo.pre 1 (by kernel_rfl) ?_
        refine Wo.pre 1 (by kernel_rfl) ?_
        refine Wo.val (.bool false) h (by kernel_rfl) (iop_cmp (op := .neq) (k := .i64) (a := s.length) (b := 11) false (by kernel_rfl) (by kernel_rfl) (by simp) (by simp [binInt, hlen])) ?_
        refine Wo.pre 1 (by kernel_rfl) ?_
        refine Wo.pre 1 (by kernel_rfl) ?_
        refine Wo.val _ h (by kernel_rfl) (esl (by kernel_rfl) (evc _)) ?_
        refine Wo.val (.bool false) h (by kernel_rfl) (iop_neS (a := s.take 2) (b := [98, 45]) false (by kernel_rfl) (by kernel_rfl) (by simp [hA])) ?_
        refine Wo.pre 1 (by kernel_rfl) ?_
        refine Wo.pre 1 (by kernel_rfl) ?_
        refine Wo.pre 1 (by kernel_rfl) ?_
        refine Wo.val _ h (by kernel_rfl) (hix (by kernel_rfl) (evc _)) ?_
        refine Wo.val (.bool false) h (by kernel_rfl) (iop_cmp (op := .neq) (k := .u8) (a := c.toNat) (b := 45) false (by kernel_rfl) (by kernel_rfl) (by simp) (by simp [binInt, hbc])) ?_
        refine Wo.pre 1 (by kernel_rfl) ?_
        refine Wo.nil ?_
        refine Wp.cond false (by kernel_rfl) ?_
        refine Wp.skip ?_
        refine Wp.seq ?_
        refine Wp.region ?_
        refine Wo.pre 1 (by kernel_rfl) ?_
        refine Wo.nil ?_
        refine Wp.seq ?_
        refine Wp.region ?_
        refine Wo.pre 1 (by kernel_rfl) ?_
        refine Wo.nil ?_
        refine Wp.seq ?_
        refine Wp.seq ?_
        refine Wp.region ?_
        refine Wo.pre 1 (by kernel_rfl) ?_
        refine Wo.nil ?_
        refine Wp.block ?_
        have e0 : numI s 2 = 0 := by unfold numI; simp [val]
        have e0' : widI s 2 = 0 := by
          obtain ⟨c0, c1, c2, c3, c4, c5, c6, c7, c8, c9, c10, rfl⟩ := len11 h11
          rfl
        refine parse61_loop h11 9 2 (by omega) (by omega) _ (by kernel_rfl) (by kernel_rfl) (by rw [e0]; kernel_rfl) (by rw [e0']; kernel_rfl) (by kernel_rfl) (fun p q1 q2 => absurd q1 (by omega)) (by rw [e0]; decide) (by rw [e0']; decide) _ ?_ ?_
        · intro p p2 p11 p8 hnok ts' d0 d2 d3 d4
          rw [laid_eq d0 [(2, .int .u64 0), (3, .int .i64 0), (4, .int .i64 5)] (by simp [d2, d3, d4])]
          have e := parseR_bad (s := s) (fun q => hnok ((hoi.1 q.1).2.2 p p2 p11 p8))
          exact ⟨.inr rfl, rfl, by rw [e]; kernel_rfl⟩
        · intro hok ts' d0 d5 d6
          have hoks : okS s := hoi.2 ⟨hA, by rw [hc, hB], hok⟩
          obtain ⟨q1, q2, q3⟩ := split_val hoks
          have eN : numI s 11 = numS s := rfl
          have eW : widI s 11 = widS s := rfl
          rw [eN] at d5
          rw [eW] at d6
          rw [laid_eq d0 [(5, .int .u64 (numS s : Nat)), (6, .int .i64 (widS s : Nat))] (by simp [d5, d6])]
          by_cases hb1 : widS s < 1
          · have e := parseR_bad (s := s) (fun q => by have := q.2; omega)
            refine Wp.seq ?_
            refine Wp.seq ?_
            refine Wp.region ?_
            refine Wo.pre 1 (by kernel_rfl) ?_
            refine Wo.val (.bool true) h (by kernel_rfl) (iop_cmp (op := .lss) (k := .i64) (a := (widS s : Nat)) (b := 1) true (by kernel_rfl) (by kernel_rfl) (by simp) (by simp [binInt]; omega)) ?_
            refine Wo.pre 1 (by kernel_rfl) ?_
            refine Wo.pre 1 (by kernel_rfl) ?_
            refine Wo.pre 1 (by kernel_rfl) ?_
            refine Wo.pre 1 (by kernel_rfl) ?_
            refine Wo.nil ?_
            refine Wp.cond true (by kernel_rfl) ?_
            refine Wp.seq ?_
            refine Wp.region ?_
            refine Wo.pre 1 (by kernel_rfl) ?_
            refine Wo.pre 1 (by kernel_rfl) ?_
            refine Wo.pre 1 (by kernel_rfl) ?_
            refine Wo.nil ?_
            exact Wp.ret ⟨.inr rfl, rfl, by rw [e]; kernel_rfl⟩
          · by_cases hb2 : widS s > 16
            · have e := parseR_bad (s := s) (fun q => by have := q.2; omega)
              refine Wp.seq ?_
              refine Wp.seq ?_
              refine Wp.region ?_
              refine Wo.pre 1 (by kernel_rfl) ?_
              refine Wo.val (.bool false) h (by kernel_rfl) (iop_cmp (op := .lss) (k := .i64) (a := (widS s : Nat)) (b := 1) false (by kernel_rfl) (by kernel_rfl) (by simp) (by simp [binInt]; omega)) ?_
              refine Wo.pre 1 (by kernel_rfl) ?_
              refine Wo.pre 1 (by kernel_rfl) ?_
              refine Wo.val (.bool true) h (by kernel_rfl) (iop_cmp (op := .gtr) (k := .i64) (a := (widS s : Nat)) (b := 16) true (by kernel_rfl) (by kernel_rfl) (by simp) (by simp [binInt]; omega)) ?_
              refine Wo.pre 1 (by kernel_rfl) ?_
              refine Wo.nil ?_
              refine Wp.cond true (by kernel_rfl) ?_
              refine Wp.seq ?_
              refine Wp.region ?_
              refine Wo.pre 1 (by kernel_rfl) ?_
              refine Wo.pre 1 (by kernel_rfl) ?_
              refine Wo.pre 1 (by kernel_rfl) ?_
              refine Wo.nil ?_
              exact Wp.ret ⟨.inr rfl, rfl, by rw [e]; kernel_rfl⟩
            · have e := parseR_ok (s := s) ⟨hoks, by omega, by omega⟩
              refine Wp.seq ?_
              refine Wp.seq ?_
              refine Wp.region ?_
              refine Wo.pre 1 (by kernel_rfl) ?_
              refine Wo.val (.bool false) h (by kernel_rfl) (iop_cmp (op := .lss) (k := .i64) (a := (widS s : Nat)) (b := 1) false (by kernel_rfl) (by kernel_rfl) (by simp) (by simp [binInt]; omega)) ?_
              refine Wo.pre 1 (by kernel_rfl) ?_
              refine Wo.pre 1 (by kernel_rfl) ?_
              refine Wo.val (.bool false) h (by kernel_rfl) (iop_cmp (op := .gtr) (k := .i64) (a := (widS s : Nat)) (b := 16) false (by kernel_rfl) (by kernel_rfl) (by simp) (by simp [binInt]; omega)) ?_
              refine Wo.pre 1 (by kernel_rfl) ?_
              refine Wo.nil ?_
              refine Wp.cond false (by kernel_rfl) ?_
              refine Wp.skip ?_
              refine Wp.seq ?_
              refine Wp.region ?_
              refine Wo.pre 1 (by kernel_rfl) ?_
              refine Wo.pre 1 (by kernel_rfl) ?_
              refine Wo.pre 1 (by kernel_rfl) ?_
              refine Wo.pre 1 (by kernel_rfl) ?_
              refine Wo.pre 1 (by kernel_rfl) ?_
              refine Wo.nil ?_
              exact Wp.ret ⟨.inr rfl, rfl, by rw [e]; kernel_rfl⟩
      · have hbc : (c.toNat : Int) ≠ 45 := by
          intro e
          exact hB (UInt8.toNat_inj.1 (by have : c.toNat = 45 := by omega
                                          rw [this]; rfl))
        have e := parseR_bad (s := s) (fun q => by
          have := (hoi.1 q.1).2.1
          rw [hc] at this
          exact hB (Option.some.inj this))
        refine Wp.seq ?_
        refine Wp.region ?_
        refine Wo.pre 1 (by kernel_rfl) ?_
        refine Wo.pre 1 (by kernel_rfl) ?_
        refine Wo.pre 1 (by kernel_rfl) ?_
        refine Wo.nil ?_
        refine Wp.seq ?_
        refine Wp.seq ?_
        refine Wp.region ?_
        refine Wo.pre 1 (by kernel_rfl) ?_
        refine Wo.pre 1 (by kernel_rfl) ?_
        refine Wo.val (.bool false) h (by kernel_rfl) (iop_cmp (op := .neq) (k := .i64) (a := s.length) (b := 11) false (by kernel_rfl) (by kernel_rfl) (by simp) (by simp [binInt, hlen])) ?_
        refine Wo.pre 1 (by kernel_rfl) ?_
        refine Wo.pre 1 (by kernel_rfl) ?_
        refine Wo.val _ h (by kernel_rfl) (esl (by kernel_rfl) (evc _)) ?_
        refine Wo.val (.bool false) h (by kernel_rfl) (iop_neS (a := s.take 2) (b := [98, 45]) false (by kernel_rfl) (by kernel_rfl) (by simp [hA])) ?_
        refine Wo.pre 1 (by kernel_rfl) ?_
        refine Wo.pre 1 (by kernel_rfl) ?_
        refine Wo.pre 1 (by kernel_rfl) ?_
        refine Wo.val _ h (by kernel_rfl) (hix (by kernel_rfl) (evc _)) ?_
        refine Wo.val (.bool true) h (by kernel_rfl) (iop_cmp (op := .neq) (k := .u8) (a := c.toNat) (b := 45) true (by kernel_rfl) (by kernel_rfl) (by simp) (by simp [binInt, hbc])) ?_
        refine Wo.pre 1 (by kernel_rfl) ?_
        refine Wo.nil ?_
        refine Wp.cond true (by kernel_rfl) ?_
        refine Wp.seq ?_
        refine Wp.region ?_
        refine Wo.pre 1 (by kernel_rfl) ?_
        refine Wo.pre 1 (by kernel_rfl) ?_
        refine Wo.pre 1 (by kernel_rfl) ?_
        refine Wo.nil ?_
        exact Wp.ret ⟨.inr rfl, rfl, by rw [e]; kernel_rfl⟩
    · have e := parseR_bad (s := s) (fun q => hA (hoi.1 q.1).1)
      refine Wp.seq ?_
      refine Wp.region ?_
      refine Wo.pre 1 (by kernel_rfl) ?_
      refine Wo.pre 1 (by kernel_rfl) ?_
      refine Wo.pre 1 (by kernel_rfl) ?_
      refine Wo.nil ?_
      refine Wp.seq ?_
      refine Wp.seq ?_
      refine Wp.region ?_
      refine Wo.pre 1 (by kernel_rfl) ?_
      refine Wo.pre 1 (by kernel_rfl) ?_
      refine Wo.val (.bool false) h (by kernel_rfl) (iop_cmp (op := .neq) (k := .i64) (a := s.length) (b := 11) false (by kernel_rfl) (by kernel_rfl) (by simp) (by simp [binInt, hlen])) ?_
      refine Wo.pre 1 (by kernel_rfl) ?_
      refine Wo.pre 1 (by kernel_rfl) ?_
      refine Wo.val _ h (by kernel_rfl) (esl (by kernel_rfl) (evc _)) ?_
      refine Wo.val (.bool true) h (by kernel_rfl) (iop_neS (a := s.take 2) (b := [98, 45]) true (by kernel_rfl) (by kernel_rfl) (by simp [hA])) ?_
      refine Wo.pre 1 (by kernel_rfl) ?_
      refine Wo.pre 1 (by kernel_rfl) ?_
      refine Wo.pre 1 (by kernel_rfl) ?_
      refine Wo.pre 1 (by kernel_rfl) ?_
      refine Wo.pre 1 (by kernel_rfl) ?_
      refine Wo.pre 1 (by kernel_rfl) ?_
      refine Wo.nil ?_
      refine Wp.cond true (by kernel_rfl) ?_
      refine Wp.seq ?_
      refine Wp.region ?_
      refine Wo.pre 1 (by kernel_rfl) ?_
      refine Wo.pre 1 (by kernel_rfl) ?_
      refine Wo.pre 1 (by kernel_rfl) ?_
      refine Wo.nil ?_
      exact Wp.ret ⟨.inr rfl, rfl, by rw [e]; kernel_rfl⟩
  · have e := parseR_bad (s := s) (fun q => h11 q.1.1)
    have hlen : (s.length : Int) ≠ 11 := by omega
    refine Wp.seq ?_
    refine Wp.region ?_
    refine Wo.pre 1 (by kernel_rfl) ?_
    refine Wo.pre 1 (by kernel_rfl) ?_
    refine Wo.pre 1 (by kernel_rfl) ?_
    refine Wo.nil ?_
    refine Wp.seq ?_
    refine Wp.seq ?_
    refine Wp.region ?_
    refine Wo.pre 1 (by kernel_rfl) ?_
    refine Wo.pre 1 (by kernel_rfl) ?_
    refine Wo.val (.bool true) h (by kernel_rfl) (iop_cmp (op := .neq) (k := .i64) (a := s.length) (b := 11) true (by kernel_rfl) (by kernel_rfl) (by simp) (by simp [binInt, hlen])) ?_
    refine Wo.pre 1 (by kernel_rfl) ?_
    refine Wo.pre 1 (by kernel_rfl) ?_
    refine Wo.pre 1 (by kernel_rfl) ?_
    refine Wo.pre 1 (by kernel_rfl) ?_
    refine Wo.pre 1 (by kernel_rfl) ?_
    refine Wo.pre 1 (by kernel_rfl) ?_
    refine Wo.pre 1 (by kernel_rfl) ?_
    refine Wo.pre 1 (by kernel_rfl) ?_
    refine Wo.pre 1 (by kernel_rfl) ?_
    refine Wo.pre 1 (by kernel_rfl) ?_
    refine Wo.nil ?_
    refine Wp.cond true (by kernel_rfl) ?_
    refine Wp.seq ?_
    refine Wp.region ?_
    refine Wo.pre 1 (by kernel_rfl) ?_
    refine Wo.pre 1 (by kernel_rfl) ?_
    refine Wo.pre 1 (by kernel_rfl) ?_
    refine Wo.nil ?_
    exact Wp.ret ⟨.inr rfl, rfl, by rw [e]; kernel_rfl⟩

theorem wakes_run (h : H) : Runs TF 62 [] h (.bool true) h := Runs.known (by kernel_rfl) h

set_option maxHeartbeats 4000000 in
theorem names_run {h : H} {n : Nat} (hn : n < 2 ^ 64) (width : Int) (s : List UInt8) (hl : s.length < 2 ^ 62) : ∃ r h', Runs TF 14 [.int .u64 n, .int .i64 width, .str s] h r h' ∧ r = .bool true := by
  obtain ⟨r1, H1, c1, er1, X1⟩ := name_run (h := h) hn width
  obtain ⟨r2, H2, c2, er2, X2⟩ := rname_run (h := H1) hn width
  obtain ⟨r3, H3, c3, er3, X3⟩ := parse_run (h := H2) s hl
  rw [er1] at c1
  rw [er2] at c2
  rw [er3] at c3
  have c4 := rparse_run (h := H3) s hl
  obtain ⟨S, E, hnm⟩ : ∃ S E, nameR n width = .tup [.str S, .int .i64 E] := by
    unfold nameR; split <;> exact ⟨_, _, rfl⟩
  obtain ⟨N, W, F, hpm⟩ : ∃ N W F, parseR s = .tup [.int .u64 N, .int .i64 W, .int .i64 F] := by
    by_cases hh : okS s ∧ 1 ≤ widS s ∧ widS s ≤ 16
    · exact ⟨_, _, _, parseR_ok hh⟩
    · exact ⟨_, _, _, parseR_bad hh⟩
  rw [hnm] at c1 c2
  rw [hpm] at c3 c4
  refine Runs.ofP f14 rfl ?_
  refine Wp.seq ?_
  refine Wp.region ?_
  refine Wo.pre 1 (by kernel_rfl) ?_
  refine Wo.nil ?_
  refine Wp.seq ?_
  refine Wp.region ?_
  refine Wo.pre 1 (by kernel_rfl) ?_
  refine Wo.pre 1 (by kernel_rfl) ?_
  refine Wo.call (by kernel_rfl) (by kernel_rfl) (c1) ?_
  refine Wo.pre 1 (by kernel_rfl) ?_
  refine Wo.pre 1 (by kernel_rfl) ?_
  refine Wo.pre 1 (by kernel_rfl) ?_
  refine Wo.pre 1 (by kernel_rfl) ?_
  refine Wo.pre 1 (by kernel_rfl) ?_
  refine Wo.nil ?_
  refine Wp.seq ?_
  refine Wp.region ?_
  refine Wo.pre 1 (by kernel_rfl) ?_
  refine Wo.pre 1 (by kernel_rfl) ?_
  refine Wo.call (by kernel_rfl) (by kernel_rfl) (c2) ?_
  refine Wo.pre 1 (by kernel_rfl) ?_
  refine Wo.pre 1 (by kernel_rfl) ?_
  refine Wo.pre 1 (by kernel_rfl) ?_
  refine Wo.pre 1 (by kernel_rfl) ?_
  refine Wo.pre 1 (by kernel_rfl) ?_
  refine Wo.nil ?_
  refine Wp.seq ?_
  refine Wp.region ?_
  refine Wo.pre 1 (by kernel_rfl) ?_
  refine Wo.call (by kernel_rfl) (by kernel_rfl) (c3) ?_
  refine Wo.pre 1 (by kernel_rfl) ?_
  refine Wo.pre 1 (by kernel_rfl) ?_
  refine Wo.pre 1 (by kernel_rfl) ?_
  refine Wo.pre 1 (by kernel_rfl) ?_
  refine Wo.pre 1 (by kernel_rfl) ?_
  refine Wo.pre 1 (by kernel_rfl) ?_
  refine Wo.pre 1 (by kernel_rfl) ?_
  refine Wo.nil ?_
  refine Wp.seq ?_
  refine Wp.region ?_
  refine Wo.pre 1 (by kernel_rfl) ?_
  refine Wo.call (by kernel_rfl) (by kernel_rfl) (c4) ?_
  refine Wo.pre 1 (by kernel_rfl) ?_
  refine Wo.pre 1 (by kernel_rfl) ?_
  refine Wo.pre 1 (by kernel_rfl) ?_
  refine Wo.pre 1 (by kernel_rfl) ?_
  refine Wo.pre 1 (by kernel_rfl) ?_
  refine Wo.pre 1 (by kernel_rfl) ?_
  refine Wo.pre 1 (by kernel_rfl) ?_
  refine Wo.nil ?_
  refine Wp.seq ?_
  refine Wp.region ?_
  refine Wo.pre 1 (by kernel_rfl) ?_
  refine Wo.pre 1 (by kernel_rfl) ?_
  refine Wo.val (.bool true) H3 (by kernel_rfl) (iop_eqS (a := S) (b := S) true (by kernel_rfl) (by kernel_rfl) (by simp)) ?_
  refine Wo.pre 1 (by kernel_rfl) ?_
  refine Wo.pre 1 (by kernel_rfl) ?_
  refine Wo.pre 1 (by kernel_rfl) ?_
  refine Wo.val (.bool true) H3 (by kernel_rfl) (iop_cmp (op := .eql) (k := .i64) (a := E) (b := E) true (by kernel_rfl) (by kernel_rfl) (by simp) (by simp [binInt])) ?_
  refine Wo.pre 1 (by kernel_rfl) ?_
  refine Wo.pre 1 (by kernel_rfl) ?_
  refine Wo.pre 1 (by kernel_rfl) ?_
  refine Wo.pre 1 (by kernel_rfl) ?_
  refine Wo.val (.bool true) H3 (by kernel_rfl) (iop_cmp (op := .eql) (k := .u64) (a := N) (b := N) true (by kernel_rfl) (by kernel_rfl) (by simp) (by simp [binInt])) ?_
  refine Wo.pre 1 (by kernel_rfl) ?_
  refine Wo.pre 1 (by kernel_rfl) ?_
  refine Wo.pre 1 (by kernel_rfl) ?_
  refine Wo.pre 1 (by kernel_rfl) ?_
  refine Wo.val (.bool true) H3 (by kernel_rfl) (iop_cmp (op := .eql) (k := .i64) (a := W) (b := W) true (by kernel_rfl) (by kernel_rfl) (by simp) (by simp [binInt])) ?_
  refine Wo.pre 1 (by kernel_rfl) ?_
  refine Wo.pre 1 (by kernel_rfl) ?_
  refine Wo.pre 1 (by kernel_rfl) ?_
  refine Wo.pre 1 (by kernel_rfl) ?_
  refine Wo.val (.bool true) H3 (by kernel_rfl) (iop_cmp (op := .eql) (k := .i64) (a := F) (b := F) true (by kernel_rfl) (by kernel_rfl) (by simp) (by simp [binInt])) ?_
  refine Wo.pre 1 (by kernel_rfl) ?_
  refine Wo.pre 1 (by kernel_rfl) ?_
  refine Wo.call (by kernel_rfl) (by kernel_rfl) (wakes_run H3) ?_
  refine Wo.pre 1 (by kernel_rfl) ?_
  refine Wo.pre 1 (by kernel_rfl) ?_
  refine Wo.nil ?_
  exact Wp.ret ⟨.inr rfl, .bool true, (by kernel_rfl), rfl⟩
end Go.Det
