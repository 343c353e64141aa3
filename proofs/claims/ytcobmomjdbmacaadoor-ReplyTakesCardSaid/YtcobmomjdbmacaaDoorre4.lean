/- Reply: numerals, heads, a reply's bytes: the walks. -/
import Derived.Test.YtcobmomjdbmacaaDoorre3
set_option linter.unusedVariables false
set_option linter.unusedSimpArgs false
set_option linter.unusedSectionVars false
namespace Go.Det
open Go.Proofs
attribute [local irreducible] Wp Wo Wd iop ev slots quiets wanted put

theorem itoa_run (h : H) {m : Nat} (hm : m < 1000000000000000000) : Runs TF 20 [.int .i64 ((m : Nat) : Int)] h (.str (Re.dec m)) h :=
  Runs.nat (fn := { ntmps := 0, results := [], body := .skip, known := true }) rfl (by simp only [nItoa]; rw [if_pos ⟨by omega, by omega⟩, Int.toNat_natCast])
theorem dec_len20 (u : Nat) : (Re.dec u).length ≤ 20 := by
  have : ∀ (f u : Nat), (Re.digsF f u).length ≤ f := by
    intro f
    induction f with
    | zero => intro u; simp [Re.digsF]
    | succ f ih =>
      intro u
      rw [Re.digsF]
      split
      · simp
      · have := ih (u / 10)
        simp
        omega
  exact this 20 u

theorem iop_remN {x y : IX} {ρ : IX → AV} {h : H} {a b : Nat} (hx : ρ x = .int .i64 a) (hy : ρ y = .int .i64 b) (hb : b ≠ 0) : iop (.bin .rem x y) ρ h = some (.val (.int .i64 ((a % b : Nat) : Int)) h) := by
  refine iop_arith hx hy (by simp) ?_
  have hb' : ((b : Int) == 0) = false := by simpa using hb
  have e : Int.tmod (a : Int) (b : Int) = ((a % b : Nat) : Int) := by
    rw [Int.tmod_eq_emod_of_nonneg (by omega)]
    exact (Int.natCast_emod a b).symm
  simp only [binInt, hb', e]
  rfl
theorem iop_quoN {x y : IX} {ρ : IX → AV} {h : H} {a b q : Nat} (hx : ρ x = .int .i64 a) (hy : ρ y = .int .i64 b) (hb : b ≠ 0) (hq : a / b = q) (ha : a < 9223372036854775808) : iop (.bin .quo x y) ρ h = some (.val (.int .i64 ((q : Nat) : Int)) h) := by
  refine iop_arith hx hy (by simp) ?_
  have hb' : ((b : Int) == 0) = false := by simpa using hb
  have e : Int.tdiv (a : Int) (b : Int) = ((q : Nat) : Int) := by
    rw [Int.tdiv_eq_ediv_of_nonneg (by omega), ← hq]
    exact (Int.natCast_ediv a b).symm
  have hle : q ≤ a := by rw [← hq]; exact Nat.div_le_self _ _
  simp only [binInt, hb', e]
  rw [fit_kind .i64 _ (by rw [min_i64]; omega) (by rw [max_i64]; omega)]
  rfl

/-- The document's numerals. -/
def numD (f : Nat) (n : Nat) (s : List UInt8) : List UInt8 := Re.digsF f n ++ s
set_option maxHeartbeats 4000000 in
theorem dec_loop {h0 : H} : ∀ (f n : Nat), n < 10 ^ (f + 1) → n < 9000000000000000000 → ∀ (s : List UInt8) (h : H) (ts : List AV), Ext h0 h → s.length + f ≤ 1000 → ts.length = 23 → getL ts 0 = some (.int .i64 n) → getL ts 3 = some (.str s) →
    ∀ (Q : Ex → St → Prop), (∀ ts' h' m s', Ext h0 h' → m < 10 → UInt8.ofNat (48 + m) :: s' = Re.digsF (f + 1) n ++ s → ts'.length = 23 → getL ts' 0 = some (.int .i64 ((m : Nat) : Int)) → getL ts' 3 = some (.str s') → s'.length ≤ 1000 → Q (.exit 0) (ts', h')) → Wp TF (.loop l33_1) (ts, h) Q := by
  intro f
  induction f with
  | zero =>
    intro n hn hb s h ts hx hs t0 g0 g3 Q hQ
    have h9 : n < 10 := by simpa using hn
    refine Wp.loop ?_
    rw [laid_eq t0 [(0, .int .i64 n), (3, .str s)] (by simp [g0, g3])]
    have m1 := hx.1
    refine Wp.seq ?_
    refine Wp.seq ?_
    refine Wp.region ?_
    refine Wo.pre 1 (by kernel_rfl) ?_
    refine Wo.cmp (op := .gtr) (x := IX.t 4) (y := IX.c (AV.int IntKind.i64 9)) (k := IntKind.i64) (a := ↑n) (b := 9) ((↑n : Int) > (9 : Int)) (by kernel_rfl) (by kernel_rfl) (by kernel_rfl) (by kernel_rfl) (by simp) (by kernel_rfl) (fun q2 => ?_) (fun q2 => ?_)
    · (exfalso; omega)
    refine Wo.nil ?_
    refine Wp.cond false (by kernel_rfl) ?_
    refine Wp.exit ?_
    exact hQ _ _ n s hx h9 (by rw [Re.digsF, if_pos h9]; rfl) (by kernel_rfl) (by kernel_rfl) (by kernel_rfl) (by omega)
  | succ f ih =>
    intro n hn hb s h ts hx hs t0 g0 g3 Q hQ
    by_cases h9 : n < 10
    · refine Wp.loop ?_
      rw [laid_eq t0 [(0, .int .i64 n), (3, .str s)] (by simp [g0, g3])]
      have m1 := hx.1
      refine Wp.seq ?_
      refine Wp.seq ?_
      refine Wp.region ?_
      refine Wo.pre 1 (by kernel_rfl) ?_
      refine Wo.cmp (op := .gtr) (x := IX.t 4) (y := IX.c (AV.int IntKind.i64 9)) (k := IntKind.i64) (a := ↑n) (b := 9) ((↑n : Int) > (9 : Int)) (by kernel_rfl) (by kernel_rfl) (by kernel_rfl) (by kernel_rfl) (by simp) (by kernel_rfl) (fun q2 => ?_) (fun q2 => ?_)
      · (exfalso; omega)
      refine Wo.nil ?_
      refine Wp.cond false (by kernel_rfl) ?_
      refine Wp.exit ?_
      exact hQ _ _ n s hx h9 (by rw [Re.digsF, if_pos h9]; rfl) (by kernel_rfl) (by kernel_rfl) (by kernel_rfl) (by omega)
    · obtain ⟨q, hq⟩ : ∃ q, n / 10 = q := ⟨_, rfl⟩
      obtain ⟨d, hd⟩ : ∃ d, n % 10 = d := ⟨_, rfl⟩
      have hqn : q < 10 ^ (f + 1) := by rw [Nat.pow_succ] at hn; omega
      have hqq : q < 9000000000000000000 := by omega
      have hd10 : d < 10 := by omega
      have hl2 : ([UInt8.ofNat (48 + d)] ++ s).length + f ≤ 1000 := by simp; omega
      have hq1 : ∀ ts' h' m s', Ext h0 h' → m < 10 → UInt8.ofNat (48 + m) :: s' = Re.digsF (f + 1) q ++ ([UInt8.ofNat (48 + d)] ++ s) → ts'.length = 23 → getL ts' 0 = some (.int .i64 ((m : Nat) : Int)) → getL ts' 3 = some (.str s') → s'.length ≤ 1000 → Q (.exit 0) (ts', h') := by
        intro ts' h' m s' a1 a2 a3
        refine hQ ts' h' m s' a1 a2 ?_
        rw [a3]
        conv => rhs; rw [Re.digsF, if_neg h9, hq, hd]
        rw [List.append_assoc]
      have hxn := hx.1
      refine Wp.loop ?_
      rw [laid_eq t0 [(0, .int .i64 n), (3, .str s)] (by simp [g0, g3])]
      have m1 := hx.1
      refine Wp.seq ?_
      refine Wp.seq ?_
      refine Wp.region ?_
      refine Wo.pre 1 (by kernel_rfl) ?_
      refine Wo.cmp (op := .gtr) (x := IX.t 4) (y := IX.c (AV.int IntKind.i64 9)) (k := IntKind.i64) (a := ↑n) (b := 9) ((↑n : Int) > (9 : Int)) (by kernel_rfl) (by kernel_rfl) (by kernel_rfl) (by kernel_rfl) (by simp) (by kernel_rfl) (fun q2 => ?_) (fun q2 => ?_)
      rotate_left
      · (exfalso; omega)
      refine Wo.nil ?_
      refine Wp.cond true (by kernel_rfl) ?_
      refine Wp.skip ?_
      refine Wp.block ?_
      refine Wp.seq ?_
      refine Wp.region ?_
      refine Wo.pre 1 (by kernel_rfl) ?_
      refine Wo.val (.int .i64 ((d : Nat) : Int)) _ (by kernel_rfl) (by rw [← hd]; exact iop_remN (a := n) (b := 10) (by kernel_rfl) (by kernel_rfl) (by omega)) ?_
      refine Wo.val (.int .i64 ((48 + d : Nat) : Int)) _ (by kernel_rfl) (iop_addN (a := 48) (b := d) (by kernel_rfl) (by kernel_rfl) (by omega)) ?_
      refine Wo.val (.int .u8 ((UInt8.ofNat (48 + d)).toNat : Int)) _ (by kernel_rfl) (iop_cv8N (i := 48 + d) (by kernel_rfl) (by omega)) ?_
      (refine Wo.lit1 (UInt8.ofNat (48 + d)) rfl (by kernel_rfl) (by kernel_rfl) (fun Ha Xa Oa => ?_); have na := Xa.1; have qa := Oa.bq; have pa := Oa.parts)
      refine Wo.val (.str ([UInt8.ofNat (48 + d)])) Ha (by kernel_rfl) (iop_cvBS (v := AV.sl { b := h.n, g := 0, o := 0 } 1 (Cp.ex 1)) (by kernel_rfl) Oa.bs) ?_
      refine Wo.pre 1 (by kernel_rfl) ?_
      refine Wo.val (.str ([UInt8.ofNat (48 + d)] ++ s)) _ (by kernel_rfl) (iop_addS (a := [UInt8.ofNat (48 + d)]) (b := s) (by kernel_rfl) (by kernel_rfl) (by simp; omega)) ?_
      refine Wo.pre 1 (by kernel_rfl) ?_
      refine Wo.nil ?_
      refine Wp.region ?_
      refine Wo.pre 1 (by kernel_rfl) ?_
      refine Wo.val (.int .i64 ((q : Nat) : Int)) _ (by kernel_rfl) (iop_quoN (a := n) (b := 10) (by kernel_rfl) (by kernel_rfl) (by omega) hq (by omega)) ?_
      refine Wo.pre 1 (by kernel_rfl) ?_
      refine Wo.nil ?_
      exact ih q hqn hqq ([UInt8.ofNat (48 + d)] ++ s) _ _ ((hx.fr.trans0 Xa).ext0) hl2 (by kernel_rfl) (by kernel_rfl) (by kernel_rfl) Q hq1

set_option maxHeartbeats 4000000 in
theorem decimal_run (h : H) {n : Nat} (hn : n < 9000000000000000000) : ∃ r h', Runs TF 33 [.int .i64 ((n : Nat) : Int)] h r h' ∧ r = .str (Re.dec n) ∧ Ext h h' := by
  refine Runs.ofP f33 rfl ?_
  refine Wp.seq ?_
  refine Wp.region ?_
  refine Wo.pre 1 (by kernel_rfl) ?_
  refine Wo.nil ?_
  refine Wp.seq ?_
  refine Wp.region ?_
  refine Wo.pre 1 (by kernel_rfl) ?_
  refine Wo.nil ?_
  refine Wp.seq ?_
  refine Wp.block ?_
  refine dec_loop (h0 := h) 19 n (Nat.lt_of_lt_of_le hn (by decide)) hn [] h _ (Ext.refl h) (by decide) (by kernel_rfl) (by kernel_rfl) (by kernel_rfl) _ ?_
  intro ts' h' m s' x' hm e t0 g0 g3 hs'
  rw [List.append_nil] at e
  have e2 : [UInt8.ofNat (48 + m)] ++ s' = Re.dec n := e
  have hxn := x'.1
  show Wp TF _ _ _
  rw [laid_eq t0 [(0, .int .i64 ((m : Nat) : Int)), (3, .str s')] (by simp [g0, g3])]
  have m1 := x'.1
  refine Wp.seq ?_
  refine Wp.region ?_
  refine Wo.pre 1 (by kernel_rfl) ?_
  refine Wo.val (.int .i64 ((48 + m : Nat) : Int)) _ (by kernel_rfl) (iop_addN (a := 48) (b := m) (by kernel_rfl) (by kernel_rfl) (by omega)) ?_
  refine Wo.val (.int .u8 ((UInt8.ofNat (48 + m)).toNat : Int)) _ (by kernel_rfl) (iop_cv8N (i := 48 + m) (by kernel_rfl) (by omega)) ?_
  (refine Wo.lit1 (UInt8.ofNat (48 + m)) rfl (by kernel_rfl) (by kernel_rfl) (fun Ha Xa Oa => ?_); have na := Xa.1; have qa := Oa.bq; have pa := Oa.parts)
  refine Wo.val (.str ([UInt8.ofNat (48 + m)])) Ha (by kernel_rfl) (iop_cvBS (v := AV.sl { b := h'.n, g := 0, o := 0 } 1 (Cp.ex 1)) (by kernel_rfl) Oa.bs) ?_
  refine Wo.pre 1 (by kernel_rfl) ?_
  refine Wo.val (.str ([UInt8.ofNat (48 + m)] ++ s')) _ (by kernel_rfl) (iop_addS (a := [UInt8.ofNat (48 + m)]) (b := s') (by kernel_rfl) (by kernel_rfl) (by simp; omega)) ?_
  refine Wo.pre 1 (by kernel_rfl) ?_
  refine Wo.nil ?_
  refine Wp.ret ?_
  refine ⟨.inr rfl, (AV.str (UInt8.ofNat (48 + m) :: s')), (ret_one (res_tmp (by kernel_rfl) res_nil)), ?_⟩
  dsimp only
  exact ⟨by rw [← e2]; rfl, ((x'.fr.trans0 Xa).ext0)⟩

end Go.Det
