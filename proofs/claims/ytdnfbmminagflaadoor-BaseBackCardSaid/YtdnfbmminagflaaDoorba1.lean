/- Base: the document's letters and numbers, sizes: the walks. -/
import Derived.Test.YtdnfbmminagflaaDoorbaIR
import Derived.Test.YtdnfbmminagflaaDoorDetFr
import Derived.Test.YtdnfbmminagflaaDoorDetDw
import Derived.Test.YtdnfbmminagflaaDoorDetWalk
set_option linter.unusedVariables false
set_option linter.unusedSimpArgs false
set_option linter.unusedSectionVars false
namespace Go.Det
open Go.Proofs
attribute [local irreducible] Wp Wo Wd iop ev slots quiets wanted put

theorem iop_appG {x y : IX} {ρ : IX → AV} {h h' : H} {v w z : AV} {e sz by_ : Nat} (hx : ρ x = v) (hy : ρ y = w) (hs : isStrV w = false) (ha : append h e sz by_ v w = some (.val z h')) : iop (.app e sz by_ false x y) ρ h = some (.val z h') := by
  simp only [iop, hx, hy, hs, BEq.rfl, if_true, ha]
theorem iop_cvIfit {k kk : IntKind} {x : IX} {ρ : IX → AV} {h : H} {a : Int} (hx : ρ x = .int kk a) (h1 : k.min ≤ a) (h2 : a ≤ k.max) : iop (.cvI k x) ρ h = some (.val (.int k a) h) := by
  simp only [iop, hx, asI, Option.map_some, fit_kind k _ h1 h2]
theorem iop_lenS {x : IX} {ρ : IX → AV} {h : H} {v : AV} {n : Nat} (hx : ρ x = v) (hv : (v = .nils ∧ n = 0) ∨ ∃ a c, v = .sl a n c) : iop (.len false x) ρ h = some (.val (.int .i64 n) h) := by
  rcases hv with ⟨rfl, rfl⟩ | ⟨a, c, rfl⟩ <;> simp [iop, hx]

theorem Runs.ofK {F : FTab} {f : FuncId} {args : List AV} {h h' : H} {v : AV} {n : Nat} (hr : (machK F n).call f args h = some (v, h')) : Runs F f args h v h' := ⟨n, (machK_sim F n).1 _ _ _ _ hr⟩

/-- The document's letters. -/
def letterF (n : Nat) : UInt8 := Ba.table.getD n 0

set_option maxRecDepth 100000 in
theorem letter_run (h : H) {n : Nat} (hn : n < 64) : Runs TF 58 [.int .i64 n] h (.int .u8 (letterF n).toNat) h := by
  match n, hn with
  | 0, _ => exact Runs.ofK (n := 3) (by kernel_rfl)
  | 1, _ => exact Runs.ofK (n := 3) (by kernel_rfl)
  | 2, _ => exact Runs.ofK (n := 3) (by kernel_rfl)
  | 3, _ => exact Runs.ofK (n := 3) (by kernel_rfl)
  | 4, _ => exact Runs.ofK (n := 3) (by kernel_rfl)
  | 5, _ => exact Runs.ofK (n := 3) (by kernel_rfl)
  | 6, _ => exact Runs.ofK (n := 3) (by kernel_rfl)
  | 7, _ => exact Runs.ofK (n := 3) (by kernel_rfl)
  | 8, _ => exact Runs.ofK (n := 3) (by kernel_rfl)
  | 9, _ => exact Runs.ofK (n := 3) (by kernel_rfl)
  | 10, _ => exact Runs.ofK (n := 3) (by kernel_rfl)
  | 11, _ => exact Runs.ofK (n := 3) (by kernel_rfl)
  | 12, _ => exact Runs.ofK (n := 3) (by kernel_rfl)
  | 13, _ => exact Runs.ofK (n := 3) (by kernel_rfl)
  | 14, _ => exact Runs.ofK (n := 3) (by kernel_rfl)
  | 15, _ => exact Runs.ofK (n := 3) (by kernel_rfl)
  | 16, _ => exact Runs.ofK (n := 3) (by kernel_rfl)
  | 17, _ => exact Runs.ofK (n := 3) (by kernel_rfl)
  | 18, _ => exact Runs.ofK (n := 3) (by kernel_rfl)
  | 19, _ => exact Runs.ofK (n := 3) (by kernel_rfl)
  | 20, _ => exact Runs.ofK (n := 3) (by kernel_rfl)
  | 21, _ => exact Runs.ofK (n := 3) (by kernel_rfl)
  | 22, _ => exact Runs.ofK (n := 3) (by kernel_rfl)
  | 23, _ => exact Runs.ofK (n := 3) (by kernel_rfl)
  | 24, _ => exact Runs.ofK (n := 3) (by kernel_rfl)
  | 25, _ => exact Runs.ofK (n := 3) (by kernel_rfl)
  | 26, _ => exact Runs.ofK (n := 3) (by kernel_rfl)
  | 27, _ => exact Runs.ofK (n := 3) (by kernel_rfl)
  | 28, _ => exact Runs.ofK (n := 3) (by kernel_rfl)
  | 29, _ => exact Runs.ofK (n := 3) (by kernel_rfl)
  | 30, _ => exact Runs.ofK (n := 3) (by kernel_rfl)
  | 31, _ => exact Runs.ofK (n := 3) (by kernel_rfl)
  | 32, _ => exact Runs.ofK (n := 3) (by kernel_rfl)
  | 33, _ => exact Runs.ofK (n := 3) (by kernel_rfl)
  | 34, _ => exact Runs.ofK (n := 3) (by kernel_rfl)
  | 35, _ => exact Runs.ofK (n := 3) (by kernel_rfl)
  | 36, _ => exact Runs.ofK (n := 3) (by kernel_rfl)
  | 37, _ => exact Runs.ofK (n := 3) (by kernel_rfl)
  | 38, _ => exact Runs.ofK (n := 3) (by kernel_rfl)
  | 39, _ => exact Runs.ofK (n := 3) (by kernel_rfl)
  | 40, _ => exact Runs.ofK (n := 3) (by kernel_rfl)
  | 41, _ => exact Runs.ofK (n := 3) (by kernel_rfl)
  | 42, _ => exact Runs.ofK (n := 3) (by kernel_rfl)
  | 43, _ => exact Runs.ofK (n := 3) (by kernel_rfl)
  | 44, _ => exact Runs.ofK (n := 3) (by kernel_rfl)
  | 45, _ => exact Runs.ofK (n := 3) (by kernel_rfl)
  | 46, _ => exact Runs.ofK (n := 3) (by kernel_rfl)
  | 47, _ => exact Runs.ofK (n := 3) (by kernel_rfl)
  | 48, _ => exact Runs.ofK (n := 3) (by kernel_rfl)
  | 49, _ => exact Runs.ofK (n := 3) (by kernel_rfl)
  | 50, _ => exact Runs.ofK (n := 3) (by kernel_rfl)
  | 51, _ => exact Runs.ofK (n := 3) (by kernel_rfl)
  | 52, _ => exact Runs.ofK (n := 3) (by kernel_rfl)
  | 53, _ => exact Runs.ofK (n := 3) (by kernel_rfl)
  | 54, _ => exact Runs.ofK (n := 3) (by kernel_rfl)
  | 55, _ => exact Runs.ofK (n := 3) (by kernel_rfl)
  | 56, _ => exact Runs.ofK (n := 3) (by kernel_rfl)
  | 57, _ => exact Runs.ofK (n := 3) (by kernel_rfl)
  | 58, _ => exact Runs.ofK (n := 3) (by kernel_rfl)
  | 59, _ => exact Runs.ofK (n := 3) (by kernel_rfl)
  | 60, _ => exact Runs.ofK (n := 3) (by kernel_rfl)
  | 61, _ => exact Runs.ofK (n := 3) (by kernel_rfl)
  | 62, _ => exact Runs.ofK (n := 3) (by kernel_rfl)
  | 63, _ => exact Runs.ofK (n := 3) (by kernel_rfl)
  | k + 64, hk => exact absurd hk (by omega)

theorem u8_eqN {a b : UInt8} (h : (a.toNat : Int) = (b.toNat : Int)) : a = b := UInt8.toNat_inj.1 (by omega)
theorem u8_neN {a b : UInt8} (h : ¬ (a.toNat : Int) = (b.toNat : Int)) : a ≠ b := fun e => h (by rw [e])
theorem nums_step {c : UInt8} {i : Nat} (h : letterF i ≠ c) (h1 : ∀ j, i + 1 ≤ j → j < 64 → letterF j ≠ c) : ∀ j, i ≤ j → j < 64 → letterF j ≠ c := fun j h2 h3 => by
  by_cases e : j = i
  · rw [e]; exact h
  · exact h1 j (by omega) h3
theorem nums_stepTo {c : UInt8} {i j : Nat} (h : letterF i ≠ c) (h1 : ∀ m, i + 1 ≤ m → m < j → letterF m ≠ c) : ∀ m, i ≤ m → m < j → letterF m ≠ c := fun m h2 h3 => by
  by_cases e : m = i
  · rw [e]; exact h
  · exact h1 m (by omega) h3

set_option maxHeartbeats 4000000 in
theorem number_loop {h : H} {c : UInt8} :
    ∀ (k i : Nat), i + k = 64 → ∀ (ts : List AV), ts.length = 13 → getL ts 0 = some (.int .u8 c.toNat) → getL ts 3 = some (.int .i64 i) →
      ∀ (Q : Ex → St → Prop), (∀ ts', ts'.length = 13 → (∀ j, i ≤ j → j < 64 → letterF j ≠ c) → Q (.exit 0) (ts', h)) → (∀ ts' j, i ≤ j → j < 64 → letterF j = c → (∀ m, i ≤ m → m < j → letterF m ≠ c) → getL ts' 2 = some (.int .i64 j) → Q .ret (ts', h)) → Wp TF (.loop l35_1) (ts, h) Q := by
  intro k
  induction k with
  | zero =>
    intro i hi ts t0 g0 g3 Q hQ hQ'
    obtain rfl : i = 64 := by omega
    refine Wp.loop ?_
    rw [laid_eq t0 [(0, .int .u8 c.toNat), (3, .int .i64 64)] (by simp [g0, g3])]
    refine Wp.seq ?_
    refine Wp.seq ?_
    refine Wp.region ?_
    refine Wo.pre 1 (by kernel_rfl) ?_
    refine Wo.pre 1 (by kernel_rfl) ?_
    refine Wo.nil ?_
    refine Wp.cond false (by kernel_rfl) ?_
    refine Wp.exit ?_
    exact hQ _ (by kernel_rfl) (fun j h1 h2 => absurd h2 (by omega))
  | succ k ih =>
    intro i hi ts t0 g0 g3 Q hQ hQ'
    have hlt : i < 64 := by omega
    have hl := letter_run h hlt
    refine Wp.loop ?_
    rw [laid_eq t0 [(0, .int .u8 c.toNat), (3, .int .i64 i)] (by simp [g0, g3])]
    refine Wp.seq ?_
    refine Wp.seq ?_
    refine Wp.region ?_
    refine Wo.pre 1 (by kernel_rfl) ?_
    refine Wo.cmp (op := .lss) (x := IX.t 4) (y := IX.c (AV.int IntKind.i64 64)) (k := IntKind.i64) (a := ↑i) (b := 64) ((↑i : Int) < (64 : Int)) (by kernel_rfl) (by kernel_rfl) (by kernel_rfl) (by kernel_rfl) (by simp) (by kernel_rfl) (fun q1 => ?_) (fun q1 => ?_)
    rotate_left
    · (exfalso; omega)
    refine Wo.nil ?_
    refine Wp.cond true (by kernel_rfl) ?_
    refine Wp.skip ?_
    refine Wp.seq ?_
    refine Wp.block ?_
    refine Wp.seq ?_
    refine Wp.region ?_
    refine Wo.pre 1 (by kernel_rfl) ?_
    refine Wo.call (by kernel_rfl) (by kernel_rfl) hl ?_
    clear hl
    refine Wo.pre 1 (by kernel_rfl) ?_
    refine Wo.cmp (op := .eql) (x := IX.t 9) (y := IX.t 10) (k := IntKind.u8) (a := ↑(letterF i).toNat) (b := ↑c.toNat) ((↑(letterF i).toNat : Int) = (↑c.toNat : Int)) (by kernel_rfl) (by kernel_rfl) (by kernel_rfl) (by kernel_rfl) (by simp) (by kernel_rfl) (fun q2 => ?_) (fun q2 => ?_)
    · skip
      refine Wo.nil ?_
      refine Wp.cond true (by kernel_rfl) ?_
      refine Wp.seq ?_
      refine Wp.region ?_
      refine Wo.pre 2 (by kernel_rfl) ?_
      refine Wo.nil ?_
      refine Wp.ret ?_
      exact hQ' _ i (Nat.le_refl _) hlt (u8_eqN (by assumption)) (fun m h1 h2 => absurd h1 (by omega)) (by kernel_rfl)
    · skip
      refine Wo.nil ?_
      refine Wp.cond false (by kernel_rfl) ?_
      refine Wp.skip ?_
      refine Wp.region ?_
      refine Wo.pre 1 (by kernel_rfl) ?_
      refine Wo.val (.int IntKind.i64 ((↑i : Int) + (1 : Int))) h (by kernel_rfl) (iop_arith (op := .add) (a := ↑i) (b := 1) (by kernel_rfl) (by kernel_rfl) (by simp) (bin_add IntKind.i64 (by simp only [min_i64]; omega) (by simp only [max_i64]; omega))) ?_
      refine Wo.pre 1 (by kernel_rfl) ?_
      refine Wo.nil ?_
      exact ih (i + 1) (by omega) _ (by kernel_rfl) (by kernel_rfl) (by kernel_rfl) Q (fun ts' hl h1 => hQ ts' hl (nums_step (u8_neN (by assumption)) h1)) (fun ts' j h1 h2 h3 h4 h5 => hQ' ts' j (by omega) h2 h3 (nums_stepTo (u8_neN (by assumption)) h4) h5)

/-- The number of a letter. -/
def numF (c : UInt8) : Int := Lib.indexByte Ba.table c

end Go.Det
