/- Base: texts joined: the walks. -/
import Derived.Test.YtdnfbmminagflaaDoorba1
import Derived.Test.YtdnfbmminagflaaDoorbaPl
set_option linter.unusedVariables false
set_option linter.unusedSimpArgs false
set_option linter.unusedSectionVars false
namespace Go.Det
open Go.Proofs
attribute [local irreducible] Wp Wo Wd iop ev slots quiets wanted put

theorem iop_addS {x y : IX} {ρ : IX → AV} {h : H} {a b : List UInt8} (hx : ρ x = .str a) (hy : ρ y = .str b) (hl : a.length + b.length ≤ 9223372036854775807) : iop (.bin .add x y) ρ h = some (.val (.str (a ++ b)) h) := by
  simp [iop, binop, binStr, hx, hy, hl]
theorem iop_neS {x y : IX} {ρ : IX → AV} {h : H} {a b : List UInt8} (c : Bool) (hx : ρ x = .str a) (hy : ρ y = .str b) (e : (!(a == b)) = c) : iop (.bin .neq x y) ρ h = some (.val (.bool c) h) := by
  simp [iop, binop, binStr, hx, hy, ← e]
theorem iop_eqS {x y : IX} {ρ : IX → AV} {h : H} {a b : List UInt8} (c : Bool) (hx : ρ x = .str a) (hy : ρ y = .str b) (e : (a == b) = c) : iop (.bin .eql x y) ρ h = some (.val (.bool c) h) := by
  simp [iop, binop, binStr, hx, hy, ← e]
theorem iop_ixS {x y : IX} {ρ : IX → AV} {h : H} {s : List UInt8} {i : Nat} {c : UInt8} (hx : ρ x = .str s) (hy : ρ y = .int .i64 i) (hc : s[i]? = some c) : iop (.ixS x y) ρ h = some (.val (.int .u8 c.toNat) h) := by
  have hg : getL s i = some c := by rw [getL_eq]; exact hc
  simp [iop, hx, hy, asI, hg]
theorem iop_quo3 {x y : IX} {ρ : IX → AV} {h : H} {a : Nat} (hx : ρ x = .int .i64 a) (hy : ρ y = .int .i64 3) (ha : a ≤ 4611686018427387904) : iop (.bin .quo x y) ρ h = some (.val (.int .i64 ((a / 3 : Nat) : Int)) h) := by
  have e : IntKind.i64.wrap (Int.tdiv (a : Int) 3) = ((a / 3 : Nat) : Int) := by
    rw [Int.tdiv_eq_ediv_of_nonneg (by omega), i64_fit _ (by omega)]
    omega
  simp only [iop, binop, binInt, hx, hy, e]
  rfl
theorem iop_mul3 {x y : IX} {ρ : IX → AV} {h : H} {a : Nat} (hx : ρ x = .int .i64 a) (hy : ρ y = .int .i64 3) (ha : a ≤ 1048576) : iop (.bin .mul x y) ρ h = some (.val (.int .i64 ((3 * a : Nat) : Int)) h) := by
  have e : IntKind.i64.wrap ((a : Int) * 3) = ((3 * a : Nat) : Int) := by
    rw [i64_fit _ (by omega)]
    omega
  simp [iop, binop, binInt, hx, hy, e]
theorem iop_rem3 {x y : IX} {ρ : IX → AV} {h : H} {a : Nat} (hx : ρ x = .int .i64 a) (hy : ρ y = .int .i64 3) : iop (.bin .rem x y) ρ h = some (.val (.int .i64 ((a % 3 : Nat) : Int)) h) := by
  have e : Int.tmod (a : Int) 3 = ((a % 3 : Nat) : Int) := by
    rw [Int.tmod_eq_emod_of_nonneg (by omega)]
    omega
  simp [iop, binop, binInt, hx, hy, e]
theorem iop_sub3 {x y : IX} {ρ : IX → AV} {h : H} {a : Nat} (hx : ρ x = .int .i64 3) (hy : ρ y = .int .i64 ((a % 3 : Nat) : Int)) : iop (.bin .sub x y) ρ h = some (.val (.int .i64 ((3 - a % 3 : Nat) : Int)) h) := by
  have e : IntKind.i64.wrap (3 - ((a % 3 : Nat) : Int)) = ((3 - a % 3 : Nat) : Int) := by
    rw [i64_fit _ (by omega)]
    omega
  simp only [iop, binop, binInt, hx, hy, e]
  rfl

theorem bytesOf_bs {h : H} {v : AV} {l : List UInt8} (hb : Bs h v l) : bytesOf h v = some l := by
  rcases hb with ⟨rfl, rfl⟩ | ⟨a, c, rfl, _, h2⟩
  · rfl
  · simp only [bytesOf, h2, toB_bytesAV]

theorem put_run {h : H} {v : AV} {l : List UInt8} (hb : Bs h v l) (hl : l.length ≤ 149500000000000) : Runs TF 16 [v] h (.str (Ba.b64 l)) h :=
  Runs.nat (fn := { ntmps := 0, results := [], body := .skip, known := true }) rfl (by simp only [nPut, bytesOf_bs hb, hl, if_true])
theorem wakes_run (h : H) : Runs TF 15 [] h (.bool true) h := Runs.nat (fn := { ntmps := 0, results := [], body := .skip, known := true }) rfl rfl

theorem joins_at {ls : List UInt8} {m i : Nat} (h : i < ls.length) (ha : ∀ c ∈ ls, Ba.Alpha c) : ∃ c, (ls ++ List.replicate m 61)[i]? = some c ∧ Ba.Alpha c := by
  refine ⟨ls[i], by rw [List.getElem?_append_left h, List.getElem?_eq_getElem h], ha _ (List.getElem_mem h)⟩
theorem joins_pad {ls : List UInt8} {m p : Nat} (h : p < m) : (ls ++ List.replicate m 61)[ls.length + p]? = some 61 := by
  rw [List.getElem?_append_right (by omega), Nat.add_sub_cancel_left, List.getElem?_replicate, if_pos h]

set_option maxHeartbeats 16000000 in
theorem joins_loop {h : H} {ls : List UInt8} {m : Nat} {y : AV} (ha : ∀ c ∈ ls, Ba.Alpha c) (hlen : (ls ++ List.replicate m (61 : UInt8)).length ≤ 4611686018427387904) :
    ∀ (k i : Nat), i + k = ls.length + m → ∀ (ts : List AV), ts.length = 94 → getL ts 1 = some y → getL ts 5 = some (.str (ls ++ List.replicate m 61)) → getL ts 6 = some (.int .i64 ((i - ls.length : Nat) : Int)) → getL ts 7 = some (.int .i64 i) →
      ∀ (Q : Ex → St → Prop), (∀ ts', ts'.length = 94 → getL ts' 1 = some y → getL ts' 6 = some (.int .i64 m) → Q (.exit 0) (ts', h)) → Wp TF (.loop l5_1) (ts, h) Q := by
  obtain ⟨t, ht⟩ : ∃ t, t = ls ++ List.replicate m (61 : UInt8) := ⟨_, rfl⟩
  have htl : t.length = ls.length + m := by rw [ht]; simp
  rw [← ht] at hlen
  intro k
  induction k with
  | zero =>
    intro i hi ts t0 g1 g5 g6 g7 Q hQ
    rw [← ht] at g5
    obtain rfl : i = ls.length + m := by omega
    rw [Nat.add_sub_cancel_left] at g6
    refine Wp.loop ?_
    rw [laid_eq t0 [(1, y), (5, .str t), (6, .int .i64 m), (7, .int .i64 ((ls.length + m : Nat) : Int))] (by simp [g1, g5, g6, g7])]
    refine Wp.seq ?_
    refine Wp.seq ?_
    refine Wp.region ?_
    refine Wo.pre 3 (by kernel_rfl) ?_
    refine Wo.cmp (op := .lss) (x := IX.t 28) (y := IX.t 30) (k := IntKind.i64) (a := ↑(ls.length + m)) (b := ↑t.length) ((↑(ls.length + m) : Int) < (↑t.length : Int)) (by kernel_rfl) (by kernel_rfl) (by kernel_rfl) (by kernel_rfl) (by simp) (by kernel_rfl) (fun q1 => ?_) (fun q1 => ?_)
    · (exfalso; omega)
    refine Wo.nil ?_
    refine Wp.cond false (by kernel_rfl) ?_
    refine Wp.exit ?_
    exact hQ _ (by kernel_rfl) (by kernel_rfl) (by kernel_rfl)
  | succ k ih =>
    intro i hi ts t0 g1 g5 g6 g7 Q hQ
    rw [← ht] at g5 ih
    by_cases hlt : i < ls.length
    · obtain ⟨c, hc, hcl⟩ := joins_at (m := m) hlt ha
      rw [← ht] at hc
      have e1 : i + 1 - ls.length = 0 := by omega
      rw [show i - ls.length = 0 by omega] at g6
      refine Wp.loop ?_
      rw [laid_eq t0 [(1, y), (5, .str t), (6, .int .i64 0), (7, .int .i64 i)] (by simp [g1, g5, g6, g7])]
      have hne : ¬ (c.toNat : Int) = 61 := by unfold Ba.Alpha at hcl; omega
      rcases hcl with hcl | hcl | hcl | hcl | hcl
      · refine Wp.seq ?_
        refine Wp.seq ?_
        refine Wp.region ?_
        refine Wo.pre 3 (by kernel_rfl) ?_
        refine Wo.cmp (op := .lss) (x := IX.t 28) (y := IX.t 30) (k := IntKind.i64) (a := ↑i) (b := ↑t.length) ((↑i : Int) < (↑t.length : Int)) (by kernel_rfl) (by kernel_rfl) (by kernel_rfl) (by kernel_rfl) (by simp) (by kernel_rfl) (fun q1 => ?_) (fun q1 => ?_)
        rotate_left
        · (exfalso; omega)
        refine Wo.nil ?_
        refine Wp.cond true (by kernel_rfl) ?_
        refine Wp.skip ?_
        refine Wp.seq ?_
        refine Wp.block ?_
        refine Wp.seq ?_
        refine Wp.region ?_
        refine Wo.pre 2 (by kernel_rfl) ?_
        refine Wo.val (.int .u8 c.toNat) h (by kernel_rfl) (iop_ixS (s := t) (i := i) (by kernel_rfl) (by kernel_rfl) hc) ?_
        refine Wo.pre 1 (by kernel_rfl) ?_
        refine Wo.nil ?_
        refine Wp.seq ?_
        refine Wp.region ?_
        refine Wo.pre 1 (by kernel_rfl) ?_
        refine Wo.cmp (op := .geq) (x := IX.t 37) (y := IX.c (AV.int IntKind.u8 65)) (k := IntKind.u8) (a := ↑c.toNat) (b := 65) ((↑c.toNat : Int) ≥ (65 : Int)) (by kernel_rfl) (by kernel_rfl) (by kernel_rfl) (by kernel_rfl) (by simp) (by kernel_rfl) (fun q2 => ?_) (fun q2 => ?_)
        rotate_left
        · (exfalso; omega)
        refine Wo.pre 2 (by kernel_rfl) ?_
        refine Wo.cmp (op := .leq) (x := IX.t 40) (y := IX.c (AV.int IntKind.u8 90)) (k := IntKind.u8) (a := ↑c.toNat) (b := 90) ((↑c.toNat : Int) ≤ (90 : Int)) (by kernel_rfl) (by kernel_rfl) (by kernel_rfl) (by kernel_rfl) (by simp) (by kernel_rfl) (fun q3 => ?_) (fun q3 => ?_)
        rotate_left
        · (exfalso; omega)
        refine Wo.pre 3 (by kernel_rfl) ?_
        refine Wo.pre 1 (by kernel_rfl) ?_
        refine Wo.pre 1 (by kernel_rfl) ?_
        refine Wo.pre 1 (by kernel_rfl) ?_
        refine Wo.pre 1 (by kernel_rfl) ?_
        refine Wo.pre 1 (by kernel_rfl) ?_
        refine Wo.pre 3 (by kernel_rfl) ?_
        refine Wo.pre 1 (by kernel_rfl) ?_
        refine Wo.pre 1 (by kernel_rfl) ?_
        refine Wo.pre 1 (by kernel_rfl) ?_
        refine Wo.pre 1 (by kernel_rfl) ?_
        refine Wo.pre 1 (by kernel_rfl) ?_
        refine Wo.pre 3 (by kernel_rfl) ?_
        refine Wo.pre 1 (by kernel_rfl) ?_
        refine Wo.pre 3 (by kernel_rfl) ?_
        refine Wo.pre 1 (by kernel_rfl) ?_
        refine Wo.pre 2 (by kernel_rfl) ?_
        refine Wo.nil ?_
        refine Wp.seq ?_
        refine Wp.seq ?_
        refine Wp.region ?_
        refine Wo.pre 1 (by kernel_rfl) ?_
        refine Wo.cmp (op := .eql) (x := IX.t 67) (y := IX.c (AV.int IntKind.u8 61)) (k := IntKind.u8) (a := ↑c.toNat) (b := 61) ((↑c.toNat : Int) = (61 : Int)) (by kernel_rfl) (by kernel_rfl) (by kernel_rfl) (by kernel_rfl) (by simp) (by kernel_rfl) (fun q4 => ?_) (fun q4 => ?_)
        · (exfalso; omega)
        refine Wo.nil ?_
        refine Wp.cond false (by kernel_rfl) ?_
        refine Wp.skip ?_
        refine Wp.seq ?_
        refine Wp.region ?_
        refine Wo.pre 1 (by kernel_rfl) ?_
        refine Wo.pre 3 (by kernel_rfl) ?_
        refine Wo.pre 1 (by kernel_rfl) ?_
        refine Wo.pre 5 (by kernel_rfl) ?_
        refine Wo.pre 3 (by kernel_rfl) ?_
        refine Wo.nil ?_
        refine Wp.cond false (by kernel_rfl) ?_
        refine Wp.skip ?_
        refine Wp.region ?_
        refine Wo.pre 1 (by kernel_rfl) ?_
        refine Wo.val (.int IntKind.i64 ((↑i : Int) + (1 : Int))) h (by kernel_rfl) (iop_arith (op := .add) (a := ↑i) (b := 1) (by kernel_rfl) (by kernel_rfl) (by simp) (bin_add IntKind.i64 (by simp only [min_i64]; omega) (by simp only [max_i64]; omega))) ?_
        refine Wo.pre 1 (by kernel_rfl) ?_
        refine Wo.nil ?_
        exact ih (i + 1) (by omega) _ (by kernel_rfl) (by kernel_rfl) (by kernel_rfl) (by rw [e1]; kernel_rfl) (by kernel_rfl) Q hQ
      · refine Wp.seq ?_
        refine Wp.seq ?_
        refine Wp.region ?_
        refine Wo.pre 3 (by kernel_rfl) ?_
        refine Wo.cmp (op := .lss) (x := IX.t 28) (y := IX.t 30) (k := IntKind.i64) (a := ↑i) (b := ↑t.length) ((↑i : Int) < (↑t.length : Int)) (by kernel_rfl) (by kernel_rfl) (by kernel_rfl) (by kernel_rfl) (by simp) (by kernel_rfl) (fun q1 => ?_) (fun q1 => ?_)
        rotate_left
        · (exfalso; omega)
        refine Wo.nil ?_
        refine Wp.cond true (by kernel_rfl) ?_
        refine Wp.skip ?_
        refine Wp.seq ?_
        refine Wp.block ?_
        refine Wp.seq ?_
        refine Wp.region ?_
        refine Wo.pre 2 (by kernel_rfl) ?_
        refine Wo.val (.int .u8 c.toNat) h (by kernel_rfl) (iop_ixS (s := t) (i := i) (by kernel_rfl) (by kernel_rfl) hc) ?_
        refine Wo.pre 1 (by kernel_rfl) ?_
        refine Wo.nil ?_
        refine Wp.seq ?_
        refine Wp.region ?_
        refine Wo.pre 1 (by kernel_rfl) ?_
        refine Wo.cmp (op := .geq) (x := IX.t 37) (y := IX.c (AV.int IntKind.u8 65)) (k := IntKind.u8) (a := ↑c.toNat) (b := 65) ((↑c.toNat : Int) ≥ (65 : Int)) (by kernel_rfl) (by kernel_rfl) (by kernel_rfl) (by kernel_rfl) (by simp) (by kernel_rfl) (fun q2 => ?_) (fun q2 => ?_)
        rotate_left
        · (exfalso; omega)
        refine Wo.pre 2 (by kernel_rfl) ?_
        refine Wo.cmp (op := .leq) (x := IX.t 40) (y := IX.c (AV.int IntKind.u8 90)) (k := IntKind.u8) (a := ↑c.toNat) (b := 90) ((↑c.toNat : Int) ≤ (90 : Int)) (by kernel_rfl) (by kernel_rfl) (by kernel_rfl) (by kernel_rfl) (by simp) (by kernel_rfl) (fun q3 => ?_) (fun q3 => ?_)
        · (exfalso; omega)
        refine Wo.pre 3 (by kernel_rfl) ?_
        refine Wo.cmp (op := .geq) (x := IX.t 44) (y := IX.c (AV.int IntKind.u8 97)) (k := IntKind.u8) (a := ↑c.toNat) (b := 97) ((↑c.toNat : Int) ≥ (97 : Int)) (by kernel_rfl) (by kernel_rfl) (by kernel_rfl) (by kernel_rfl) (by simp) (by kernel_rfl) (fun q4 => ?_) (fun q4 => ?_)
        rotate_left
        · (exfalso; omega)
        refine Wo.pre 2 (by kernel_rfl) ?_
        refine Wo.cmp (op := .leq) (x := IX.t 47) (y := IX.c (AV.int IntKind.u8 122)) (k := IntKind.u8) (a := ↑c.toNat) (b := 122) ((↑c.toNat : Int) ≤ (122 : Int)) (by kernel_rfl) (by kernel_rfl) (by kernel_rfl) (by kernel_rfl) (by simp) (by kernel_rfl) (fun q5 => ?_) (fun q5 => ?_)
        rotate_left
        · (exfalso; omega)
        refine Wo.pre 4 (by kernel_rfl) ?_
        refine Wo.pre 1 (by kernel_rfl) ?_
        refine Wo.pre 1 (by kernel_rfl) ?_
        refine Wo.pre 1 (by kernel_rfl) ?_
        refine Wo.pre 1 (by kernel_rfl) ?_
        refine Wo.pre 1 (by kernel_rfl) ?_
        refine Wo.pre 3 (by kernel_rfl) ?_
        refine Wo.pre 1 (by kernel_rfl) ?_
        refine Wo.pre 3 (by kernel_rfl) ?_
        refine Wo.pre 1 (by kernel_rfl) ?_
        refine Wo.pre 2 (by kernel_rfl) ?_
        refine Wo.nil ?_
        refine Wp.seq ?_
        refine Wp.seq ?_
        refine Wp.region ?_
        refine Wo.pre 1 (by kernel_rfl) ?_
        refine Wo.cmp (op := .eql) (x := IX.t 67) (y := IX.c (AV.int IntKind.u8 61)) (k := IntKind.u8) (a := ↑c.toNat) (b := 61) ((↑c.toNat : Int) = (61 : Int)) (by kernel_rfl) (by kernel_rfl) (by kernel_rfl) (by kernel_rfl) (by simp) (by kernel_rfl) (fun q6 => ?_) (fun q6 => ?_)
        · (exfalso; omega)
        refine Wo.nil ?_
        refine Wp.cond false (by kernel_rfl) ?_
        refine Wp.skip ?_
        refine Wp.seq ?_
        refine Wp.region ?_
        refine Wo.pre 1 (by kernel_rfl) ?_
        refine Wo.pre 3 (by kernel_rfl) ?_
        refine Wo.pre 1 (by kernel_rfl) ?_
        refine Wo.pre 5 (by kernel_rfl) ?_
        refine Wo.pre 3 (by kernel_rfl) ?_
        refine Wo.nil ?_
        refine Wp.cond false (by kernel_rfl) ?_
        refine Wp.skip ?_
        refine Wp.region ?_
        refine Wo.pre 1 (by kernel_rfl) ?_
        refine Wo.val (.int IntKind.i64 ((↑i : Int) + (1 : Int))) h (by kernel_rfl) (iop_arith (op := .add) (a := ↑i) (b := 1) (by kernel_rfl) (by kernel_rfl) (by simp) (bin_add IntKind.i64 (by simp only [min_i64]; omega) (by simp only [max_i64]; omega))) ?_
        refine Wo.pre 1 (by kernel_rfl) ?_
        refine Wo.nil ?_
        exact ih (i + 1) (by omega) _ (by kernel_rfl) (by kernel_rfl) (by kernel_rfl) (by rw [e1]; kernel_rfl) (by kernel_rfl) Q hQ
      · refine Wp.seq ?_
        refine Wp.seq ?_
        refine Wp.region ?_
        refine Wo.pre 3 (by kernel_rfl) ?_
        refine Wo.cmp (op := .lss) (x := IX.t 28) (y := IX.t 30) (k := IntKind.i64) (a := ↑i) (b := ↑t.length) ((↑i : Int) < (↑t.length : Int)) (by kernel_rfl) (by kernel_rfl) (by kernel_rfl) (by kernel_rfl) (by simp) (by kernel_rfl) (fun q1 => ?_) (fun q1 => ?_)
        rotate_left
        · (exfalso; omega)
        refine Wo.nil ?_
        refine Wp.cond true (by kernel_rfl) ?_
        refine Wp.skip ?_
        refine Wp.seq ?_
        refine Wp.block ?_
        refine Wp.seq ?_
        refine Wp.region ?_
        refine Wo.pre 2 (by kernel_rfl) ?_
        refine Wo.val (.int .u8 c.toNat) h (by kernel_rfl) (iop_ixS (s := t) (i := i) (by kernel_rfl) (by kernel_rfl) hc) ?_
        refine Wo.pre 1 (by kernel_rfl) ?_
        refine Wo.nil ?_
        refine Wp.seq ?_
        refine Wp.region ?_
        refine Wo.pre 1 (by kernel_rfl) ?_
        refine Wo.cmp (op := .geq) (x := IX.t 37) (y := IX.c (AV.int IntKind.u8 65)) (k := IntKind.u8) (a := ↑c.toNat) (b := 65) ((↑c.toNat : Int) ≥ (65 : Int)) (by kernel_rfl) (by kernel_rfl) (by kernel_rfl) (by kernel_rfl) (by simp) (by kernel_rfl) (fun q2 => ?_) (fun q2 => ?_)
        · (exfalso; omega)
        refine Wo.pre 2 (by kernel_rfl) ?_
        refine Wo.pre 1 (by kernel_rfl) ?_
        refine Wo.pre 3 (by kernel_rfl) ?_
        refine Wo.cmp (op := .geq) (x := IX.t 44) (y := IX.c (AV.int IntKind.u8 97)) (k := IntKind.u8) (a := ↑c.toNat) (b := 97) ((↑c.toNat : Int) ≥ (97 : Int)) (by kernel_rfl) (by kernel_rfl) (by kernel_rfl) (by kernel_rfl) (by simp) (by kernel_rfl) (fun q3 => ?_) (fun q3 => ?_)
        · (exfalso; omega)
        refine Wo.pre 2 (by kernel_rfl) ?_
        refine Wo.pre 1 (by kernel_rfl) ?_
        refine Wo.pre 4 (by kernel_rfl) ?_
        refine Wo.cmp (op := .geq) (x := IX.t 52) (y := IX.c (AV.int IntKind.u8 48)) (k := IntKind.u8) (a := ↑c.toNat) (b := 48) ((↑c.toNat : Int) ≥ (48 : Int)) (by kernel_rfl) (by kernel_rfl) (by kernel_rfl) (by kernel_rfl) (by simp) (by kernel_rfl) (fun q4 => ?_) (fun q4 => ?_)
        rotate_left
        · (exfalso; omega)
        refine Wo.pre 2 (by kernel_rfl) ?_
        refine Wo.cmp (op := .leq) (x := IX.t 55) (y := IX.c (AV.int IntKind.u8 57)) (k := IntKind.u8) (a := ↑c.toNat) (b := 57) ((↑c.toNat : Int) ≤ (57 : Int)) (by kernel_rfl) (by kernel_rfl) (by kernel_rfl) (by kernel_rfl) (by simp) (by kernel_rfl) (fun q5 => ?_) (fun q5 => ?_)
        rotate_left
        · (exfalso; omega)
        refine Wo.pre 4 (by kernel_rfl) ?_
        refine Wo.pre 1 (by kernel_rfl) ?_
        refine Wo.pre 3 (by kernel_rfl) ?_
        refine Wo.pre 1 (by kernel_rfl) ?_
        refine Wo.pre 2 (by kernel_rfl) ?_
        refine Wo.nil ?_
        refine Wp.seq ?_
        refine Wp.seq ?_
        refine Wp.region ?_
        refine Wo.pre 1 (by kernel_rfl) ?_
        refine Wo.cmp (op := .eql) (x := IX.t 67) (y := IX.c (AV.int IntKind.u8 61)) (k := IntKind.u8) (a := ↑c.toNat) (b := 61) ((↑c.toNat : Int) = (61 : Int)) (by kernel_rfl) (by kernel_rfl) (by kernel_rfl) (by kernel_rfl) (by simp) (by kernel_rfl) (fun q6 => ?_) (fun q6 => ?_)
        · (exfalso; omega)
        refine Wo.nil ?_
        refine Wp.cond false (by kernel_rfl) ?_
        refine Wp.skip ?_
        refine Wp.seq ?_
        refine Wp.region ?_
        refine Wo.pre 1 (by kernel_rfl) ?_
        refine Wo.pre 3 (by kernel_rfl) ?_
        refine Wo.pre 1 (by kernel_rfl) ?_
        refine Wo.pre 5 (by kernel_rfl) ?_
        refine Wo.pre 3 (by kernel_rfl) ?_
        refine Wo.nil ?_
        refine Wp.cond false (by kernel_rfl) ?_
        refine Wp.skip ?_
        refine Wp.region ?_
        refine Wo.pre 1 (by kernel_rfl) ?_
        refine Wo.val (.int IntKind.i64 ((↑i : Int) + (1 : Int))) h (by kernel_rfl) (iop_arith (op := .add) (a := ↑i) (b := 1) (by kernel_rfl) (by kernel_rfl) (by simp) (bin_add IntKind.i64 (by simp only [min_i64]; omega) (by simp only [max_i64]; omega))) ?_
        refine Wo.pre 1 (by kernel_rfl) ?_
        refine Wo.nil ?_
        exact ih (i + 1) (by omega) _ (by kernel_rfl) (by kernel_rfl) (by kernel_rfl) (by rw [e1]; kernel_rfl) (by kernel_rfl) Q hQ
      · refine Wp.seq ?_
        refine Wp.seq ?_
        refine Wp.region ?_
        refine Wo.pre 3 (by kernel_rfl) ?_
        refine Wo.cmp (op := .lss) (x := IX.t 28) (y := IX.t 30) (k := IntKind.i64) (a := ↑i) (b := ↑t.length) ((↑i : Int) < (↑t.length : Int)) (by kernel_rfl) (by kernel_rfl) (by kernel_rfl) (by kernel_rfl) (by simp) (by kernel_rfl) (fun q1 => ?_) (fun q1 => ?_)
        rotate_left
        · (exfalso; omega)
        refine Wo.nil ?_
        refine Wp.cond true (by kernel_rfl) ?_
        refine Wp.skip ?_
        refine Wp.seq ?_
        refine Wp.block ?_
        refine Wp.seq ?_
        refine Wp.region ?_
        refine Wo.pre 2 (by kernel_rfl) ?_
        refine Wo.val (.int .u8 c.toNat) h (by kernel_rfl) (iop_ixS (s := t) (i := i) (by kernel_rfl) (by kernel_rfl) hc) ?_
        refine Wo.pre 1 (by kernel_rfl) ?_
        refine Wo.nil ?_
        refine Wp.seq ?_
        refine Wp.region ?_
        refine Wo.pre 1 (by kernel_rfl) ?_
        refine Wo.cmp (op := .geq) (x := IX.t 37) (y := IX.c (AV.int IntKind.u8 65)) (k := IntKind.u8) (a := ↑c.toNat) (b := 65) ((↑c.toNat : Int) ≥ (65 : Int)) (by kernel_rfl) (by kernel_rfl) (by kernel_rfl) (by kernel_rfl) (by simp) (by kernel_rfl) (fun q2 => ?_) (fun q2 => ?_)
        · (exfalso; omega)
        refine Wo.pre 2 (by kernel_rfl) ?_
        refine Wo.pre 1 (by kernel_rfl) ?_
        refine Wo.pre 3 (by kernel_rfl) ?_
        refine Wo.cmp (op := .geq) (x := IX.t 44) (y := IX.c (AV.int IntKind.u8 97)) (k := IntKind.u8) (a := ↑c.toNat) (b := 97) ((↑c.toNat : Int) ≥ (97 : Int)) (by kernel_rfl) (by kernel_rfl) (by kernel_rfl) (by kernel_rfl) (by simp) (by kernel_rfl) (fun q3 => ?_) (fun q3 => ?_)
        · (exfalso; omega)
        refine Wo.pre 2 (by kernel_rfl) ?_
        refine Wo.pre 1 (by kernel_rfl) ?_
        refine Wo.pre 4 (by kernel_rfl) ?_
        refine Wo.cmp (op := .geq) (x := IX.t 52) (y := IX.c (AV.int IntKind.u8 48)) (k := IntKind.u8) (a := ↑c.toNat) (b := 48) ((↑c.toNat : Int) ≥ (48 : Int)) (by kernel_rfl) (by kernel_rfl) (by kernel_rfl) (by kernel_rfl) (by simp) (by kernel_rfl) (fun q4 => ?_) (fun q4 => ?_)
        · (exfalso; omega)
        refine Wo.pre 2 (by kernel_rfl) ?_
        refine Wo.pre 1 (by kernel_rfl) ?_
        refine Wo.pre 4 (by kernel_rfl) ?_
        refine Wo.cmp (op := .eql) (x := IX.t 60) (y := IX.c (AV.int IntKind.u8 43)) (k := IntKind.u8) (a := ↑c.toNat) (b := 43) ((↑c.toNat : Int) = (43 : Int)) (by kernel_rfl) (by kernel_rfl) (by kernel_rfl) (by kernel_rfl) (by simp) (by kernel_rfl) (fun q5 => ?_) (fun q5 => ?_)
        rotate_left
        · (exfalso; omega)
        refine Wo.pre 3 (by kernel_rfl) ?_
        refine Wo.pre 1 (by kernel_rfl) ?_
        refine Wo.pre 2 (by kernel_rfl) ?_
        refine Wo.nil ?_
        refine Wp.seq ?_
        refine Wp.seq ?_
        refine Wp.region ?_
        refine Wo.pre 1 (by kernel_rfl) ?_
        refine Wo.cmp (op := .eql) (x := IX.t 67) (y := IX.c (AV.int IntKind.u8 61)) (k := IntKind.u8) (a := ↑c.toNat) (b := 61) ((↑c.toNat : Int) = (61 : Int)) (by kernel_rfl) (by kernel_rfl) (by kernel_rfl) (by kernel_rfl) (by simp) (by kernel_rfl) (fun q6 => ?_) (fun q6 => ?_)
        · (exfalso; omega)
        refine Wo.nil ?_
        refine Wp.cond false (by kernel_rfl) ?_
        refine Wp.skip ?_
        refine Wp.seq ?_
        refine Wp.region ?_
        refine Wo.pre 1 (by kernel_rfl) ?_
        refine Wo.pre 3 (by kernel_rfl) ?_
        refine Wo.pre 1 (by kernel_rfl) ?_
        refine Wo.pre 5 (by kernel_rfl) ?_
        refine Wo.pre 3 (by kernel_rfl) ?_
        refine Wo.nil ?_
        refine Wp.cond false (by kernel_rfl) ?_
        refine Wp.skip ?_
        refine Wp.region ?_
        refine Wo.pre 1 (by kernel_rfl) ?_
        refine Wo.val (.int IntKind.i64 ((↑i : Int) + (1 : Int))) h (by kernel_rfl) (iop_arith (op := .add) (a := ↑i) (b := 1) (by kernel_rfl) (by kernel_rfl) (by simp) (bin_add IntKind.i64 (by simp only [min_i64]; omega) (by simp only [max_i64]; omega))) ?_
        refine Wo.pre 1 (by kernel_rfl) ?_
        refine Wo.nil ?_
        exact ih (i + 1) (by omega) _ (by kernel_rfl) (by kernel_rfl) (by kernel_rfl) (by rw [e1]; kernel_rfl) (by kernel_rfl) Q hQ
      · refine Wp.seq ?_
        refine Wp.seq ?_
        refine Wp.region ?_
        refine Wo.pre 3 (by kernel_rfl) ?_
        refine Wo.cmp (op := .lss) (x := IX.t 28) (y := IX.t 30) (k := IntKind.i64) (a := ↑i) (b := ↑t.length) ((↑i : Int) < (↑t.length : Int)) (by kernel_rfl) (by kernel_rfl) (by kernel_rfl) (by kernel_rfl) (by simp) (by kernel_rfl) (fun q1 => ?_) (fun q1 => ?_)
        rotate_left
        · (exfalso; omega)
        refine Wo.nil ?_
        refine Wp.cond true (by kernel_rfl) ?_
        refine Wp.skip ?_
        refine Wp.seq ?_
        refine Wp.block ?_
        refine Wp.seq ?_
        refine Wp.region ?_
        refine Wo.pre 2 (by kernel_rfl) ?_
        refine Wo.val (.int .u8 c.toNat) h (by kernel_rfl) (iop_ixS (s := t) (i := i) (by kernel_rfl) (by kernel_rfl) hc) ?_
        refine Wo.pre 1 (by kernel_rfl) ?_
        refine Wo.nil ?_
        refine Wp.seq ?_
        refine Wp.region ?_
        refine Wo.pre 1 (by kernel_rfl) ?_
        refine Wo.cmp (op := .geq) (x := IX.t 37) (y := IX.c (AV.int IntKind.u8 65)) (k := IntKind.u8) (a := ↑c.toNat) (b := 65) ((↑c.toNat : Int) ≥ (65 : Int)) (by kernel_rfl) (by kernel_rfl) (by kernel_rfl) (by kernel_rfl) (by simp) (by kernel_rfl) (fun q2 => ?_) (fun q2 => ?_)
        · (exfalso; omega)
        refine Wo.pre 2 (by kernel_rfl) ?_
        refine Wo.pre 1 (by kernel_rfl) ?_
        refine Wo.pre 3 (by kernel_rfl) ?_
        refine Wo.cmp (op := .geq) (x := IX.t 44) (y := IX.c (AV.int IntKind.u8 97)) (k := IntKind.u8) (a := ↑c.toNat) (b := 97) ((↑c.toNat : Int) ≥ (97 : Int)) (by kernel_rfl) (by kernel_rfl) (by kernel_rfl) (by kernel_rfl) (by simp) (by kernel_rfl) (fun q3 => ?_) (fun q3 => ?_)
        · (exfalso; omega)
        refine Wo.pre 2 (by kernel_rfl) ?_
        refine Wo.pre 1 (by kernel_rfl) ?_
        refine Wo.pre 4 (by kernel_rfl) ?_
        refine Wo.cmp (op := .geq) (x := IX.t 52) (y := IX.c (AV.int IntKind.u8 48)) (k := IntKind.u8) (a := ↑c.toNat) (b := 48) ((↑c.toNat : Int) ≥ (48 : Int)) (by kernel_rfl) (by kernel_rfl) (by kernel_rfl) (by kernel_rfl) (by simp) (by kernel_rfl) (fun q4 => ?_) (fun q4 => ?_)
        · (exfalso; omega)
        refine Wo.pre 2 (by kernel_rfl) ?_
        refine Wo.pre 1 (by kernel_rfl) ?_
        refine Wo.pre 4 (by kernel_rfl) ?_
        refine Wo.cmp (op := .eql) (x := IX.t 60) (y := IX.c (AV.int IntKind.u8 43)) (k := IntKind.u8) (a := ↑c.toNat) (b := 43) ((↑c.toNat : Int) = (43 : Int)) (by kernel_rfl) (by kernel_rfl) (by kernel_rfl) (by kernel_rfl) (by simp) (by kernel_rfl) (fun q5 => ?_) (fun q5 => ?_)
        · (exfalso; omega)
        refine Wo.pre 3 (by kernel_rfl) ?_
        refine Wo.cmp (op := .eql) (x := IX.t 64) (y := IX.c (AV.int IntKind.u8 47)) (k := IntKind.u8) (a := ↑c.toNat) (b := 47) ((↑c.toNat : Int) = (47 : Int)) (by kernel_rfl) (by kernel_rfl) (by kernel_rfl) (by kernel_rfl) (by simp) (by kernel_rfl) (fun q6 => ?_) (fun q6 => ?_)
        rotate_left
        · (exfalso; omega)
        refine Wo.pre 2 (by kernel_rfl) ?_
        refine Wo.nil ?_
        refine Wp.seq ?_
        refine Wp.seq ?_
        refine Wp.region ?_
        refine Wo.pre 1 (by kernel_rfl) ?_
        refine Wo.cmp (op := .eql) (x := IX.t 67) (y := IX.c (AV.int IntKind.u8 61)) (k := IntKind.u8) (a := ↑c.toNat) (b := 61) ((↑c.toNat : Int) = (61 : Int)) (by kernel_rfl) (by kernel_rfl) (by kernel_rfl) (by kernel_rfl) (by simp) (by kernel_rfl) (fun q7 => ?_) (fun q7 => ?_)
        · (exfalso; omega)
        refine Wo.nil ?_
        refine Wp.cond false (by kernel_rfl) ?_
        refine Wp.skip ?_
        refine Wp.seq ?_
        refine Wp.region ?_
        refine Wo.pre 1 (by kernel_rfl) ?_
        refine Wo.pre 3 (by kernel_rfl) ?_
        refine Wo.pre 1 (by kernel_rfl) ?_
        refine Wo.pre 5 (by kernel_rfl) ?_
        refine Wo.pre 3 (by kernel_rfl) ?_
        refine Wo.nil ?_
        refine Wp.cond false (by kernel_rfl) ?_
        refine Wp.skip ?_
        refine Wp.region ?_
        refine Wo.pre 1 (by kernel_rfl) ?_
        refine Wo.val (.int IntKind.i64 ((↑i : Int) + (1 : Int))) h (by kernel_rfl) (iop_arith (op := .add) (a := ↑i) (b := 1) (by kernel_rfl) (by kernel_rfl) (by simp) (bin_add IntKind.i64 (by simp only [min_i64]; omega) (by simp only [max_i64]; omega))) ?_
        refine Wo.pre 1 (by kernel_rfl) ?_
        refine Wo.nil ?_
        exact ih (i + 1) (by omega) _ (by kernel_rfl) (by kernel_rfl) (by kernel_rfl) (by rw [e1]; kernel_rfl) (by kernel_rfl) Q hQ
    · obtain ⟨p, rfl⟩ : ∃ p, i = ls.length + p := ⟨i - ls.length, by omega⟩
      have hc := joins_pad (ls := ls) (m := m) (p := p) (by omega)
      rw [← ht] at hc
      rw [Nat.add_sub_cancel_left] at g6
      refine Wp.loop ?_
      rw [laid_eq t0 [(1, y), (5, .str t), (6, .int .i64 p), (7, .int .i64 ((ls.length + p : Nat) : Int))] (by simp [g1, g5, g6, g7])]
      refine Wp.seq ?_
      refine Wp.seq ?_
      refine Wp.region ?_
      refine Wo.pre 3 (by kernel_rfl) ?_
      refine Wo.cmp (op := .lss) (x := IX.t 28) (y := IX.t 30) (k := IntKind.i64) (a := ↑(ls.length + p)) (b := ↑t.length) ((↑(ls.length + p) : Int) < (↑t.length : Int)) (by kernel_rfl) (by kernel_rfl) (by kernel_rfl) (by kernel_rfl) (by simp) (by kernel_rfl) (fun q1 => ?_) (fun q1 => ?_)
      rotate_left
      · (exfalso; omega)
      refine Wo.nil ?_
      refine Wp.cond true (by kernel_rfl) ?_
      refine Wp.skip ?_
      refine Wp.seq ?_
      refine Wp.block ?_
      refine Wp.seq ?_
      refine Wp.region ?_
      refine Wo.pre 2 (by kernel_rfl) ?_
      refine Wo.val (.int .u8 (61 : UInt8).toNat) h (by kernel_rfl) (iop_ixS (s := t) (i := ls.length + p) (by kernel_rfl) (by kernel_rfl) hc) ?_
      refine Wo.pre 1 (by kernel_rfl) ?_
      refine Wo.nil ?_
      refine Wp.seq ?_
      refine Wp.region ?_
      refine Wo.pre 1 (by kernel_rfl) ?_
      refine Wo.pre 3 (by kernel_rfl) ?_
      refine Wo.pre 1 (by kernel_rfl) ?_
      refine Wo.pre 3 (by kernel_rfl) ?_
      refine Wo.pre 3 (by kernel_rfl) ?_
      refine Wo.pre 1 (by kernel_rfl) ?_
      refine Wo.pre 4 (by kernel_rfl) ?_
      refine Wo.pre 3 (by kernel_rfl) ?_
      refine Wo.pre 5 (by kernel_rfl) ?_
      refine Wo.pre 4 (by kernel_rfl) ?_
      refine Wo.pre 3 (by kernel_rfl) ?_
      refine Wo.nil ?_
      refine Wp.seq ?_
      refine Wp.seq ?_
      refine Wp.region ?_
      refine Wo.pre 1 (by kernel_rfl) ?_
      refine Wo.pre 1 (by kernel_rfl) ?_
      refine Wo.nil ?_
      refine Wp.cond true (by kernel_rfl) ?_
      refine Wp.region ?_
      refine Wo.pre 1 (by kernel_rfl) ?_
      refine Wo.val (.int IntKind.i64 ((↑p : Int) + (1 : Int))) h (by kernel_rfl) (iop_arith (op := .add) (a := ↑p) (b := 1) (by kernel_rfl) (by kernel_rfl) (by simp) (bin_add IntKind.i64 (by simp only [min_i64]; omega) (by simp only [max_i64]; omega))) ?_
      refine Wo.pre 1 (by kernel_rfl) ?_
      refine Wo.nil ?_
      refine Wp.seq ?_
      refine Wp.region ?_
      refine Wo.pre 1 (by kernel_rfl) ?_
      refine Wo.pre 3 (by kernel_rfl) ?_
      refine Wo.pre 6 (by kernel_rfl) ?_
      refine Wo.pre 1 (by kernel_rfl) ?_
      refine Wo.pre 2 (by kernel_rfl) ?_
      refine Wo.nil ?_
      refine Wp.cond false (by kernel_rfl) ?_
      refine Wp.skip ?_
      refine Wp.region ?_
      refine Wo.pre 1 (by kernel_rfl) ?_
      refine Wo.val (.int IntKind.i64 ((↑(ls.length + p) : Int) + (1 : Int))) h (by kernel_rfl) (iop_arith (op := .add) (a := ↑(ls.length + p)) (b := 1) (by kernel_rfl) (by kernel_rfl) (by simp) (bin_add IntKind.i64 (by simp only [min_i64]; omega) (by simp only [max_i64]; omega))) ?_
      refine Wo.pre 1 (by kernel_rfl) ?_
      refine Wo.nil ?_
      exact ih (ls.length + p + 1) (by omega) _ (by kernel_rfl) (by kernel_rfl) (by kernel_rfl) (by rw [show ls.length + p + 1 - ls.length = p + 1 by omega]; kernel_rfl) (by kernel_rfl) Q hQ

set_option maxHeartbeats 16000000 in
theorem joins_run {h : H} {x y : AV} {a b : List UInt8} (hx : Bs h x a) (hy : Bs h y b) (cx : Cok x) (cy : Cok y) (ha : a.length ≤ 1048576) (hb : b.length ≤ 1048576) : ∃ r h', Runs TF 5 [x, y] h r h' ∧ r = .bool true := by
  refine Runs.ofP f5 rfl ?_
  have hmx : 200000000000000 = maxRow := rfl
  have hl3 : (a.take (3 * (a.length / 3))).length = 3 * (a.length / 3) := by rw [List.length_take]; omega
  have hap := Ba.b64_append (a.length / 3) (a.take (3 * (a.length / 3))) b hl3
  obtain ⟨ls, hs, hal⟩ := Ba.b64_shape _ ([] ++ a.take (3 * (a.length / 3)) ++ b) (Nat.le_refl _)
  have hbl := Ba.b64_length ([] ++ a.take (3 * (a.length / 3)) ++ b)
  obtain ⟨m, hm⟩ : ∃ m, m = (3 - ([] ++ a.take (3 * (a.length / 3)) ++ b).length % 3) % 3 := ⟨_, rfl⟩
  rw [← hm] at hs
  have hm2 : m = (3 - b.length % 3) % 3 := by
    rw [hm, List.nil_append, List.length_append, hl3]
    omega
  have hll : ([] ++ a.take (3 * (a.length / 3)) ++ b).length ≤ 2097152 := by rw [List.nil_append, List.length_append, hl3]; omega
  have hap' : Ba.b64 ([] ++ a.take (3 * (a.length / 3)) ++ b) = Ba.b64 (a.take (3 * (a.length / 3))) ++ Ba.b64 b := hap
  clear hm hap
  have m1 := hx.bq
  have k2 := hx.parts
  have m3 := hy.bq
  have k4 := hy.parts
  refine Wp.seq ?_
  refine Wp.region ?_
  refine Wo.pre 1 (by kernel_rfl) ?_
  refine Wo.nil ?_
  refine Wp.seq ?_
  refine Wp.region ?_
  refine Wo.pre 2 (by kernel_rfl) ?_
  refine Wo.val (.int .i64 (List.length (a) : Nat)) h (by kernel_rfl) (Bs.len hx (by kernel_rfl)) ?_
  refine Wo.val (.int .i64 ((a.length / 3 : Nat) : Int)) _ (by kernel_rfl) (iop_quo3 (a := a.length) (by kernel_rfl) (by kernel_rfl) (by omega)) ?_
  refine Wo.val (.int .i64 ((3 * (a.length / 3) : Nat) : Int)) _ (by kernel_rfl) (iop_mul3 (a := a.length / 3) (by kernel_rfl) (by kernel_rfl) (by omega)) ?_
  obtain ⟨z5, e5, b5, o5⟩ := hx.upN cx (ej := (↑(3 * (a.length / 3)) : Int)) (3 * (a.length / 3)) rfl (by first | omega | simp; omega)
  refine Wo.val z5 h (by kernel_rfl) (e5 (by kernel_rfl) (by kernel_rfl)) ?_
  clear e5
  have m6 := b5.bq
  have k7 := b5.parts
  refine Wo.pre 1 (by kernel_rfl) ?_
  refine Wo.nil ?_
  refine Wp.seq ?_
  refine Wp.region ?_
  refine Wo.pre 1 (by kernel_rfl) ?_
  obtain ⟨v8, H9, a10, q11, X12, q13⟩ := Ow.appF (Ow.nil0 (lo := h.n)) b5 (by first | omega | (simp; omega) | (simp; done) | assumption) (by first | omega | (simp; omega) | (simp; done) | assumption)
  refine Wo.val _ _ (by kernel_rfl) (iop_appG (v := AV.nils) (w := z5) (by kernel_rfl) (by kernel_rfl) k7.2.2 a10) ?_
  have m14 := q11.bq
  have k15 := q11.parts
  have m16 := X12.1
  refine Wo.pre 1 (by kernel_rfl) ?_
  have F17 := (hy.fr X12 (by (first | omega | (intro s hs; omega) | (dsimp only; omega) | (intro s hs; dsimp only at hs; omega) | (simp only [blk_nils, blk_sl]; omega) | (intro s hs; simp only [blk_nils, blk_sl] at hs ⊢; omega) | (simp; done))))
  obtain ⟨v18, H19, a20, q21, X22, q23⟩ := Ow.appF (lo := h.n) q11 F17 m16 (by first | omega | (simp; omega) | (simp; done) | assumption)
  refine Wo.val _ _ (by kernel_rfl) (iop_appG (v := v8) (w := y) (by kernel_rfl) (by kernel_rfl) k4.2.2 a20) ?_
  have m24 := q21.bq
  have k25 := q21.parts
  have m26 := X22.1
  have c27 := put_run q21.bs (by first | omega | (simp; omega) | (simp; done) | assumption)
  refine Wo.call (by kernel_rfl) (by kernel_rfl) c27 ?_
  clear c27
  refine Wo.pre 1 (by kernel_rfl) ?_
  refine Wo.nil ?_
  refine Wp.seq ?_
  refine Wp.seq ?_
  refine Wp.region ?_
  refine Wo.pre 2 (by kernel_rfl) ?_
  have F28 := (b5.fr (X12.trans X22) (by have d0 := m14.1.e; (first | omega | (intro s hs; omega) | (dsimp only; omega) | (intro s hs; dsimp only at hs; omega) | (simp only [blk_nils, blk_sl]; omega) | (intro s hs; simp only [blk_nils, blk_sl] at hs ⊢; omega) | (simp; done))))
  have c29 := put_run F28 (by first | omega | (simp; omega) | (simp; done) | assumption)
  refine Wo.call (by kernel_rfl) (by kernel_rfl) c29 ?_
  clear c29
  refine Wo.pre 1 (by kernel_rfl) ?_
  have F30 := (F17.fr X22 (by have d0 := m14.1.e; (first | omega | (intro s hs; omega) | (dsimp only; omega) | (intro s hs; dsimp only at hs; omega) | (simp only [blk_nils, blk_sl]; omega) | (intro s hs; simp only [blk_nils, blk_sl] at hs ⊢; omega) | (simp; done))))
  have c31 := put_run F30 (by first | omega | (simp; omega) | (simp; done) | assumption)
  refine Wo.call (by kernel_rfl) (by kernel_rfl) c31 ?_
  clear c31
  refine Wo.val (.str (Ba.b64 (a.take (3 * (a.length / 3))) ++ Ba.b64 b)) _ (by kernel_rfl) (iop_addS (by kernel_rfl) (by kernel_rfl) (by rw [Ba.b64_length, Ba.b64_length]; omega)) ?_
  refine Wo.val (.bool false) _ (by kernel_rfl) (iop_neS (a := Ba.b64 ([] ++ a.take (3 * (a.length / 3)) ++ b)) (b := Ba.b64 (a.take (3 * (a.length / 3))) ++ Ba.b64 b) false (by kernel_rfl) (by kernel_rfl) (by rw [hap']; simp)) ?_
  refine Wo.nil ?_
  refine Wp.cond false (by kernel_rfl) ?_
  refine Wp.skip ?_
  refine Wp.seq ?_
  refine Wp.region ?_
  refine Wo.pre 1 (by kernel_rfl) ?_
  refine Wo.nil ?_
  refine Wp.seq ?_
  refine Wp.seq ?_
  refine Wp.region ?_
  refine Wo.pre 1 (by kernel_rfl) ?_
  refine Wo.nil ?_
  refine Wp.block ?_
  refine joins_loop hal (by rw [← hs, hbl]; omega) (ls.length + m) 0 (by omega) _ (by kernel_rfl) (y := y) (by kernel_rfl) (by rw [← hs]; kernel_rfl) (by rw [Nat.zero_sub]; kernel_rfl) (by kernel_rfl) _ ?_
  intro ts' t0 g1 g6
  show Wp TF _ _ _
  rw [laid_eq t0 [(1, y), (6, .int .i64 m)] (by simp [g1, g6])]
  have m1 := hx.bq
  have k2 := hx.parts
  have m3 := hy.bq
  have k4 := hy.parts
  have m5 := b5.bq
  have k6 := b5.parts
  have m7 := q11.bq
  have k8 := q11.parts
  have m9 := F17.bq
  have k10 := F17.parts
  have m11 := q21.bq
  have k12 := q21.parts
  have m13 := F28.bq
  have k14 := F28.parts
  have m15 := F30.bq
  have k16 := F30.parts
  have m17 := X12.1
  have m18 := X22.1
  refine Wp.seq ?_
  refine Wp.region ?_
  refine Wo.pre 2 (by kernel_rfl) ?_
  refine Wo.val (.int .i64 (List.length (b) : Nat)) H19 (by kernel_rfl) (Bs.len F30 (by kernel_rfl)) ?_
  refine Wo.val (.int .i64 ((b.length % 3 : Nat) : Int)) _ (by kernel_rfl) (iop_rem3 (a := b.length) (by kernel_rfl) (by kernel_rfl)) ?_
  refine Wo.val (.int .i64 ((3 - b.length % 3 : Nat) : Int)) _ (by kernel_rfl) (iop_sub3 (a := b.length) (by kernel_rfl) (by kernel_rfl)) ?_
  refine Wo.val (.int .i64 (((3 - b.length % 3) % 3 : Nat) : Int)) _ (by kernel_rfl) (iop_rem3 (a := 3 - b.length % 3) (by kernel_rfl) (by kernel_rfl)) ?_
  refine Wo.cmp (op := .eql) (x := IX.t 84) (y := IX.t 89) (k := IntKind.i64) (a := ↑m) (b := ↑((3 - b.length % 3) % 3)) ((↑m : Int) = (↑((3 - b.length % 3) % 3) : Int)) (by kernel_rfl) (by kernel_rfl) (by kernel_rfl) (by kernel_rfl) (by simp) (by kernel_rfl) (fun q19 => ?_) (fun q19 => ?_)
  rotate_left
  · (exfalso; omega)
  refine Wo.pre 1 (by kernel_rfl) ?_
  have c20 := wakes_run (H19)
  refine Wo.call (by kernel_rfl) (by kernel_rfl) c20 ?_
  clear c20
  refine Wo.pre 2 (by kernel_rfl) ?_
  refine Wo.nil ?_
  refine Wp.ret ?_
  refine ⟨.inr rfl, (AV.bool true), (ret_one (res_tmp (by kernel_rfl) res_nil)), ?_⟩
  dsimp only
end Go.Det
