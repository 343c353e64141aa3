/- Reply: the document's numbers: the walks. -/
import Derived.Test.YtcobmomjdbmacaaDoorre11
set_option linter.unusedVariables false
set_option linter.unusedSimpArgs false
set_option linter.unusedSectionVars false
namespace Go.Det
open Go.Proofs
theorem iop_slS_lh {x y z : IX} {ρ : IX → AV} {h : H} {s : List UInt8} {i j : Nat} (hx : ρ x = .str s) (hy : ρ y = .int .i64 ((i : Nat) : Int)) (hz : ρ z = .int .i64 ((j : Nat) : Int)) (hi : i ≤ j) (hj : j ≤ s.length) : iop (.slS x (some y) (some z)) ρ h = some (.val (.str ((s.take j).drop i)) h) := by
  simp [iop, hx, hy, hz, bounds, asI, hi, hj]
attribute [local irreducible] Wp Wo Wd iop ev slots quiets wanted put


theorem nums_short : ∀ (u : List UInt8), u.length < 16 → Re.nums u = [0]
  | [], _ => rfl
  | c :: r, h => by
    rw [Re.nums, if_neg]
    · exact nums_short r (by simp at h; omega)
    · intro hp
      obtain ⟨s, e⟩ := Re.pre_iff.1 hp
      have := congrArg List.length e
      rw [List.length_append] at this
      have hm : Re.mark.length = 16 := rfl
      omega
theorem mark_take {u : List UInt8} (h : 16 ≤ u.length) : Re.mark.isPrefixOf u = (u.take 16 == Re.mark) := (take_beq (p := Re.mark) h).symm
theorem iop_subU8 {x y : IX} {ρ : IX → AV} {h : H} {a : Nat} (hx : ρ x = .int .u8 a) (hy : ρ y = .int .u8 48) (ha : 48 ≤ a) (hb : a < 256) : iop (.bin .sub x y) ρ h = some (.val (.int .u8 ((a - 48 : Nat) : Int)) h) := by
  refine iop_arith hx hy (by simp) ?_
  rw [bin_sub .u8 (by rw [min_u8]; omega) (by rw [max_u8]; omega)]
  congr 2
  omega

set_option maxHeartbeats 8000000 in
/-- The digits' number. -/
theorem nums_loop {h : H} {s : List UInt8} {i : Nat} (hl : s.length ≤ 1000000) (hi : i + 16 ≤ s.length) :
    ∀ (m k n : Nat), k + m = 7 → n < 10 ^ k → i + 16 + k ≤ s.length → ∀ (u : List UInt8), s.drop (i + 16 + k) = u → ∀ (ts : List AV), ts.length = 69 → getL ts 0 = some (.str s) → getL ts 3 = some (.str Re.mark) → getL ts 4 = some (.int .i64 i) → getL ts 5 = some (.int .i64 n) → getL ts 6 = some (.int .i64 ((i + 16 + k : Nat) : Int)) →
      ∀ (Q : Ex → St → Prop), (∀ ts' n', ts'.length = 69 → n' = (Re.dgs m u).foldl (fun n c => 10 * n + (c.toNat - 48)) n → n' < 10000000 → getL ts' 5 = some (.int .i64 ((n' : Nat) : Int)) → Q (.exit 2) (ts', h)) → Wp TF (.loop l24_1) (ts, h) Q := by
  intro m
  induction m with
  | zero =>
    intro k n hk hn hle u hu ts t0 g0 g3 g4 g5 g6 Q hQ
    obtain rfl : k = 7 := by omega
    have h7 : n < 10000000 := hn
    refine Wp.loop ?_
    rw [laid_eq t0 [(0, .str s), (3, .str Re.mark), (4, .int .i64 i), (5, .int .i64 n), (6, .int .i64 ((i + 16 + 7 : Nat) : Int))] (by simp [g0, g3, g4, g5, g6])]
    refine Wp.seq ?_
    refine Wp.seq ?_
    refine Wp.region ?_
    refine Wo.pre 3 (by kernel_rfl) ?_
    refine Wo.cmp (op := .lss) (x := IX.t 29) (y := IX.t 31) (k := IntKind.i64) (a := ↑(i + 16 + 7)) (b := ↑s.length) ((↑(i + 16 + 7) : Int) < (↑s.length : Int)) (by kernel_rfl) (by kernel_rfl) (by kernel_rfl) (by kernel_rfl) (by simp) (by kernel_rfl) (fun q1 => ?_) (fun q1 => ?_)
    · skip
      refine Wo.pre 5 (by kernel_rfl) ?_
      refine Wo.val (.int IntKind.i64 ((↑i : Int) + (16 : Int))) h (by kernel_rfl) (iop_arith (op := .add) (a := ↑i) (b := 16) (by kernel_rfl) (by kernel_rfl) (by simp) (bin_add IntKind.i64 (by simp only [min_i64]; omega) (by simp only [max_i64]; omega))) ?_
      refine Wo.val (.int IntKind.i64 ((↑i + 16 : Int) + (7 : Int))) h (by kernel_rfl) (iop_arith (op := .add) (a := ↑i + 16) (b := 7) (by kernel_rfl) (by kernel_rfl) (by simp) (bin_add IntKind.i64 (by simp only [min_i64]; omega) (by simp only [max_i64]; omega))) ?_
      refine Wo.cmp (op := .lss) (x := IX.t 34) (y := IX.t 39) (k := IntKind.i64) (a := ↑(i + 16 + 7)) (b := ↑i + 16 + 7) ((↑(i + 16 + 7) : Int) < (↑i + 16 + 7 : Int)) (by kernel_rfl) (by kernel_rfl) (by kernel_rfl) (by kernel_rfl) (by simp) (by kernel_rfl) (fun q2 => ?_) (fun q2 => ?_)
      · (exfalso; omega)
      refine Wo.pre 5 (by kernel_rfl) ?_
      refine Wo.pre 1 (by kernel_rfl) ?_
      refine Wo.pre 5 (by kernel_rfl) ?_
      refine Wo.pre 1 (by kernel_rfl) ?_
      refine Wo.pre 1 (by kernel_rfl) ?_
      refine Wo.nil ?_
      refine Wp.cond false (by kernel_rfl) ?_
      refine Wp.exit ?_
      exact hQ _ n (by kernel_rfl) rfl h7 (by kernel_rfl)
    · skip
      refine Wo.pre 5 (by kernel_rfl) ?_
      refine Wo.pre 1 (by kernel_rfl) ?_
      refine Wo.pre 1 (by kernel_rfl) ?_
      refine Wo.pre 1 (by kernel_rfl) ?_
      refine Wo.pre 5 (by kernel_rfl) ?_
      refine Wo.pre 1 (by kernel_rfl) ?_
      refine Wo.pre 5 (by kernel_rfl) ?_
      refine Wo.pre 1 (by kernel_rfl) ?_
      refine Wo.pre 1 (by kernel_rfl) ?_
      refine Wo.nil ?_
      refine Wp.cond false (by kernel_rfl) ?_
      refine Wp.exit ?_
      exact hQ _ n (by kernel_rfl) rfl h7 (by kernel_rfl)
  | succ m ih =>
    intro k n hk hn hle u hu ts t0 g0 g3 g4 g5 g6 Q hQ
    have h7 : n < 10000000 := Nat.lt_of_lt_of_le hn (Nat.le_trans (Nat.pow_le_pow_right (n := 10) (by omega) (show k ≤ 7 by omega)) (by decide))
    obtain ⟨p, hp⟩ : ∃ p, p = i + 16 + k := ⟨_, rfl⟩
    rw [← hp] at hu g6 hle
    match u, hu with
    | [], hu =>
      have hlen : s.length ≤ p := by
        have := congrArg List.length hu
        simp only [List.length_drop, List.length_nil] at this
        omega
      refine Wp.loop ?_
      rw [laid_eq t0 [(0, .str s), (3, .str Re.mark), (4, .int .i64 i), (5, .int .i64 n), (6, .int .i64 ((p : Nat) : Int))] (by simp [g0, g3, g4, g5, g6])]
      refine Wp.seq ?_
      refine Wp.seq ?_
      refine Wp.region ?_
      refine Wo.pre 3 (by kernel_rfl) ?_
      refine Wo.cmp (op := .lss) (x := IX.t 29) (y := IX.t 31) (k := IntKind.i64) (a := ↑p) (b := ↑s.length) ((↑p : Int) < (↑s.length : Int)) (by kernel_rfl) (by kernel_rfl) (by kernel_rfl) (by kernel_rfl) (by simp) (by kernel_rfl) (fun q1 => ?_) (fun q1 => ?_)
      · (exfalso; omega)
      refine Wo.pre 5 (by kernel_rfl) ?_
      refine Wo.pre 1 (by kernel_rfl) ?_
      refine Wo.pre 1 (by kernel_rfl) ?_
      refine Wo.pre 1 (by kernel_rfl) ?_
      refine Wo.pre 5 (by kernel_rfl) ?_
      refine Wo.pre 1 (by kernel_rfl) ?_
      refine Wo.pre 5 (by kernel_rfl) ?_
      refine Wo.pre 1 (by kernel_rfl) ?_
      refine Wo.pre 1 (by kernel_rfl) ?_
      refine Wo.nil ?_
      refine Wp.cond false (by kernel_rfl) ?_
      refine Wp.exit ?_
      exact hQ _ n (by kernel_rfl) (by simp [Re.dgs]) h7 (by kernel_rfl)
    | c :: u', hu =>
      have hlt : p < s.length := by
        have := congrArg List.length hu
        simp only [List.length_drop, List.length_cons] at this
        omega
      have hc : s[p]? = some c := by
        have e := congrArg (fun z => z[0]?) hu
        simp only [List.getElem?_drop, Nat.add_zero, List.getElem?_cons_zero] at e
        exact e
      have hu2 : s.drop (i + 16 + (k + 1)) = u' := by
        rw [show i + 16 + (k + 1) = p + 1 by omega, ← List.drop_drop, hu]
        rfl
      have hcn := c.toNat_lt
      by_cases hd : Re.isDig c = true
      · have hd2 := isDig_iff.1 hd
        have hn2 : 10 * n + (c.toNat - 48) < 10 ^ (k + 1) := by rw [Nat.pow_succ]; omega
        have hq : ∀ ts' n', ts'.length = 69 → n' = (Re.dgs m u').foldl (fun n c => 10 * n + (c.toNat - 48)) (10 * n + (c.toNat - 48)) → n' < 10000000 → getL ts' 5 = some (.int .i64 ((n' : Nat) : Int)) → Q (.exit 2) (ts', h) := by
          intro ts' n' a1 a2
          refine hQ ts' n' a1 ?_
          rw [a2, Re.dgs, if_pos hd, List.foldl_cons]
        refine Wp.loop ?_
        rw [laid_eq t0 [(0, .str s), (3, .str Re.mark), (4, .int .i64 i), (5, .int .i64 n), (6, .int .i64 ((p : Nat) : Int))] (by simp [g0, g3, g4, g5, g6])]
        refine Wp.seq ?_
        refine Wp.seq ?_
        refine Wp.region ?_
        refine Wo.pre 3 (by kernel_rfl) ?_
        refine Wo.cmp (op := .lss) (x := IX.t 29) (y := IX.t 31) (k := IntKind.i64) (a := ↑p) (b := ↑s.length) ((↑p : Int) < (↑s.length : Int)) (by kernel_rfl) (by kernel_rfl) (by kernel_rfl) (by kernel_rfl) (by simp) (by kernel_rfl) (fun q1 => ?_) (fun q1 => ?_)
        rotate_left
        · (exfalso; omega)
        refine Wo.pre 5 (by kernel_rfl) ?_
        refine Wo.val (.int IntKind.i64 ((↑i : Int) + (16 : Int))) h (by kernel_rfl) (iop_arith (op := .add) (a := ↑i) (b := 16) (by kernel_rfl) (by kernel_rfl) (by simp) (bin_add IntKind.i64 (by simp only [min_i64]; omega) (by simp only [max_i64]; omega))) ?_
        refine Wo.val (.int IntKind.i64 ((↑i + 16 : Int) + (7 : Int))) h (by kernel_rfl) (iop_arith (op := .add) (a := ↑i + 16) (b := 7) (by kernel_rfl) (by kernel_rfl) (by simp) (bin_add IntKind.i64 (by simp only [min_i64]; omega) (by simp only [max_i64]; omega))) ?_
        refine Wo.cmp (op := .lss) (x := IX.t 34) (y := IX.t 39) (k := IntKind.i64) (a := ↑p) (b := ↑i + 16 + 7) ((↑p : Int) < (↑i + 16 + 7 : Int)) (by kernel_rfl) (by kernel_rfl) (by kernel_rfl) (by kernel_rfl) (by simp) (by kernel_rfl) (fun q2 => ?_) (fun q2 => ?_)
        rotate_left
        · (exfalso; omega)
        refine Wo.pre 4 (by kernel_rfl) ?_
        refine Wo.val (.int .u8 c.toNat) _ (by kernel_rfl) (iop_ixS (s := s) (i := p) (by kernel_rfl) (by kernel_rfl) hc) ?_
        refine Wo.cmp (op := .geq) (x := IX.t 45) (y := IX.c (AV.int IntKind.u8 48)) (k := IntKind.u8) (a := ↑c.toNat) (b := 48) ((↑c.toNat : Int) ≥ (48 : Int)) (by kernel_rfl) (by kernel_rfl) (by kernel_rfl) (by kernel_rfl) (by simp) (by kernel_rfl) (fun q3 => ?_) (fun q3 => ?_)
        rotate_left
        · (exfalso; omega)
        refine Wo.pre 4 (by kernel_rfl) ?_
        refine Wo.val (.int .u8 c.toNat) _ (by kernel_rfl) (iop_ixS (s := s) (i := p) (by kernel_rfl) (by kernel_rfl) hc) ?_
        refine Wo.cmp (op := .leq) (x := IX.t 51) (y := IX.c (AV.int IntKind.u8 57)) (k := IntKind.u8) (a := ↑c.toNat) (b := 57) ((↑c.toNat : Int) ≤ (57 : Int)) (by kernel_rfl) (by kernel_rfl) (by kernel_rfl) (by kernel_rfl) (by simp) (by kernel_rfl) (fun q4 => ?_) (fun q4 => ?_)
        rotate_left
        · (exfalso; omega)
        refine Wo.pre 1 (by kernel_rfl) ?_
        refine Wo.nil ?_
        refine Wp.cond true (by kernel_rfl) ?_
        refine Wp.skip ?_
        refine Wp.seq ?_
        refine Wp.block ?_
        refine Wp.region ?_
        refine Wo.pre 1 (by kernel_rfl) ?_
        refine Wo.val (.int .i64 ((10 * n : Nat) : Int)) _ (by kernel_rfl) (iop_mulN (a := 10) (b := n) (by kernel_rfl) (by kernel_rfl) (by omega)) ?_
        refine Wo.pre 2 (by kernel_rfl) ?_
        refine Wo.val (.int .u8 c.toNat) _ (by kernel_rfl) (iop_ixS (s := s) (i := p) (by kernel_rfl) (by kernel_rfl) hc) ?_
        refine Wo.val (.int .u8 ((c.toNat - 48 : Nat) : Int)) _ (by kernel_rfl) (iop_subU8 (a := c.toNat) (by kernel_rfl) (by kernel_rfl) (by omega) (by omega)) ?_
        refine Wo.val (.int .i64 ((c.toNat - 48 : Nat) : Int)) _ (by kernel_rfl) (iop_cvIfit (kk := .u8) (a := ((c.toNat - 48 : Nat) : Int)) (by kernel_rfl) (by rw [min_i64]; omega) (by rw [max_i64]; omega)) ?_
        refine Wo.val (.int .i64 ((10 * n + (c.toNat - 48) : Nat) : Int)) _ (by kernel_rfl) (iop_addN (a := 10 * n) (b := c.toNat - 48) (by kernel_rfl) (by kernel_rfl) (by omega)) ?_
        refine Wo.pre 1 (by kernel_rfl) ?_
        refine Wo.nil ?_
        refine Wp.region ?_
        refine Wo.pre 1 (by kernel_rfl) ?_
        refine Wo.val (.int IntKind.i64 ((↑p : Int) + (1 : Int))) h (by kernel_rfl) (iop_arith (op := .add) (a := ↑p) (b := 1) (by kernel_rfl) (by kernel_rfl) (by simp) (bin_add IntKind.i64 (by simp only [min_i64]; omega) (by simp only [max_i64]; omega))) ?_
        refine Wo.pre 1 (by kernel_rfl) ?_
        refine Wo.nil ?_
        exact ih (k + 1) (10 * n + (c.toNat - 48)) (by omega) hn2 (by omega) u' hu2 _ (by kernel_rfl) (by kernel_rfl) (by kernel_rfl) (by kernel_rfl) (by kernel_rfl) (by rw [show i + 16 + (k + 1) = p + 1 by omega]; kernel_rfl) Q hq
      · have hd2 : ¬ (48 ≤ c.toNat ∧ c.toNat ≤ 57) := fun q => hd (isDig_iff.2 q)
        refine Wp.loop ?_
        rw [laid_eq t0 [(0, .str s), (3, .str Re.mark), (4, .int .i64 i), (5, .int .i64 n), (6, .int .i64 ((p : Nat) : Int))] (by simp [g0, g3, g4, g5, g6])]
        refine Wp.seq ?_
        refine Wp.seq ?_
        refine Wp.region ?_
        refine Wo.pre 3 (by kernel_rfl) ?_
        refine Wo.cmp (op := .lss) (x := IX.t 29) (y := IX.t 31) (k := IntKind.i64) (a := ↑p) (b := ↑s.length) ((↑p : Int) < (↑s.length : Int)) (by kernel_rfl) (by kernel_rfl) (by kernel_rfl) (by kernel_rfl) (by simp) (by kernel_rfl) (fun q1 => ?_) (fun q1 => ?_)
        rotate_left
        · (exfalso; omega)
        refine Wo.pre 5 (by kernel_rfl) ?_
        refine Wo.val (.int IntKind.i64 ((↑i : Int) + (16 : Int))) h (by kernel_rfl) (iop_arith (op := .add) (a := ↑i) (b := 16) (by kernel_rfl) (by kernel_rfl) (by simp) (bin_add IntKind.i64 (by simp only [min_i64]; omega) (by simp only [max_i64]; omega))) ?_
        refine Wo.val (.int IntKind.i64 ((↑i + 16 : Int) + (7 : Int))) h (by kernel_rfl) (iop_arith (op := .add) (a := ↑i + 16) (b := 7) (by kernel_rfl) (by kernel_rfl) (by simp) (bin_add IntKind.i64 (by simp only [min_i64]; omega) (by simp only [max_i64]; omega))) ?_
        refine Wo.cmp (op := .lss) (x := IX.t 34) (y := IX.t 39) (k := IntKind.i64) (a := ↑p) (b := ↑i + 16 + 7) ((↑p : Int) < (↑i + 16 + 7 : Int)) (by kernel_rfl) (by kernel_rfl) (by kernel_rfl) (by kernel_rfl) (by simp) (by kernel_rfl) (fun q2 => ?_) (fun q2 => ?_)
        rotate_left
        · (exfalso; omega)
        refine Wo.pre 4 (by kernel_rfl) ?_
        refine Wo.val (.int .u8 c.toNat) _ (by kernel_rfl) (iop_ixS (s := s) (i := p) (by kernel_rfl) (by kernel_rfl) hc) ?_
        refine Wo.cmp (op := .geq) (x := IX.t 45) (y := IX.c (AV.int IntKind.u8 48)) (k := IntKind.u8) (a := ↑c.toNat) (b := 48) ((↑c.toNat : Int) ≥ (48 : Int)) (by kernel_rfl) (by kernel_rfl) (by kernel_rfl) (by kernel_rfl) (by simp) (by kernel_rfl) (fun q3 => ?_) (fun q3 => ?_)
        · skip
          refine Wo.pre 4 (by kernel_rfl) ?_
          refine Wo.val (.int .u8 c.toNat) _ (by kernel_rfl) (iop_ixS (s := s) (i := p) (by kernel_rfl) (by kernel_rfl) hc) ?_
          refine Wo.cmp (op := .leq) (x := IX.t 51) (y := IX.c (AV.int IntKind.u8 57)) (k := IntKind.u8) (a := ↑c.toNat) (b := 57) ((↑c.toNat : Int) ≤ (57 : Int)) (by kernel_rfl) (by kernel_rfl) (by kernel_rfl) (by kernel_rfl) (by simp) (by kernel_rfl) (fun q4 => ?_) (fun q4 => ?_)
          · (exfalso; omega)
          refine Wo.pre 1 (by kernel_rfl) ?_
          refine Wo.nil ?_
          refine Wp.cond false (by kernel_rfl) ?_
          refine Wp.exit ?_
          exact hQ _ n (by kernel_rfl) (by rw [Re.dgs, if_neg hd]; rfl) h7 (by kernel_rfl)
        · skip
          refine Wo.pre 5 (by kernel_rfl) ?_
          refine Wo.pre 1 (by kernel_rfl) ?_
          refine Wo.pre 1 (by kernel_rfl) ?_
          refine Wo.nil ?_
          refine Wp.cond false (by kernel_rfl) ?_
          refine Wp.exit ?_
          exact hQ _ n (by kernel_rfl) (by rw [Re.dgs, if_neg hd]; rfl) h7 (by kernel_rfl)

/-- Numbers in a new row. -/
def NewN (h h' : H) (r : AV) (l : List Nat) : Prop := ∃ b q, r = .sl ⟨b, 0, 0⟩ l.length q ∧ Pt h' b (.cells 0 3 (numAV l) 0 false) ∧ h.n ≤ b

set_option maxHeartbeats 8000000 in
theorem mark_loop {h : H} {s : List UInt8} (hl : s.length ≤ 1000000) :
    ∀ (u : List UInt8) (i : Nat), s.drop i = u → i ≤ s.length → ∀ (ts : List AV), ts.length = 69 → getL ts 0 = some (.str s) → getL ts 3 = some (.str Re.mark) → getL ts 4 = some (.int .i64 i) →
      ∀ (Q : Ex → St → Prop), (∀ ts', ts'.length = 69 → Re.nums u = [0] → Q (.exit 0) (ts', h)) → (∀ ts' h' r, getL ts' 2 = some r → Ext h h' → NewN h h' r (Re.nums u) → (∀ n ∈ Re.nums u, n < 100000000) → Q .ret (ts', h')) → Wp TF (.loop l24_2) (ts, h) Q := by
  intro u
  induction u with
  | nil =>
    intro i hu hle ts t0 g0 g3 g4 Q hQ hQ'
    have hlen : s.length ≤ i := by
      have := congrArg List.length hu
      simp only [List.length_drop, List.length_nil] at this
      omega
    have hm : Re.mark.length = 16 := rfl
    refine Wp.loop ?_
    rw [laid_eq t0 [(0, .str s), (3, .str Re.mark), (4, .int .i64 i)] (by simp [g0, g3, g4])]
    refine Wp.seq ?_
    refine Wp.seq ?_
    refine Wp.region ?_
    refine Wo.pre 3 (by kernel_rfl) ?_
    refine Wo.val (.int IntKind.i64 ((↑i : Int) + (16 : Int))) h (by kernel_rfl) (iop_arith (op := .add) (a := ↑i) (b := 16) (by kernel_rfl) (by kernel_rfl) (by simp) (bin_add IntKind.i64 (by simp only [min_i64]; omega) (by simp only [max_i64]; omega))) ?_
    refine Wo.pre 2 (by kernel_rfl) ?_
    refine Wo.cmp (op := .leq) (x := IX.t 10) (y := IX.t 12) (k := IntKind.i64) (a := ↑i + 16) (b := ↑s.length) ((↑i + 16 : Int) ≤ (↑s.length : Int)) (by kernel_rfl) (by kernel_rfl) (by kernel_rfl) (by kernel_rfl) (by simp) (by kernel_rfl) (fun q1 => ?_) (fun q1 => ?_)
    · (exfalso; omega)
    refine Wo.nil ?_
    refine Wp.cond false (by kernel_rfl) ?_
    refine Wp.exit ?_
    exact hQ _ (by kernel_rfl) rfl
  | cons c u ih =>
    intro i hu hle ts t0 g0 g3 g4 Q hQ hQ'
    have hlen : s.length - i = u.length + 1 := by
      have := congrArg List.length hu
      simpa only [List.length_drop, List.length_cons] using this
    have hm : Re.mark.length = 16 := rfl
    by_cases h16 : i + 16 ≤ s.length
    · have hsl : (s.take (i + 16)).drop i = (c :: u).take 16 := by rw [cut_eq (i := i) (n := 16) rfl, hu]
      have hmk := mark_take (u := c :: u) (by rw [List.length_cons]; omega)
      by_cases hmq : (c :: u).take 16 = Re.mark
      · have hpre : Re.mark.isPrefixOf (c :: u) = true := by rw [hmk, hmq]; simp
        have hdr : s.drop (i + 16 + 0) = (c :: u).drop 16 := by rw [Nat.add_zero, ← List.drop_drop, hu]
        have hnm : Re.nums (c :: u) = [Re.val (Re.dgs 7 ((c :: u).drop 16)), 10 * Re.val (Re.dgs 7 ((c :: u).drop 16))] := by rw [Re.nums, if_pos hpre]
        refine Wp.loop ?_
        rw [laid_eq t0 [(0, .str s), (3, .str Re.mark), (4, .int .i64 i)] (by simp [g0, g3, g4])]
        refine Wp.seq ?_
        refine Wp.seq ?_
        refine Wp.region ?_
        refine Wo.pre 3 (by kernel_rfl) ?_
        refine Wo.val (.int .i64 ((i + 16 : Nat) : Int)) _ (by kernel_rfl) (iop_addN (a := i) (b := 16) (by kernel_rfl) (by kernel_rfl) (by omega)) ?_
        refine Wo.pre 2 (by kernel_rfl) ?_
        refine Wo.cmp (op := .leq) (x := IX.t 10) (y := IX.t 12) (k := IntKind.i64) (a := ↑(i + 16)) (b := ↑s.length) ((↑(i + 16) : Int) ≤ (↑s.length : Int)) (by kernel_rfl) (by kernel_rfl) (by kernel_rfl) (by kernel_rfl) (by simp) (by kernel_rfl) (fun q1 => ?_) (fun q1 => ?_)
        rotate_left
        · (exfalso; omega)
        refine Wo.nil ?_
        refine Wp.cond true (by kernel_rfl) ?_
        refine Wp.skip ?_
        refine Wp.seq ?_
        refine Wp.block ?_
        refine Wp.seq ?_
        refine Wp.seq ?_
        refine Wp.region ?_
        refine Wo.pre 5 (by kernel_rfl) ?_
        refine Wo.val (.int .i64 ((i + 16 : Nat) : Int)) _ (by kernel_rfl) (iop_addN (a := i) (b := 16) (by kernel_rfl) (by kernel_rfl) (by omega)) ?_
        refine Wo.val (.str Re.mark) _ (by kernel_rfl) (by rw [← hmq, ← hsl]; exact iop_slS_lh (s := s) (i := i) (j := i + 16) (by kernel_rfl) (by kernel_rfl) (by kernel_rfl) (by omega) h16) ?_
        refine Wo.pre 1 (by kernel_rfl) ?_
        refine Wo.val (.bool false) _ (by kernel_rfl) (iop_neS (a := Re.mark) (b := Re.mark) false (by kernel_rfl) (by kernel_rfl) (by decide)) ?_
        refine Wo.nil ?_
        refine Wp.cond false (by kernel_rfl) ?_
        refine Wp.skip ?_
        refine Wp.seq ?_
        refine Wp.region ?_
        refine Wo.pre 1 (by kernel_rfl) ?_
        refine Wo.nil ?_
        refine Wp.seq ?_
        refine Wp.seq ?_
        refine Wp.region ?_
        refine Wo.pre 3 (by kernel_rfl) ?_
        refine Wo.val (.int .i64 ((i + 16 : Nat) : Int)) _ (by kernel_rfl) (iop_addN (a := i) (b := 16) (by kernel_rfl) (by kernel_rfl) (by omega)) ?_
        refine Wo.pre 1 (by kernel_rfl) ?_
        refine Wo.nil ?_
        refine Wp.block ?_
        refine nums_loop hl h16 7 0 0 rfl (by decide) (by omega) _ hdr _ (by kernel_rfl) (by kernel_rfl) (by kernel_rfl) (by kernel_rfl) (by kernel_rfl) (by kernel_rfl) _ ?_
        intro ts' n' u0 e1 e2 u5
        have e1' : n' = Re.val (Re.dgs 7 ((c :: u).drop 16)) := e1
        rw [← e1'] at hnm
        rw [hnm] at hQ'
        have hall : ∀ n ∈ [n', 10 * n'], n < 100000000 := by
          intro n hn
          simp only [List.mem_cons, List.not_mem_nil, or_false] at hn
          omega
        show Wp TF _ _ _
        rw [laid_eq u0 [(5, .int .i64 ((n' : Nat) : Int))] (by simp [u5])]
        refine Wp.seq ?_
        refine Wp.region ?_
        refine Wo.pre 2 (by kernel_rfl) ?_
        refine Wo.val (.int .i64 ((10 * n' : Nat) : Int)) _ (by kernel_rfl) (iop_mulN (a := 10) (b := n') (by kernel_rfl) (by kernel_rfl) (by omega)) ?_
        obtain ⟨H1, e1, P1, X1, n1⟩ := bsl_new h 3 [AV.int IntKind.i64 ↑n', AV.int IntKind.i64 ↑(10 * n')] (ones_cons rfl (ones_cons rfl ones_nil))
        refine Wo.val (.sl ⟨H.n h, 0, 0⟩ 2 (.ex 2)) H1 (by kernel_rfl) (e1 (fill_cons (v := AV.int IntKind.i64 ↑n') (vs := [AV.int IntKind.i64 ↑n']) (by kernel_rfl) rfl (by kernel_rfl) (fill_cons (v := AV.int IntKind.i64 ↑(10 * n')) (vs := [AV.int IntKind.i64 ↑(10 * n')]) (by kernel_rfl) rfl (by kernel_rfl) rfl))) ?_
        clear e1
        have m2 := X1.1
        refine Wo.pre 1 (by kernel_rfl) ?_
        refine Wo.nil ?_
        refine Wp.ret ?_
        exact hQ' _ _ (.sl ⟨h.n, 0, 0⟩ 2 (.ex 2)) (by kernel_rfl) (X1.ext0) ⟨h.n, .ex 2, rfl, P1, Nat.le_refl _⟩ hall
      · have hpre : ¬ Re.mark.isPrefixOf (c :: u) = true := by rw [hmk]; simpa using hmq
        have hnm : Re.nums (c :: u) = Re.nums u := by rw [Re.nums, if_neg hpre]
        rw [hnm] at hQ hQ'
        have hu2 : s.drop (i + 1) = u := by
          rw [← List.drop_drop, hu]
          rfl
        have hne : (!((c :: u).take 16 == Re.mark)) = true := by
          rw [Bool.not_eq_true', beq_eq_false_iff_ne]
          exact hmq
        obtain ⟨w, hw⟩ : ∃ w, w = (c :: u).take 16 := ⟨_, rfl⟩
        rw [← hw] at hne hsl
        refine Wp.loop ?_
        rw [laid_eq t0 [(0, .str s), (3, .str Re.mark), (4, .int .i64 i)] (by simp [g0, g3, g4])]
        refine Wp.seq ?_
        refine Wp.seq ?_
        refine Wp.region ?_
        refine Wo.pre 3 (by kernel_rfl) ?_
        refine Wo.val (.int .i64 ((i + 16 : Nat) : Int)) _ (by kernel_rfl) (iop_addN (a := i) (b := 16) (by kernel_rfl) (by kernel_rfl) (by omega)) ?_
        refine Wo.pre 2 (by kernel_rfl) ?_
        refine Wo.cmp (op := .leq) (x := IX.t 10) (y := IX.t 12) (k := IntKind.i64) (a := ↑(i + 16)) (b := ↑s.length) ((↑(i + 16) : Int) ≤ (↑s.length : Int)) (by kernel_rfl) (by kernel_rfl) (by kernel_rfl) (by kernel_rfl) (by simp) (by kernel_rfl) (fun q1 => ?_) (fun q1 => ?_)
        rotate_left
        · (exfalso; omega)
        refine Wo.nil ?_
        refine Wp.cond true (by kernel_rfl) ?_
        refine Wp.skip ?_
        refine Wp.seq ?_
        refine Wp.block ?_
        refine Wp.seq ?_
        refine Wp.seq ?_
        refine Wp.region ?_
        refine Wo.pre 5 (by kernel_rfl) ?_
        refine Wo.val (.int .i64 ((i + 16 : Nat) : Int)) _ (by kernel_rfl) (iop_addN (a := i) (b := 16) (by kernel_rfl) (by kernel_rfl) (by omega)) ?_
        refine Wo.val (.str w) _ (by kernel_rfl) (by rw [← hsl]; exact iop_slS_lh (s := s) (i := i) (j := i + 16) (by kernel_rfl) (by kernel_rfl) (by kernel_rfl) (by omega) h16) ?_
        refine Wo.pre 1 (by kernel_rfl) ?_
        refine Wo.val (.bool true) _ (by kernel_rfl) (iop_neS (a := w) (b := Re.mark) true (by kernel_rfl) (by kernel_rfl) hne) ?_
        refine Wo.nil ?_
        refine Wp.cond true (by kernel_rfl) ?_
        refine Wp.exit ?_
        refine Wp.region ?_
        refine Wo.pre 1 (by kernel_rfl) ?_
        refine Wo.val (.int IntKind.i64 ((↑i : Int) + (1 : Int))) h (by kernel_rfl) (iop_arith (op := .add) (a := ↑i) (b := 1) (by kernel_rfl) (by kernel_rfl) (by simp) (bin_add IntKind.i64 (by simp only [min_i64]; omega) (by simp only [max_i64]; omega))) ?_
        refine Wo.pre 1 (by kernel_rfl) ?_
        refine Wo.nil ?_
        exact ih (i + 1) hu2 (by omega) _ (by kernel_rfl) (by kernel_rfl) (by kernel_rfl) (by kernel_rfl) Q hQ hQ'
    · have hn := nums_short (c :: u) (by rw [List.length_cons]; omega)
      refine Wp.loop ?_
      rw [laid_eq t0 [(0, .str s), (3, .str Re.mark), (4, .int .i64 i)] (by simp [g0, g3, g4])]
      refine Wp.seq ?_
      refine Wp.seq ?_
      refine Wp.region ?_
      refine Wo.pre 3 (by kernel_rfl) ?_
      refine Wo.val (.int .i64 ((i + 16 : Nat) : Int)) _ (by kernel_rfl) (iop_addN (a := i) (b := 16) (by kernel_rfl) (by kernel_rfl) (by omega)) ?_
      refine Wo.pre 2 (by kernel_rfl) ?_
      refine Wo.cmp (op := .leq) (x := IX.t 10) (y := IX.t 12) (k := IntKind.i64) (a := ↑(i + 16)) (b := ↑s.length) ((↑(i + 16) : Int) ≤ (↑s.length : Int)) (by kernel_rfl) (by kernel_rfl) (by kernel_rfl) (by kernel_rfl) (by simp) (by kernel_rfl) (fun q1 => ?_) (fun q1 => ?_)
      · (exfalso; omega)
      refine Wo.nil ?_
      refine Wp.cond false (by kernel_rfl) ?_
      refine Wp.exit ?_
      exact hQ _ (by kernel_rfl) hn

set_option maxHeartbeats 8000000 in
theorem nums_run {h : H} {s : List UInt8} (hl : s.length ≤ 1000000) : ∃ r h', Runs TF 24 [.str s] h r h' ∧ Ext h h' ∧ NewN h h' r (Re.nums s) ∧ ∀ n ∈ Re.nums s, n < 100000000 := by
  refine Runs.ofP f24 rfl ?_
  refine Wp.seq ?_
  refine Wp.region ?_
  refine Wo.pre 1 (by kernel_rfl) ?_
  refine Wo.nil ?_
  refine Wp.seq ?_
  refine Wp.region ?_
  refine Wo.pre 1 (by kernel_rfl) ?_
  refine Wo.nil ?_
  refine Wp.seq ?_
  refine Wp.seq ?_
  refine Wp.region ?_
  refine Wo.pre 1 (by kernel_rfl) ?_
  refine Wo.nil ?_
  refine Wp.block ?_
  refine mark_loop hl s 0 rfl (Nat.zero_le _) _ (by kernel_rfl) (by kernel_rfl) (by kernel_rfl) (by kernel_rfl) _ ?_ ?_
  · intro ts' u0 hn
    rw [hn]
    show Wp TF _ _ _
    rw [laid_eq u0 [] (by simp)]
    refine Wp.seq ?_
    refine Wp.region ?_
    obtain ⟨H1, e1, P1, X1, n1⟩ := bsl_new h 3 [AV.int IntKind.i64 0] (ones_cons rfl ones_nil)
    refine Wo.val (.sl ⟨H.n h, 0, 0⟩ 1 (.ex 1)) H1 (by kernel_rfl) (e1 (fill_cons (v := AV.int IntKind.i64 0) (vs := [AV.int IntKind.i64 0]) (by kernel_rfl) rfl (by kernel_rfl) rfl)) ?_
    clear e1
    have m2 := X1.1
    refine Wo.pre 1 (by kernel_rfl) ?_
    refine Wo.nil ?_
    refine Wp.ret ?_
    refine ⟨.inr rfl, (AV.sl { b := h.n, g := 0, o := 0 } 1 (Cp.ex 1)), (ret_one (res_tmp (by kernel_rfl) res_nil)), ?_⟩
    dsimp only
    exact ⟨(X1.ext0), ⟨_, _, rfl, P1, Nat.le_refl _⟩, (by decide)⟩
  · intro ts' h' r u2 x' hN ha
    exact ⟨.inr rfl, r, ret_one (res_tmp (by rw [u2]; rfl) res_nil), x', hN, ha⟩
end Go.Det
