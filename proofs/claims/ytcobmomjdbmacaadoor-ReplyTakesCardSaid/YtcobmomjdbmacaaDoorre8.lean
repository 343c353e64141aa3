/- Reply: the digits read; Atoi, begins as contracts: the walks. -/
import Derived.Test.YtcobmomjdbmacaaDoorre7
set_option linter.unusedVariables false
set_option linter.unusedSimpArgs false
set_option linter.unusedSectionVars false
namespace Go.Det
open Go.Proofs
theorem ldn_at {h : H} {a : AA} {m : Nat} {c : List AV} (hc : h.ldn a m = some c) {i : Nat} {v : AV} (hv : c[i]? = some v) : h.ldg ⟨a.b, a.g, a.o + i⟩ none = some v := by
  unfold H.ldn at hc
  cases hr : h.row a with
  | none => rw [hr] at hc; simp at hc
  | some c0 =>
    rw [hr] at hc
    simp only [cut] at hc
    split at hc
    · simp only [Option.some.injEq] at hc
      subst hc
      simp only [H.ldg, H.ld, row_drop hr i, getL_eq]
      rw [List.getElem?_take] at hv
      split at hv
      · rw [List.getElem?_drop] at hv; exact hv
      · simp at hv
    · simp at hc
theorem Bs.at {h : H} {a : AA} {c : Cp} {l : List UInt8} (hb : Bs h (.sl a l.length c) l) {i : Nat} {b : UInt8} (hi : l[i]? = some b) : h.ldg ⟨a.b, a.g, a.o + i⟩ none = some (.int .u8 b.toNat) := by
  rcases hb with ⟨e, _⟩ | ⟨a', c', e, _, h2⟩
  · simp at e
  · simp only [AV.sl.injEq] at e
    obtain ⟨rfl, _, rfl⟩ := e
    exact ldn_at h2 (by simp [bytesAV, hi])
theorem iop_ldB {h : H} {a : AA} {q : Cp} {l : List UInt8} (hb : Bs h (.sl a l.length q) l) {i : Nat} {c : UInt8} {x : IX} {ρ : IX → AV} (hx : ρ x = .ptr ⟨a.b, a.g, a.o + i * 1⟩) (hc : l[i]? = some c) : iop (.ld none x) ρ h = some (.val (.int .u8 c.toNat) h) := by
  rw [Nat.mul_one] at hx
  exact iop_ld hx (hb.at hc)
attribute [local irreducible] Wp Wo Wd iop ev slots quiets wanted put

theorem decFrom_digs : ∀ (d : List UInt8) (acc : Nat), (∀ c ∈ d, Re.isDig c = true) → Lib.decFrom acc d = some (d.foldl (fun n c => 10 * n + (c.toNat - 48)) acc)
  | [], acc, _ => rfl
  | c :: d, acc, h => by
    have hc := h c (by simp)
    have hv : Lib.digitVal c = some (c.toNat - 48) := by
      simp only [Re.isDig, Bool.and_eq_true, decide_eq_true_eq] at hc
      unfold Lib.digitVal
      rw [if_pos hc]
    simp only [Lib.decFrom, hv, List.foldl_cons]
    rw [decFrom_digs d _ (fun x hx => h x (List.mem_cons_of_mem _ hx)), Nat.mul_comm]
theorem atoi_digs {d : List UInt8} (h : ∀ c ∈ d, Re.isDig c = true) (h0 : d ≠ []) : Lib.atoi d = some ((Re.val d : Nat) : Int) := by
  match d, h0 with
  | c :: r, _ =>
    have hc := h c (by simp)
    simp only [Re.isDig, Bool.and_eq_true, decide_eq_true_eq] at hc
    have h45 : (c == 45) = false := by
      cases e : c == 45 with
      | false => rfl
      | true => rw [beq_iff_eq.1 e] at hc; exact absurd hc (by decide)
    have h43 : (c == 43) = false := by
      cases e : c == 43 with
      | false => rfl
      | true => rw [beq_iff_eq.1 e] at hc; exact absurd hc (by decide)
    simp only [Lib.atoi, h45, h43, Bool.false_eq_true, if_false]
    have : Lib.decNat (c :: r) = some (Re.val (c :: r)) := by
      unfold Lib.decNat
      rw [if_neg (by simp), decFrom_digs _ 0 h]
      rfl
    rw [this]
    rfl
theorem atoi_run (h : H) {d : List UInt8} (hd : ∀ c ∈ d, Re.isDig c = true) (h0 : d ≠ []) (hl : d.length ≤ 18) : Runs TF 19 [.str d] h (.tup [.int .i64 ((Re.val d : Nat) : Int), .nili]) h :=
  Runs.nat (fn := { ntmps := 0, results := [], body := .skip, known := true }) rfl (by simp only [nAtoi]; rw [if_pos hl, atoi_digs hd h0])
theorem atoi_nil (h : H) : Runs TF 19 [.str []] h (.tup [.int .i64 0, .any]) h :=
  Runs.nat (fn := { ntmps := 0, results := [], body := .skip, known := true }) rfl rfl
theorem bytesOf_bs {h : H} {v : AV} {l : List UInt8} (hb : Bs h v l) : bytesOf h v = some l := by
  rcases hb with ⟨rfl, rfl⟩ | ⟨a, c, rfl, _, h2⟩
  · rfl
  · simp only [bytesOf, h2, toB_bytesAV]
theorem begins_run {h : H} {x : AV} {l : List UInt8} (hx : Bs h x l) (hl : l.length ≤ 140737488351232) {st at_ : Nat} {may : Bool} (he : Re.begF l = (st, at_, may)) : Runs TF 17 [x] h (.tup [.int .i64 ((st : Nat) : Int), .int .i64 ((at_ : Nat) : Int), .bool may]) h :=
  Runs.nat (fn := { ntmps := 0, results := [], body := .skip, known := true }) rfl (by simp only [nBegins, bytesOf_bs hx, hl, if_true, he])

theorem dgs_cons {m : Nat} {c : UInt8} {s : List UInt8} (h : Re.isDig c = true) : (Re.dgs (m + 1) (c :: s)).length = (Re.dgs m s).length + 1 := by rw [Re.dgs, if_pos h]; simp
theorem dgs_stop {m : Nat} {c : UInt8} {s : List UInt8} (h : Re.isDig c = false) : (Re.dgs (m + 1) (c :: s)).length = 0 := by rw [Re.dgs, if_neg (by rw [h]; simp)]; rfl
theorem isDig_iff {c : UInt8} : Re.isDig c = true ↔ 48 ≤ c.toNat ∧ c.toNat ≤ 57 := by simp [Re.isDig]

set_option maxHeartbeats 8000000 in
/-- The digits are counted. -/
theorem digs_loop {h : H} {a : AA} {q : Cp} {l : List UInt8} {at_ st p2 : Nat} {may : Bool} (hb : Bs h (.sl a l.length q) l) (hl : l.length ≤ 140737488351232) :
    ∀ (m k : Nat), k + m = 8 → ∀ (s : List UInt8), l.drop (at_ + k) = s → at_ + k ≤ l.length → ∀ (ts : List AV), ts.length = 169 → getL ts 0 = some (.sl a l.length q) → getL ts 2 = some (.ptr ⟨p2, 0, 0⟩) → getL ts 5 = some (.int .i64 st) → getL ts 6 = some (.int .i64 at_) → getL ts 8 = some (.fn (.func 18) [] []) → getL ts 9 = some (.int .i64 k) →
      ∀ (Q : Ex → St → Prop), (∀ ts', ts'.length = 169 → getL ts' 0 = some (.sl a l.length q) → getL ts' 2 = some (.ptr ⟨p2, 0, 0⟩) → getL ts' 5 = some (.int .i64 st) → getL ts' 6 = some (.int .i64 at_) → getL ts' 8 = some (.fn (.func 18) [] []) → getL ts' 9 = some (.int .i64 ((k + (Re.dgs m s).length : Nat) : Int)) → Q (.exit 0) (ts', h)) → Wp TF (.loop l8_1) (ts, h) Q := by
  intro m
  induction m with
  | zero =>
    intro k hk s hs hle ts t0 g0 g2 g5 g6 g8 g9 Q hQ
    obtain rfl : k = 8 := by omega
    have e0 : ((8 + (Re.dgs 0 s).length : Nat) : Int) = 8 := rfl
    rw [e0] at hQ
    refine Wp.loop ?_
    rw [laid_eq t0 [(0, .sl a l.length q), (2, .ptr ⟨p2, 0, 0⟩), (5, .int .i64 st), (6, .int .i64 at_), (8, .fn (.func 18) [] []), (9, .int .i64 8)] (by simp [g0, g2, g5, g6, g8, g9])]
    have m1 := hb.bq
    have k2 := hb.parts
    refine Wp.seq ?_
    refine Wp.seq ?_
    refine Wp.region ?_
    refine Wo.pre 2 (by kernel_rfl) ?_
    refine Wo.val (.int IntKind.i64 ((↑at_ : Int) + (8 : Int))) h (by kernel_rfl) (iop_arith (op := .add) (a := ↑at_) (b := 8) (by kernel_rfl) (by kernel_rfl) (by simp) (bin_add IntKind.i64 (by simp only [min_i64]; omega) (by simp only [max_i64]; omega))) ?_
    refine Wo.pre 2 (by kernel_rfl) ?_
    refine Wo.cmp (op := .lss) (x := IX.t 33) (y := IX.t 35) (k := IntKind.i64) (a := ↑at_ + 8) (b := ↑l.length) ((↑at_ + 8 : Int) < (↑l.length : Int)) (by kernel_rfl) (by kernel_rfl) (by kernel_rfl) (by kernel_rfl) (by simp) (by kernel_rfl) (fun q3 => ?_) (fun q3 => ?_)
    · skip
      refine Wo.pre 2 (by kernel_rfl) ?_
      refine Wo.pre 6 (by kernel_rfl) ?_
      refine Wo.pre 1 (by kernel_rfl) ?_
      refine Wo.pre 1 (by kernel_rfl) ?_
      refine Wo.pre 1 (by kernel_rfl) ?_
      refine Wo.pre 1 (by kernel_rfl) ?_
      refine Wo.pre 5 (by kernel_rfl) ?_
      refine Wo.pre 1 (by kernel_rfl) ?_
      refine Wo.pre 1 (by kernel_rfl) ?_
      refine Wo.pre 1 (by kernel_rfl) ?_
      refine Wo.pre 1 (by kernel_rfl) ?_
      refine Wo.pre 1 (by kernel_rfl) ?_
      refine Wo.nil ?_
      refine Wp.cond false (by kernel_rfl) ?_
      refine Wp.exit ?_
      exact hQ _ (by kernel_rfl) (by kernel_rfl) (by kernel_rfl) (by kernel_rfl) (by kernel_rfl) (by kernel_rfl) (by kernel_rfl)
    · skip
      refine Wo.pre 2 (by kernel_rfl) ?_
      refine Wo.pre 1 (by kernel_rfl) ?_
      refine Wo.pre 5 (by kernel_rfl) ?_
      refine Wo.pre 1 (by kernel_rfl) ?_
      refine Wo.pre 1 (by kernel_rfl) ?_
      refine Wo.pre 1 (by kernel_rfl) ?_
      refine Wo.pre 1 (by kernel_rfl) ?_
      refine Wo.pre 5 (by kernel_rfl) ?_
      refine Wo.pre 1 (by kernel_rfl) ?_
      refine Wo.pre 1 (by kernel_rfl) ?_
      refine Wo.pre 1 (by kernel_rfl) ?_
      refine Wo.pre 1 (by kernel_rfl) ?_
      refine Wo.pre 1 (by kernel_rfl) ?_
      refine Wo.nil ?_
      refine Wp.cond false (by kernel_rfl) ?_
      refine Wp.exit ?_
      exact hQ _ (by kernel_rfl) (by kernel_rfl) (by kernel_rfl) (by kernel_rfl) (by kernel_rfl) (by kernel_rfl) (by kernel_rfl)
  | succ m ih =>
    intro k hk s hs hle ts t0 g0 g2 g5 g6 g8 g9 Q hQ
    match s, hs with
    | [], hs =>
      have hlen : l.length ≤ at_ + k := by
        have := congrArg List.length hs
        simp only [List.length_drop, List.length_nil] at this
        omega
      have e0 : ((k + (Re.dgs (m + 1) []).length : Nat) : Int) = (k : Int) := by simp [Re.dgs]
      rw [e0] at hQ
      refine Wp.loop ?_
      rw [laid_eq t0 [(0, .sl a l.length q), (2, .ptr ⟨p2, 0, 0⟩), (5, .int .i64 st), (6, .int .i64 at_), (8, .fn (.func 18) [] []), (9, .int .i64 k)] (by simp [g0, g2, g5, g6, g8, g9])]
      have m1 := hb.bq
      have k2 := hb.parts
      refine Wp.seq ?_
      refine Wp.seq ?_
      refine Wp.region ?_
      refine Wo.pre 2 (by kernel_rfl) ?_
      refine Wo.val (.int IntKind.i64 ((↑at_ : Int) + (↑k : Int))) h (by kernel_rfl) (iop_arith (op := .add) (a := ↑at_) (b := ↑k) (by kernel_rfl) (by kernel_rfl) (by simp) (bin_add IntKind.i64 (by simp only [min_i64]; omega) (by simp only [max_i64]; omega))) ?_
      refine Wo.pre 2 (by kernel_rfl) ?_
      refine Wo.cmp (op := .lss) (x := IX.t 33) (y := IX.t 35) (k := IntKind.i64) (a := ↑at_ + ↑k) (b := ↑l.length) ((↑at_ + ↑k : Int) < (↑l.length : Int)) (by kernel_rfl) (by kernel_rfl) (by kernel_rfl) (by kernel_rfl) (by simp) (by kernel_rfl) (fun q3 => ?_) (fun q3 => ?_)
      · (exfalso; omega)
      refine Wo.pre 2 (by kernel_rfl) ?_
      refine Wo.pre 1 (by kernel_rfl) ?_
      refine Wo.pre 5 (by kernel_rfl) ?_
      refine Wo.pre 1 (by kernel_rfl) ?_
      refine Wo.pre 1 (by kernel_rfl) ?_
      refine Wo.pre 1 (by kernel_rfl) ?_
      refine Wo.pre 1 (by kernel_rfl) ?_
      refine Wo.pre 5 (by kernel_rfl) ?_
      refine Wo.pre 1 (by kernel_rfl) ?_
      refine Wo.pre 1 (by kernel_rfl) ?_
      refine Wo.pre 1 (by kernel_rfl) ?_
      refine Wo.pre 1 (by kernel_rfl) ?_
      refine Wo.pre 1 (by kernel_rfl) ?_
      refine Wo.nil ?_
      refine Wp.cond false (by kernel_rfl) ?_
      refine Wp.exit ?_
      exact hQ _ (by kernel_rfl) (by kernel_rfl) (by kernel_rfl) (by kernel_rfl) (by kernel_rfl) (by kernel_rfl) (by kernel_rfl)
    | c :: s', hs =>
      have hlt : at_ + k < l.length := by
        have := congrArg List.length hs
        simp only [List.length_drop, List.length_cons] at this
        omega
      have hc : l[at_ + k]? = some c := by
        have e := congrArg (fun z => z[0]?) hs
        simp only [List.getElem?_drop, Nat.add_zero, List.getElem?_cons_zero] at e
        exact e
      have hs2 : l.drop (at_ + (k + 1)) = s' := by
        rw [show at_ + (k + 1) = (at_ + k) + 1 by omega, ← List.drop_drop, hs]
        rfl
      by_cases hd : Re.isDig c = true
      · have hd2 := isDig_iff.1 hd
        have hq : ∀ ts', ts'.length = 169 → getL ts' 0 = some (.sl a l.length q) → getL ts' 2 = some (.ptr ⟨p2, 0, 0⟩) → getL ts' 5 = some (.int .i64 st) → getL ts' 6 = some (.int .i64 at_) → getL ts' 8 = some (.fn (.func 18) [] []) → getL ts' 9 = some (.int .i64 ((k + 1 + (Re.dgs m s').length : Nat) : Int)) → Q (.exit 0) (ts', h) := by
          intro ts' a1 a2 a3 a4 a5 a6 a7
          refine hQ ts' a1 a2 a3 a4 a5 a6 ?_
          rw [a7, dgs_cons hd, show k + ((Re.dgs m s').length + 1) = k + 1 + (Re.dgs m s').length by omega]
        refine Wp.loop ?_
        rw [laid_eq t0 [(0, .sl a l.length q), (2, .ptr ⟨p2, 0, 0⟩), (5, .int .i64 st), (6, .int .i64 at_), (8, .fn (.func 18) [] []), (9, .int .i64 k)] (by simp [g0, g2, g5, g6, g8, g9])]
        have m1 := hb.bq
        have k2 := hb.parts
        refine Wp.seq ?_
        refine Wp.seq ?_
        refine Wp.region ?_
        refine Wo.pre 2 (by kernel_rfl) ?_
        refine Wo.val (.int IntKind.i64 ((↑at_ : Int) + (↑k : Int))) h (by kernel_rfl) (iop_arith (op := .add) (a := ↑at_) (b := ↑k) (by kernel_rfl) (by kernel_rfl) (by simp) (bin_add IntKind.i64 (by simp only [min_i64]; omega) (by simp only [max_i64]; omega))) ?_
        refine Wo.pre 2 (by kernel_rfl) ?_
        refine Wo.cmp (op := .lss) (x := IX.t 33) (y := IX.t 35) (k := IntKind.i64) (a := ↑at_ + ↑k) (b := ↑l.length) ((↑at_ + ↑k : Int) < (↑l.length : Int)) (by kernel_rfl) (by kernel_rfl) (by kernel_rfl) (by kernel_rfl) (by simp) (by kernel_rfl) (fun q3 => ?_) (fun q3 => ?_)
        rotate_left
        · (exfalso; omega)
        refine Wo.pre 2 (by kernel_rfl) ?_
        refine Wo.cmp (op := .lss) (x := IX.t 38) (y := IX.c (AV.int IntKind.i64 8)) (k := IntKind.i64) (a := ↑k) (b := 8) ((↑k : Int) < (8 : Int)) (by kernel_rfl) (by kernel_rfl) (by kernel_rfl) (by kernel_rfl) (by simp) (by kernel_rfl) (fun q4 => ?_) (fun q4 => ?_)
        rotate_left
        · (exfalso; omega)
        refine Wo.pre 5 (by kernel_rfl) ?_
        refine Wo.val (.int IntKind.i64 ((↑at_ : Int) + (↑k : Int))) h (by kernel_rfl) (iop_arith (op := .add) (a := ↑at_) (b := ↑k) (by kernel_rfl) (by kernel_rfl) (by simp) (bin_add IntKind.i64 (by simp only [min_i64]; omega) (by simp only [max_i64]; omega))) ?_
        refine Wo.val (.ptr ⟨(a : AA).b, (a : AA).g, (a : AA).o + ((at_) + (k)) * 1⟩) h (by kernel_rfl) (iop_iaN (a := a) (n := l.length) (c := q) (ie := (↑at_ + ↑k : Int)) (i := ((at_) + (k))) (by kernel_rfl) (by kernel_rfl) (by omega) (by first | omega | (simp; omega))) ?_
        refine Wo.val (.int .u8 c.toNat) _ (by kernel_rfl) (iop_ldB (i := at_ + k) hb (by kernel_rfl) hc) ?_
        refine Wo.cmp (op := .geq) (x := IX.t 47) (y := IX.c (AV.int IntKind.u8 48)) (k := IntKind.u8) (a := ↑c.toNat) (b := 48) ((↑c.toNat : Int) ≥ (48 : Int)) (by kernel_rfl) (by kernel_rfl) (by kernel_rfl) (by kernel_rfl) (by simp) (by kernel_rfl) (fun q5 => ?_) (fun q5 => ?_)
        rotate_left
        · (exfalso; omega)
        refine Wo.pre 5 (by kernel_rfl) ?_
        refine Wo.val (.int IntKind.i64 ((↑at_ : Int) + (↑k : Int))) h (by kernel_rfl) (iop_arith (op := .add) (a := ↑at_) (b := ↑k) (by kernel_rfl) (by kernel_rfl) (by simp) (bin_add IntKind.i64 (by simp only [min_i64]; omega) (by simp only [max_i64]; omega))) ?_
        refine Wo.val (.ptr ⟨(a : AA).b, (a : AA).g, (a : AA).o + ((at_) + (k)) * 1⟩) h (by kernel_rfl) (iop_iaN (a := a) (n := l.length) (c := q) (ie := (↑at_ + ↑k : Int)) (i := ((at_) + (k))) (by kernel_rfl) (by kernel_rfl) (by omega) (by first | omega | (simp; omega))) ?_
        refine Wo.val (.int .u8 c.toNat) _ (by kernel_rfl) (iop_ldB (i := at_ + k) hb (by kernel_rfl) hc) ?_
        refine Wo.cmp (op := .leq) (x := IX.t 56) (y := IX.c (AV.int IntKind.u8 57)) (k := IntKind.u8) (a := ↑c.toNat) (b := 57) ((↑c.toNat : Int) ≤ (57 : Int)) (by kernel_rfl) (by kernel_rfl) (by kernel_rfl) (by kernel_rfl) (by simp) (by kernel_rfl) (fun q6 => ?_) (fun q6 => ?_)
        rotate_left
        · (exfalso; omega)
        refine Wo.pre 1 (by kernel_rfl) ?_
        refine Wo.nil ?_
        refine Wp.cond true (by kernel_rfl) ?_
        refine Wp.skip ?_
        refine Wp.block ?_
        refine Wp.region ?_
        refine Wo.pre 1 (by kernel_rfl) ?_
        refine Wo.val (.int IntKind.i64 ((↑k : Int) + (1 : Int))) h (by kernel_rfl) (iop_arith (op := .add) (a := ↑k) (b := 1) (by kernel_rfl) (by kernel_rfl) (by simp) (bin_add IntKind.i64 (by simp only [min_i64]; omega) (by simp only [max_i64]; omega))) ?_
        refine Wo.pre 1 (by kernel_rfl) ?_
        refine Wo.nil ?_
        exact ih (k + 1) (by omega) s' hs2 (by omega) _ (by kernel_rfl) (by kernel_rfl) (by kernel_rfl) (by kernel_rfl) (by kernel_rfl) (by kernel_rfl) (by kernel_rfl) Q hq
      · have hd2 : ¬ (48 ≤ c.toNat ∧ c.toNat ≤ 57) := fun q => hd (isDig_iff.2 q)
        have e0 : ((k + (Re.dgs (m + 1) (c :: s')).length : Nat) : Int) = (k : Int) := by rw [dgs_stop (Bool.eq_false_iff.2 hd)]; simp
        rw [e0] at hQ
        refine Wp.loop ?_
        rw [laid_eq t0 [(0, .sl a l.length q), (2, .ptr ⟨p2, 0, 0⟩), (5, .int .i64 st), (6, .int .i64 at_), (8, .fn (.func 18) [] []), (9, .int .i64 k)] (by simp [g0, g2, g5, g6, g8, g9])]
        have m1 := hb.bq
        have k2 := hb.parts
        refine Wp.seq ?_
        refine Wp.seq ?_
        refine Wp.region ?_
        refine Wo.pre 2 (by kernel_rfl) ?_
        refine Wo.val (.int IntKind.i64 ((↑at_ : Int) + (↑k : Int))) h (by kernel_rfl) (iop_arith (op := .add) (a := ↑at_) (b := ↑k) (by kernel_rfl) (by kernel_rfl) (by simp) (bin_add IntKind.i64 (by simp only [min_i64]; omega) (by simp only [max_i64]; omega))) ?_
        refine Wo.pre 2 (by kernel_rfl) ?_
        refine Wo.cmp (op := .lss) (x := IX.t 33) (y := IX.t 35) (k := IntKind.i64) (a := ↑at_ + ↑k) (b := ↑l.length) ((↑at_ + ↑k : Int) < (↑l.length : Int)) (by kernel_rfl) (by kernel_rfl) (by kernel_rfl) (by kernel_rfl) (by simp) (by kernel_rfl) (fun q3 => ?_) (fun q3 => ?_)
        rotate_left
        · (exfalso; omega)
        refine Wo.pre 2 (by kernel_rfl) ?_
        refine Wo.cmp (op := .lss) (x := IX.t 38) (y := IX.c (AV.int IntKind.i64 8)) (k := IntKind.i64) (a := ↑k) (b := 8) ((↑k : Int) < (8 : Int)) (by kernel_rfl) (by kernel_rfl) (by kernel_rfl) (by kernel_rfl) (by simp) (by kernel_rfl) (fun q4 => ?_) (fun q4 => ?_)
        rotate_left
        · (exfalso; omega)
        refine Wo.pre 5 (by kernel_rfl) ?_
        refine Wo.val (.int IntKind.i64 ((↑at_ : Int) + (↑k : Int))) h (by kernel_rfl) (iop_arith (op := .add) (a := ↑at_) (b := ↑k) (by kernel_rfl) (by kernel_rfl) (by simp) (bin_add IntKind.i64 (by simp only [min_i64]; omega) (by simp only [max_i64]; omega))) ?_
        refine Wo.val (.ptr ⟨(a : AA).b, (a : AA).g, (a : AA).o + ((at_) + (k)) * 1⟩) h (by kernel_rfl) (iop_iaN (a := a) (n := l.length) (c := q) (ie := (↑at_ + ↑k : Int)) (i := ((at_) + (k))) (by kernel_rfl) (by kernel_rfl) (by omega) (by first | omega | (simp; omega))) ?_
        refine Wo.val (.int .u8 c.toNat) _ (by kernel_rfl) (iop_ldB (i := at_ + k) hb (by kernel_rfl) hc) ?_
        refine Wo.cmp (op := .geq) (x := IX.t 47) (y := IX.c (AV.int IntKind.u8 48)) (k := IntKind.u8) (a := ↑c.toNat) (b := 48) ((↑c.toNat : Int) ≥ (48 : Int)) (by kernel_rfl) (by kernel_rfl) (by kernel_rfl) (by kernel_rfl) (by simp) (by kernel_rfl) (fun q5 => ?_) (fun q5 => ?_)
        · skip
          refine Wo.pre 5 (by kernel_rfl) ?_
          refine Wo.val (.int IntKind.i64 ((↑at_ : Int) + (↑k : Int))) h (by kernel_rfl) (iop_arith (op := .add) (a := ↑at_) (b := ↑k) (by kernel_rfl) (by kernel_rfl) (by simp) (bin_add IntKind.i64 (by simp only [min_i64]; omega) (by simp only [max_i64]; omega))) ?_
          refine Wo.val (.ptr ⟨(a : AA).b, (a : AA).g, (a : AA).o + ((at_) + (k)) * 1⟩) h (by kernel_rfl) (iop_iaN (a := a) (n := l.length) (c := q) (ie := (↑at_ + ↑k : Int)) (i := ((at_) + (k))) (by kernel_rfl) (by kernel_rfl) (by omega) (by first | omega | (simp; omega))) ?_
          refine Wo.val (.int .u8 c.toNat) _ (by kernel_rfl) (iop_ldB (i := at_ + k) hb (by kernel_rfl) hc) ?_
          refine Wo.cmp (op := .leq) (x := IX.t 56) (y := IX.c (AV.int IntKind.u8 57)) (k := IntKind.u8) (a := ↑c.toNat) (b := 57) ((↑c.toNat : Int) ≤ (57 : Int)) (by kernel_rfl) (by kernel_rfl) (by kernel_rfl) (by kernel_rfl) (by simp) (by kernel_rfl) (fun q6 => ?_) (fun q6 => ?_)
          · (exfalso; omega)
          refine Wo.pre 1 (by kernel_rfl) ?_
          refine Wo.nil ?_
          refine Wp.cond false (by kernel_rfl) ?_
          refine Wp.exit ?_
          exact hQ _ (by kernel_rfl) (by kernel_rfl) (by kernel_rfl) (by kernel_rfl) (by kernel_rfl) (by kernel_rfl) (by kernel_rfl)
        · skip
          refine Wo.pre 5 (by kernel_rfl) ?_
          refine Wo.pre 1 (by kernel_rfl) ?_
          refine Wo.pre 1 (by kernel_rfl) ?_
          refine Wo.pre 1 (by kernel_rfl) ?_
          refine Wo.pre 1 (by kernel_rfl) ?_
          refine Wo.pre 1 (by kernel_rfl) ?_
          refine Wo.nil ?_
          refine Wp.cond false (by kernel_rfl) ?_
          refine Wp.exit ?_
          exact hQ _ (by kernel_rfl) (by kernel_rfl) (by kernel_rfl) (by kernel_rfl) (by kernel_rfl) (by kernel_rfl) (by kernel_rfl)
end Go.Det
