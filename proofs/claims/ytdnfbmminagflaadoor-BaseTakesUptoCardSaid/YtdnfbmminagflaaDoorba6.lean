/- Base: texts read: the loop. -/
import Derived.Test.YtdnfbmminagflaaDoorba5
set_option linter.unusedVariables false
set_option linter.unusedSimpArgs false
set_option linter.unusedSectionVars false
namespace Go.Det
open Go.Proofs
attribute [local irreducible] Wp Wo Wd iop ev slots quiets wanted put

set_option maxHeartbeats 8000000 in
theorem take_loop {hb : H} {lo bn bm bo : Nat} {bare s : List UInt8} (b1 : hb.n ≤ bn) (b2 : hb.n ≤ bm) (b3 : hb.n ≤ bo) (hd1 : bn ≠ bm) (hd2 : bn ≠ bo) (hd3 : bm ≠ bo) (hbn : bn < lo) (hbm : bm < lo) (hbo : bo < lo) (hlen : bare.length ≤ 199000000000000) :
    ∀ (l : List UInt8) (i : Nat), bare.drop i = l → ∀ (g : Got) (h : H), Vars hb lo bn bm bo g h → g.many ≤ i → ∀ (ts : List AV), ts.length = 51 → getL ts 0 = some (.str s) → getL ts 4 = some (.ptr ⟨bo, 0, 0⟩) → getL ts 5 = some (.ptr ⟨bn, 0, 0⟩) → getL ts 6 = some (.ptr ⟨bm, 0, 0⟩) → getL ts 7 = some (.fn (.func 32) [] [.ptr ⟨bn, 0, 0⟩, .ptr ⟨bm, 0, 0⟩, .ptr ⟨bo, 0, 0⟩]) → getL ts 8 = some (.str bare) → getL ts 14 = some (.int .i64 bare.length) → getL ts 15 = some (.int .i64 i) →
      ∀ (Q : Ex → St → Prop), (∀ ts' h' g', g.all l = some g' → Vars hb lo bn bm bo g' h' → ts'.length = 51 → getL ts' 0 = some (.str s) → getL ts' 4 = some (.ptr ⟨bo, 0, 0⟩) → getL ts' 5 = some (.ptr ⟨bn, 0, 0⟩) → getL ts' 6 = some (.ptr ⟨bm, 0, 0⟩) → Q (.exit 0) (ts', h')) → (∀ ts' h', g.all l = none → getL ts' 2 = some .nils → getL ts' 3 = some (.int .i64 5) → Q .ret (ts', h')) → Wp TF (.loop l13_1) (ts, h) Q := by
  intro l
  induction l with
  | nil =>
    intro i hi g h V hm ts t0 g0 g4 g5 g6 g7 g8 g14 g15 Q hQ hQ'
    have hle : bare.length ≤ i := by
      have := congrArg List.length hi
      rw [List.length_drop] at this
      simp at this
      omega
    refine Wp.loop ?_
    rw [laid_eq t0 [(0, .str s), (4, .ptr ⟨bo, 0, 0⟩), (5, .ptr ⟨bn, 0, 0⟩), (6, .ptr ⟨bm, 0, 0⟩), (7, .fn (.func 32) [] [.ptr ⟨bn, 0, 0⟩, .ptr ⟨bm, 0, 0⟩, .ptr ⟨bo, 0, 0⟩]), (8, .str bare), (14, .int .i64 bare.length), (15, .int .i64 i)] (by simp [g0, g4, g5, g6, g7, g8, g14, g15])]
    refine Wp.seq ?_
    refine Wp.region ?_
    refine Wo.cmp (op := .lss) (x := IX.t 15) (y := IX.t 14) (k := IntKind.i64) (a := ↑i) (b := ↑bare.length) ((↑i : Int) < (↑bare.length : Int)) (by kernel_rfl) (by kernel_rfl) (by kernel_rfl) (by kernel_rfl) (by simp) (by kernel_rfl) (fun q1 => ?_) (fun q1 => ?_)
    · (exfalso; omega)
    refine Wo.nil ?_
    refine Wp.seq ?_
    refine Wp.cond false (by kernel_rfl) ?_
    refine Wp.exit ?_
    exact hQ _ _ g rfl V (by kernel_rfl) (by kernel_rfl) (by kernel_rfl) (by kernel_rfl) (by kernel_rfl)
  | cons c l ih =>
    intro i hi g h V hm ts t0 g0 g4 g5 g6 g7 g8 g14 g15 Q hQ hQ'
    have hlt : i < bare.length := by
      have := congrArg List.length hi
      rw [List.length_drop] at this
      simp at this
      omega
    have hc : bare[i]? = some c := by
      have e := congrArg (fun z => z[0]?) hi
      simp only [List.getElem?_drop, Nat.add_zero, List.getElem?_cons_zero] at e
      exact e
    have hi2 : bare.drop (i + 1) = l := by
      rw [← List.drop_drop, hi]
      rfl
    obtain ⟨h2, hr, hv⟩ := next_call (c := c) V b1 b2 b3 hd1 hd2 hd3 hbn hbm hbo (by omega)
    refine Wp.loop ?_
    rw [laid_eq t0 [(0, .str s), (4, .ptr ⟨bo, 0, 0⟩), (5, .ptr ⟨bn, 0, 0⟩), (6, .ptr ⟨bm, 0, 0⟩), (7, .fn (.func 32) [] [.ptr ⟨bn, 0, 0⟩, .ptr ⟨bm, 0, 0⟩, .ptr ⟨bo, 0, 0⟩]), (8, .str bare), (14, .int .i64 bare.length), (15, .int .i64 i)] (by simp [g0, g4, g5, g6, g7, g8, g14, g15])]
    cases hs : g.step c with
    | none =>
      have ha : g.all (c :: l) = none := by simp only [Got.all, hs]
      rw [hs] at hr
      have hr : Runs TF 32 [.int .u8 c.toNat, .ptr ⟨bn, 0, 0⟩, .ptr ⟨bm, 0, 0⟩, .ptr ⟨bo, 0, 0⟩] h (.bool false) h2 := hr
      refine Wp.seq ?_
      refine Wp.region ?_
      refine Wo.cmp (op := .lss) (x := IX.t 15) (y := IX.t 14) (k := IntKind.i64) (a := ↑i) (b := ↑bare.length) ((↑i : Int) < (↑bare.length : Int)) (by kernel_rfl) (by kernel_rfl) (by kernel_rfl) (by kernel_rfl) (by simp) (by kernel_rfl) (fun q1 => ?_) (fun q1 => ?_)
      rotate_left
      · (exfalso; omega)
      refine Wo.nil ?_
      refine Wp.seq ?_
      refine Wp.cond true (by kernel_rfl) ?_
      refine Wp.skip ?_
      refine Wp.seq ?_
      refine Wp.block ?_
      refine Wp.seq ?_
      refine Wp.region ?_
      refine Wo.pre 2 (by kernel_rfl) ?_
      refine Wo.nil ?_
      refine Wp.seq ?_
      refine Wp.region ?_
      refine Wo.pre 3 (by kernel_rfl) ?_
      refine Wo.val (.int .u8 c.toNat) h (by kernel_rfl) (iop_ixS (s := bare) (i := i) (by kernel_rfl) (by kernel_rfl) hc) ?_
      refine Wo.call (by kernel_rfl) (by kernel_rfl) hr ?_
      clear hr
      refine Wo.pre 1 (by kernel_rfl) ?_
      refine Wo.nil ?_
      refine Wp.cond true (by kernel_rfl) ?_
      refine Wp.seq ?_
      refine Wp.region ?_
      refine Wo.pre 2 (by kernel_rfl) ?_
      refine Wo.nil ?_
      refine Wp.ret ?_
      exact hQ' _ _ ha (by kernel_rfl) (by kernel_rfl)
    | some g' =>
      have ha := Got.go (l := l) hs
      have V' := hv g' hs
      have hm' : g'.many ≤ i + 1 := by
        unfold Got.step at hs
        split at hs
        · cases hs
        · split at hs
          · cases hs; exact Nat.succ_le_succ hm
          · cases hs; exact Nat.succ_le_succ hm
      rw [hs] at hr
      have hr : Runs TF 32 [.int .u8 c.toNat, .ptr ⟨bn, 0, 0⟩, .ptr ⟨bm, 0, 0⟩, .ptr ⟨bo, 0, 0⟩] h (.bool true) h2 := hr
      refine Wp.seq ?_
      refine Wp.region ?_
      refine Wo.cmp (op := .lss) (x := IX.t 15) (y := IX.t 14) (k := IntKind.i64) (a := ↑i) (b := ↑bare.length) ((↑i : Int) < (↑bare.length : Int)) (by kernel_rfl) (by kernel_rfl) (by kernel_rfl) (by kernel_rfl) (by simp) (by kernel_rfl) (fun q1 => ?_) (fun q1 => ?_)
      rotate_left
      · (exfalso; omega)
      refine Wo.nil ?_
      refine Wp.seq ?_
      refine Wp.cond true (by kernel_rfl) ?_
      refine Wp.skip ?_
      refine Wp.seq ?_
      refine Wp.block ?_
      refine Wp.seq ?_
      refine Wp.region ?_
      refine Wo.pre 2 (by kernel_rfl) ?_
      refine Wo.nil ?_
      refine Wp.seq ?_
      refine Wp.region ?_
      refine Wo.pre 3 (by kernel_rfl) ?_
      refine Wo.val (.int .u8 c.toNat) h (by kernel_rfl) (iop_ixS (s := bare) (i := i) (by kernel_rfl) (by kernel_rfl) hc) ?_
      refine Wo.call (by kernel_rfl) (by kernel_rfl) hr ?_
      clear hr
      refine Wo.pre 1 (by kernel_rfl) ?_
      refine Wo.nil ?_
      refine Wp.cond false (by kernel_rfl) ?_
      refine Wp.skip ?_
      refine Wp.region ?_
      refine Wo.val (.int IntKind.i64 ((↑i : Int) + (1 : Int))) h2 (by kernel_rfl) (iop_arith (op := .add) (a := ↑i) (b := 1) (by kernel_rfl) (by kernel_rfl) (by simp) (bin_add IntKind.i64 (by simp only [min_i64]; omega) (by simp only [max_i64]; omega))) ?_
      refine Wo.pre 1 (by kernel_rfl) ?_
      refine Wo.nil ?_
      exact ih (i + 1) hi2 g' h2 V' hm' _ (by kernel_rfl) (by kernel_rfl) (by kernel_rfl) (by kernel_rfl) (by kernel_rfl) (by kernel_rfl) (by kernel_rfl) (by kernel_rfl) (by kernel_rfl) Q (fun ts' h' g2 q => hQ ts' h' g2 (ha.trans q)) (fun ts' h' q => hQ' ts' h' (ha.trans q))
end Go.Det
