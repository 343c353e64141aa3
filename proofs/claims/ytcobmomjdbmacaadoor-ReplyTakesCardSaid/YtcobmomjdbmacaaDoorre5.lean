/- Reply: heads, a reply's bytes: the walks. -/
import Derived.Test.YtcobmomjdbmacaaDoorre4
set_option linter.unusedVariables false
set_option linter.unusedSimpArgs false
set_option linter.unusedSectionVars false
namespace Go.Det
open Go.Proofs
attribute [local irreducible] Wp Wo Wd iop ev slots quiets wanted put

/-- The document's heads. -/
theorem headR_eq (st n : Nat) : Re.head st n false = (((((Re.ver ++ Re.dec st) ++ [32]) ++ Re.words st) ++ Re.kind) ++ Re.dec n) ++ [13, 10] ++ [13, 10] ∧ Re.head st n true = (((((Re.ver ++ Re.dec st) ++ [32]) ++ Re.words st) ++ Re.kind) ++ Re.dec n) ++ [13, 10] ++ [67, 111, 110, 110, 101, 99, 116, 105, 111, 110, 58, 32, 99, 108, 111, 115, 101, 13, 10] ++ [13, 10] := by
  constructor
  · simp only [Re.head, Re.line, Re.ending, Re.staying, List.append_assoc]
    rfl
  · simp only [Re.head, Re.line, Re.ending, Re.closing, List.append_assoc]
    rfl
set_option maxHeartbeats 4000000 in
theorem head_run (h : H) {st n : Nat} (hst : st ≤ 1000) (hn : n < 9000000000000000000) (c : Bool) : ∃ r h', Runs TF 25 [.int .i64 ((st : Nat) : Int), .int .i64 ((n : Nat) : Int), .bool c] h r h' ∧ r = .str (Re.head st n c) ∧ Ext h h' := by
  refine Runs.ofP f25 rfl ?_
  have d1 := dec_len20 st
  have d2 := dec_len20 n
  have d3 := words_len (st : Int)
  have hv : Re.ver.length = 9 := rfl
  have hk : Re.kind.length = 50 := rfl
  obtain ⟨e1, e2⟩ := headR_eq st n
  obtain ⟨a1, ha1⟩ : ∃ a, a = Re.ver ++ Re.dec st := ⟨_, rfl⟩
  have l1 : a1.length ≤ 29 := by rw [ha1, List.length_append]; omega
  rw [← ha1] at e1 e2
  obtain ⟨a2, ha2⟩ : ∃ a, a = a1 ++ [32] := ⟨_, rfl⟩
  have l2 : a2.length ≤ 30 := by rw [ha2, List.length_append]; simp; omega
  rw [← ha2] at e1 e2
  obtain ⟨a3, ha3⟩ : ∃ a, a = a2 ++ Re.words st := ⟨_, rfl⟩
  have l3 : a3.length ≤ 60 := by rw [ha3, List.length_append]; omega
  rw [← ha3] at e1 e2
  obtain ⟨a4, ha4⟩ : ∃ a, a = a3 ++ Re.kind := ⟨_, rfl⟩
  have l4 : a4.length ≤ 110 := by rw [ha4, List.length_append]; omega
  rw [← ha4] at e1 e2
  obtain ⟨a5, ha5⟩ : ∃ a, a = a4 ++ Re.dec n := ⟨_, rfl⟩
  have l5 : a5.length ≤ 130 := by rw [ha5, List.length_append]; omega
  rw [← ha5] at e1 e2
  obtain ⟨a6, ha6⟩ : ∃ a, a = a5 ++ [13, 10] := ⟨_, rfl⟩
  have l6 : a6.length ≤ 132 := by rw [ha6, List.length_append]; simp; omega
  rw [← ha6] at e1 e2
  obtain ⟨a7, ha7⟩ : ∃ a, a = a6 ++ [67, 111, 110, 110, 101, 99, 116, 105, 111, 110, 58, 32, 99, 108, 111, 115, 101, 13, 10] := ⟨_, rfl⟩
  have l7 : a7.length ≤ 160 := by rw [ha7, List.length_append]; simp; omega
  rw [← ha7] at e2
  cases c
  · refine Wp.seq ?_
    refine Wp.region ?_
    refine Wo.pre 1 (by kernel_rfl) ?_
    refine Wo.nil ?_
    refine Wp.seq ?_
    refine Wp.region ?_
    refine Wo.pre 1 (by kernel_rfl) ?_
    obtain ⟨r1, H2, c3, rfl, X5⟩ := decimal_run (n := st) (h) (by first | omega | (simp; omega) | (simp; done) | assumption)
    have m6 := X5.1
    refine Wo.call (by kernel_rfl) (by kernel_rfl) c3 ?_
    clear c3
    refine Wo.val (.str a1) _ (by kernel_rfl) (by rw [ha1]; exact iop_addS (a := Re.ver) (b := Re.dec st) (by kernel_rfl) (by kernel_rfl) (by omega)) ?_
    refine Wo.val (.str a2) _ (by kernel_rfl) (by rw [ha2]; exact iop_addS (a := a1) (b := [32]) (by kernel_rfl) (by kernel_rfl) (by simp; omega)) ?_
    refine Wo.pre 1 (by kernel_rfl) ?_
    have c7 := wordsR_run (H2) (↑st)
    refine Wo.call (by kernel_rfl) (by kernel_rfl) c7 ?_
    clear c7
    refine Wo.val (.str a3) _ (by kernel_rfl) (by rw [ha3]; exact iop_addS (a := a2) (b := Re.words st) (by kernel_rfl) (by kernel_rfl) (by omega)) ?_
    refine Wo.val (.str a4) _ (by kernel_rfl) (by rw [ha4]; exact iop_addS (a := a3) (b := Re.kind) (by kernel_rfl) (by kernel_rfl) (by omega)) ?_
    refine Wo.pre 1 (by kernel_rfl) ?_
    obtain ⟨r8, H9, c10, rfl, X12⟩ := decimal_run (n := n) (H2) hn
    have m13 := X12.1
    refine Wo.call (by kernel_rfl) (by kernel_rfl) c10 ?_
    clear c10
    refine Wo.val (.str a5) _ (by kernel_rfl) (by rw [ha5]; exact iop_addS (a := a4) (b := Re.dec n) (by kernel_rfl) (by kernel_rfl) (by omega)) ?_
    refine Wo.val (.str a6) _ (by kernel_rfl) (by rw [ha6]; exact iop_addS (a := a5) (b := [13, 10]) (by kernel_rfl) (by kernel_rfl) (by simp; omega)) ?_
    refine Wo.pre 1 (by kernel_rfl) ?_
    refine Wo.nil ?_
    refine Wp.seq ?_
    refine Wp.seq ?_
    refine Wp.region ?_
    refine Wo.pre 1 (by kernel_rfl) ?_
    refine Wo.nil ?_
    refine Wp.cond false (by kernel_rfl) ?_
    refine Wp.skip ?_
    refine Wp.seq ?_
    refine Wp.region ?_
    refine Wo.pre 1 (by kernel_rfl) ?_
    refine Wo.val (.str (a6 ++ [13, 10])) _ (by kernel_rfl) (iop_addS (a := a6) (b := [13, 10]) (by kernel_rfl) (by kernel_rfl) (by simp; omega)) ?_
    refine Wo.pre 1 (by kernel_rfl) ?_
    refine Wo.nil ?_
    refine Wp.ret ?_
    refine ⟨.inr rfl, (AV.str (a6 ++ [13, 10])), (ret_one (res_tmp (by kernel_rfl) res_nil)), ?_⟩
    dsimp only
    exact ⟨by rw [e1], ((X5.fr.trans0 X12.fr).ext0)⟩
  · refine Wp.seq ?_
    refine Wp.region ?_
    refine Wo.pre 1 (by kernel_rfl) ?_
    refine Wo.nil ?_
    refine Wp.seq ?_
    refine Wp.region ?_
    refine Wo.pre 1 (by kernel_rfl) ?_
    obtain ⟨r1, H2, c3, rfl, X5⟩ := decimal_run (n := st) (h) (by first | omega | (simp; omega) | (simp; done) | assumption)
    have m6 := X5.1
    refine Wo.call (by kernel_rfl) (by kernel_rfl) c3 ?_
    clear c3
    refine Wo.val (.str a1) _ (by kernel_rfl) (by rw [ha1]; exact iop_addS (a := Re.ver) (b := Re.dec st) (by kernel_rfl) (by kernel_rfl) (by omega)) ?_
    refine Wo.val (.str a2) _ (by kernel_rfl) (by rw [ha2]; exact iop_addS (a := a1) (b := [32]) (by kernel_rfl) (by kernel_rfl) (by simp; omega)) ?_
    refine Wo.pre 1 (by kernel_rfl) ?_
    have c7 := wordsR_run (H2) (↑st)
    refine Wo.call (by kernel_rfl) (by kernel_rfl) c7 ?_
    clear c7
    refine Wo.val (.str a3) _ (by kernel_rfl) (by rw [ha3]; exact iop_addS (a := a2) (b := Re.words st) (by kernel_rfl) (by kernel_rfl) (by omega)) ?_
    refine Wo.val (.str a4) _ (by kernel_rfl) (by rw [ha4]; exact iop_addS (a := a3) (b := Re.kind) (by kernel_rfl) (by kernel_rfl) (by omega)) ?_
    refine Wo.pre 1 (by kernel_rfl) ?_
    obtain ⟨r8, H9, c10, rfl, X12⟩ := decimal_run (n := n) (H2) hn
    have m13 := X12.1
    refine Wo.call (by kernel_rfl) (by kernel_rfl) c10 ?_
    clear c10
    refine Wo.val (.str a5) _ (by kernel_rfl) (by rw [ha5]; exact iop_addS (a := a4) (b := Re.dec n) (by kernel_rfl) (by kernel_rfl) (by omega)) ?_
    refine Wo.val (.str a6) _ (by kernel_rfl) (by rw [ha6]; exact iop_addS (a := a5) (b := [13, 10]) (by kernel_rfl) (by kernel_rfl) (by simp; omega)) ?_
    refine Wo.pre 1 (by kernel_rfl) ?_
    refine Wo.nil ?_
    refine Wp.seq ?_
    refine Wp.seq ?_
    refine Wp.region ?_
    refine Wo.pre 1 (by kernel_rfl) ?_
    refine Wo.nil ?_
    refine Wp.cond true (by kernel_rfl) ?_
    refine Wp.region ?_
    refine Wo.pre 1 (by kernel_rfl) ?_
    refine Wo.val (.str a7) _ (by kernel_rfl) (by rw [ha7]; exact iop_addS (a := a6) (b := [67, 111, 110, 110, 101, 99, 116, 105, 111, 110, 58, 32, 99, 108, 111, 115, 101, 13, 10]) (by kernel_rfl) (by kernel_rfl) (by simp; omega)) ?_
    refine Wo.pre 1 (by kernel_rfl) ?_
    refine Wo.nil ?_
    refine Wp.seq ?_
    refine Wp.region ?_
    refine Wo.pre 1 (by kernel_rfl) ?_
    refine Wo.val (.str (a7 ++ [13, 10])) _ (by kernel_rfl) (iop_addS (a := a7) (b := [13, 10]) (by kernel_rfl) (by kernel_rfl) (by simp; omega)) ?_
    refine Wo.pre 1 (by kernel_rfl) ?_
    refine Wo.nil ?_
    refine Wp.ret ?_
    refine ⟨.inr rfl, (AV.str (a7 ++ [13, 10])), (ret_one (res_tmp (by kernel_rfl) res_nil)), ?_⟩
    dsimp only
    exact ⟨by rw [e2], ((X5.fr.trans0 X12.fr).ext0)⟩
theorem itoa500_run (h : H) : Runs TF 20 [.int .i64 500] h (.str (Re.dec 500)) h := itoa_run h (m := 500) (by omega)
theorem itoa0_run (h : H) : Runs TF 20 [.int .i64 0] h (.str (Re.dec 0)) h := itoa_run h (m := 0) (by omega)
theorem head500_run (h : H) (c : Bool) : ∃ r h', Runs TF 25 [.int .i64 500, .int .i64 0, .bool c] h r h' ∧ r = .str (Re.head 500 0 c) ∧ Ext h h' := head_run h (st := 500) (n := 0) (by omega) (by omega) c
end Go.Det
