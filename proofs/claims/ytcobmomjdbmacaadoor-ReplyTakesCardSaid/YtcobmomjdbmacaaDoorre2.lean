/- Reply: words, the same, bytes' beginnings, the closure; the document's numerals: the walks. -/
import Derived.Test.YtcobmomjdbmacaaDoorre1
set_option linter.unusedVariables false
set_option linter.unusedSimpArgs false
set_option linter.unusedSectionVars false
namespace Go.Det
open Go.Proofs
attribute [local irreducible] Wp Wo Wd iop ev slots quiets wanted put

theorem bpre_run {h : H} {x y : AV} {s p : List UInt8} (hx : Bs h x s) (cx : Cok x) (hy : Bs h y p) : Runs TF 21 [x, y] h (.bool (p.isPrefixOf s)) h := by
  obtain ⟨r, h', h1, h2, h3⟩ : ∃ r h', Runs TF 21 [x, y] h r h' ∧ r = .bool (p.isPrefixOf s) ∧ h' = h := by
    refine Runs.ofP f21 rfl ?_
    by_cases hl : p.length ≤ s.length
    · have he := take_beq hl
      have he2 : ((s.take p.length).drop 0 == p) = p.isPrefixOf s := he
      obtain ⟨b, hb⟩ : ∃ b, b = p.isPrefixOf s := ⟨_, rfl⟩
      rw [← hb] at he he2 ⊢
      have m1 := hx.bq
      have k2 := hx.parts
      have m3 := hy.bq
      have k4 := hy.parts
      refine Wp.seq ?_
      refine Wp.region ?_
      refine Wo.pre 1 (by kernel_rfl) ?_
      refine Wo.nil ?_
      refine Wp.seq ?_
      refine Wp.region ?_
      refine Wo.pre 1 (by kernel_rfl) ?_
      refine Wo.val (.int .i64 (List.length (s) : Nat)) h (by kernel_rfl) (Bs.len hx (by kernel_rfl)) ?_
      refine Wo.pre 1 (by kernel_rfl) ?_
      refine Wo.val (.int .i64 (List.length (p) : Nat)) h (by kernel_rfl) (Bs.len hy (by kernel_rfl)) ?_
      refine Wo.cmp (op := .geq) (x := IX.t 6) (y := IX.t 8) (k := IntKind.i64) (a := ↑s.length) (b := ↑p.length) ((↑s.length : Int) ≥ (↑p.length : Int)) (by kernel_rfl) (by kernel_rfl) (by kernel_rfl) (by kernel_rfl) (by simp) (by kernel_rfl) (fun q5 => ?_) (fun q5 => ?_)
      rotate_left
      · (exfalso; omega)
      refine Wo.pre 3 (by kernel_rfl) ?_
      refine Wo.val (.int .i64 (List.length (p) : Nat)) h (by kernel_rfl) (Bs.len hy (by kernel_rfl)) ?_
      obtain ⟨z6, e6, b6, o6⟩ := hx.upN cx (ej := (↑p.length : Int)) (p.length) rfl (by first | omega | simp; omega)
      refine Wo.val z6 h (by kernel_rfl) (e6 (by kernel_rfl) (by kernel_rfl)) ?_
      clear e6
      have m7 := b6.bq
      have k8 := b6.parts
      refine Wo.pre 1 (by kernel_rfl) ?_
      have c9 := equal_run b6 hy
      refine Wo.call (by kernel_rfl) (by kernel_rfl) c9 ?_
      clear c9
      refine Wo.boolS (fun q10 => ?_) (fun q10 => ?_)
      · skip
        refine Wo.pre 2 (by kernel_rfl) ?_
        refine Wo.nil ?_
        refine Wp.ret ?_
        refine ⟨.inr rfl, (AV.bool true), (ret_one (res_tmp (by kernel_rfl) res_nil)), ?_⟩
        dsimp only
        exact ⟨congrArg AV.bool (he.symm.trans (by with_reducible assumption)).symm, rfl⟩
      · skip
        refine Wo.pre 2 (by kernel_rfl) ?_
        refine Wo.nil ?_
        refine Wp.ret ?_
        refine ⟨.inr rfl, (AV.bool false), (ret_one (res_tmp (by kernel_rfl) res_nil)), ?_⟩
        dsimp only
        exact ⟨congrArg AV.bool (he.symm.trans (by with_reducible assumption)).symm, rfl⟩
    · rw [pre_long hl]
      have m1 := hx.bq
      have k2 := hx.parts
      have m3 := hy.bq
      have k4 := hy.parts
      refine Wp.seq ?_
      refine Wp.region ?_
      refine Wo.pre 1 (by kernel_rfl) ?_
      refine Wo.nil ?_
      refine Wp.seq ?_
      refine Wp.region ?_
      refine Wo.pre 1 (by kernel_rfl) ?_
      refine Wo.val (.int .i64 (List.length (s) : Nat)) h (by kernel_rfl) (Bs.len hx (by kernel_rfl)) ?_
      refine Wo.pre 1 (by kernel_rfl) ?_
      refine Wo.val (.int .i64 (List.length (p) : Nat)) h (by kernel_rfl) (Bs.len hy (by kernel_rfl)) ?_
      refine Wo.cmp (op := .geq) (x := IX.t 6) (y := IX.t 8) (k := IntKind.i64) (a := ↑s.length) (b := ↑p.length) ((↑s.length : Int) ≥ (↑p.length : Int)) (by kernel_rfl) (by kernel_rfl) (by kernel_rfl) (by kernel_rfl) (by simp) (by kernel_rfl) (fun q5 => ?_) (fun q5 => ?_)
      · (exfalso; omega)
      refine Wo.pre 6 (by kernel_rfl) ?_
      refine Wo.pre 1 (by kernel_rfl) ?_
      refine Wo.pre 2 (by kernel_rfl) ?_
      refine Wo.nil ?_
      refine Wp.ret ?_
      refine ⟨.inr rfl, (AV.bool false), (ret_one (res_tmp (by kernel_rfl) res_nil)), ?_⟩
      dsimp only
      exact ⟨rfl, rfl⟩
  subst h2; subst h3
  exact h1


theorem words_cases (n : Int) : (n = 200 ∨ n = 400 ∨ n = 404 ∨ n = 405 ∨ n = 500 ∨ n = 503) ∨ (n ≠ 200 ∧ n ≠ 400 ∧ n ≠ 404 ∧ n ≠ 405 ∧ n ≠ 500 ∧ n ≠ 503) := by omega
theorem words_none {n : Int} (h : n ≠ 200 ∧ n ≠ 400 ∧ n ≠ 404 ∧ n ≠ 405 ∧ n ≠ 500 ∧ n ≠ 503) : Re.words n = [] := by
  unfold Re.words
  rw [if_neg h.1, if_neg h.2.1, if_neg h.2.2.1, if_neg h.2.2.2.1, if_neg h.2.2.2.2.1, if_neg h.2.2.2.2.2]
theorem words_some {n : Int} (h : n = 200 ∨ n = 400 ∨ n = 404 ∨ n = 405 ∨ n = 500 ∨ n = 503) : Re.words n ≠ [] ∧ (Re.words n).length ≤ 30 := by
  rcases h with rfl | rfl | rfl | rfl | rfl | rfl <;> exact ⟨by decide, by decide⟩
theorem words_len (n : Int) : (Re.words n).length ≤ 30 := by
  rcases words_cases n with h | h
  · exact (words_some h).2
  · rw [words_none h]; simp

set_option maxHeartbeats 4000000 in
/-- The document's words. -/
theorem wordsR_run (h : H) (n : Int) : Runs TF 15 [.int .i64 n] h (.str (Re.words n)) h := by
  obtain ⟨r, h', h1, h2, h3⟩ : ∃ r h', Runs TF 15 [.int .i64 n] h r h' ∧ r = .str (Re.words n) ∧ h' = h := by
    rcases words_cases n with hc | hc
    · rcases hc with rfl | rfl | rfl | rfl | rfl | rfl
      all_goals exact ⟨_, _, Runs.ofK (n := 3) (by kernel_rfl), rfl, rfl⟩
    · refine Runs.ofP f15 rfl ?_
      rw [words_none hc]
      refine Wp.seq ?_
      refine Wp.region ?_
      refine Wo.pre 1 (by kernel_rfl) ?_
      refine Wo.nil ?_
      refine Wp.seq ?_
      refine Wp.seq ?_
      refine Wp.region ?_
      refine Wo.pre 1 (by kernel_rfl) ?_
      refine Wo.nil ?_
      refine Wp.block ?_
      refine Wp.seq ?_
      refine Wp.region ?_
      refine Wo.cmp (op := .eql) (x := IX.t 3) (y := IX.c (AV.int IntKind.i64 200)) (k := IntKind.i64) (a := n) (b := 200) ((n : Int) = (200 : Int)) (by kernel_rfl) (by kernel_rfl) (by kernel_rfl) (by kernel_rfl) (by simp) (by kernel_rfl) (fun q1 => ?_) (fun q1 => ?_)
      · (exfalso; omega)
      refine Wo.pre 1 (by kernel_rfl) ?_
      refine Wo.nil ?_
      refine Wp.cond false (by kernel_rfl) ?_
      refine Wp.seq ?_
      refine Wp.region ?_
      refine Wo.cmp (op := .eql) (x := IX.t 3) (y := IX.c (AV.int IntKind.i64 400)) (k := IntKind.i64) (a := n) (b := 400) ((n : Int) = (400 : Int)) (by kernel_rfl) (by kernel_rfl) (by kernel_rfl) (by kernel_rfl) (by simp) (by kernel_rfl) (fun q2 => ?_) (fun q2 => ?_)
      · (exfalso; omega)
      refine Wo.pre 1 (by kernel_rfl) ?_
      refine Wo.nil ?_
      refine Wp.cond false (by kernel_rfl) ?_
      refine Wp.seq ?_
      refine Wp.region ?_
      refine Wo.cmp (op := .eql) (x := IX.t 3) (y := IX.c (AV.int IntKind.i64 404)) (k := IntKind.i64) (a := n) (b := 404) ((n : Int) = (404 : Int)) (by kernel_rfl) (by kernel_rfl) (by kernel_rfl) (by kernel_rfl) (by simp) (by kernel_rfl) (fun q3 => ?_) (fun q3 => ?_)
      · (exfalso; omega)
      refine Wo.pre 1 (by kernel_rfl) ?_
      refine Wo.nil ?_
      refine Wp.cond false (by kernel_rfl) ?_
      refine Wp.seq ?_
      refine Wp.region ?_
      refine Wo.cmp (op := .eql) (x := IX.t 3) (y := IX.c (AV.int IntKind.i64 405)) (k := IntKind.i64) (a := n) (b := 405) ((n : Int) = (405 : Int)) (by kernel_rfl) (by kernel_rfl) (by kernel_rfl) (by kernel_rfl) (by simp) (by kernel_rfl) (fun q4 => ?_) (fun q4 => ?_)
      · (exfalso; omega)
      refine Wo.pre 1 (by kernel_rfl) ?_
      refine Wo.nil ?_
      refine Wp.cond false (by kernel_rfl) ?_
      refine Wp.seq ?_
      refine Wp.region ?_
      refine Wo.cmp (op := .eql) (x := IX.t 3) (y := IX.c (AV.int IntKind.i64 500)) (k := IntKind.i64) (a := n) (b := 500) ((n : Int) = (500 : Int)) (by kernel_rfl) (by kernel_rfl) (by kernel_rfl) (by kernel_rfl) (by simp) (by kernel_rfl) (fun q5 => ?_) (fun q5 => ?_)
      · (exfalso; omega)
      refine Wo.pre 1 (by kernel_rfl) ?_
      refine Wo.nil ?_
      refine Wp.cond false (by kernel_rfl) ?_
      refine Wp.seq ?_
      refine Wp.region ?_
      refine Wo.cmp (op := .eql) (x := IX.t 3) (y := IX.c (AV.int IntKind.i64 503)) (k := IntKind.i64) (a := n) (b := 503) ((n : Int) = (503 : Int)) (by kernel_rfl) (by kernel_rfl) (by kernel_rfl) (by kernel_rfl) (by simp) (by kernel_rfl) (fun q6 => ?_) (fun q6 => ?_)
      · (exfalso; omega)
      refine Wo.pre 1 (by kernel_rfl) ?_
      refine Wo.nil ?_
      refine Wp.cond false (by kernel_rfl) ?_
      refine Wp.skip ?_
      refine Wp.seq ?_
      refine Wp.region ?_
      refine Wo.pre 1 (by kernel_rfl) ?_
      refine Wo.nil ?_
      refine Wp.ret ?_
      refine ⟨.inr rfl, (AV.str []), (ret_one (res_tmp (by kernel_rfl) res_nil)), ?_⟩
      dsimp only
      exact ⟨rfl, rfl⟩
  subst h2; subst h3
  exact h1
end Go.Det
