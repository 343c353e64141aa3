/- Reply: beginnings, equal bytes, copies; statuses' words: the walks. -/
import Derived.Test.YtcobmomjdbmacaaDoorreOps
set_option linter.unusedVariables false
set_option linter.unusedSimpArgs false
set_option linter.unusedSectionVars false
namespace Go.Det
open Go.Proofs
attribute [local irreducible] Wp Wo Wd ev slots quiets wanted put

theorem iop_slS_hi {x y : IX} {ρ : IX → AV} {h : H} {s : List UInt8} {j : Nat} (hx : ρ x = .str s) (hy : ρ y = .int .i64 ((j : Nat) : Int)) (hj : j ≤ s.length) : iop (.slS x none (some y)) ρ h = some (.val (.str (s.take j)) h) := by
  simp [iop, hx, hy, bounds, asI, hj]
attribute [local irreducible] iop
theorem take_beq {s p : List UInt8} (h : p.length ≤ s.length) : (s.take p.length == p) = p.isPrefixOf s := by
  rw [Bool.eq_iff_iff, beq_iff_eq]
  constructor
  · intro e
    exact Re.pre_iff.2 ⟨s.drop p.length, by conv => rhs; rw [← e]; rw [List.length_take, Nat.min_eq_left h, List.take_append_drop]⟩
  · intro e
    obtain ⟨r, rfl⟩ := Re.pre_iff.1 e
    rw [List.take_left']
    rfl
theorem pre_long {s p : List UInt8} (h : ¬ p.length ≤ s.length) : p.isPrefixOf s = false := by
  cases hp : p.isPrefixOf s with
  | false => rfl
  | true =>
    obtain ⟨r, rfl⟩ := Re.pre_iff.1 hp
    exact absurd (by simp) h

theorem hasPre_run (h : H) (s p : List UInt8) : Runs TF 32 [.str s, .str p] h (.bool (p.isPrefixOf s)) h := by
  obtain ⟨r, h', h1, h2, h3⟩ : ∃ r h', Runs TF 32 [.str s, .str p] h r h' ∧ r = .bool (p.isPrefixOf s) ∧ h' = h := by
    refine Runs.ofP f32 rfl ?_
    by_cases hl : p.length ≤ s.length
    · have he := take_beq hl
      obtain ⟨b, hb⟩ : ∃ b, b = p.isPrefixOf s := ⟨_, rfl⟩
      rw [← hb] at he ⊢
      refine Wp.seq ?_
      refine Wp.region ?_
      refine Wo.pre 1 (by kernel_rfl) ?_
      refine Wo.nil ?_
      refine Wp.seq ?_
      refine Wp.region ?_
      refine Wo.pre 4 (by kernel_rfl) ?_
      refine Wo.cmp (op := .geq) (x := IX.t 6) (y := IX.t 8) (k := IntKind.i64) (a := ↑s.length) (b := ↑p.length) ((↑s.length : Int) ≥ (↑p.length : Int)) (by kernel_rfl) (by kernel_rfl) (by kernel_rfl) (by kernel_rfl) (by simp) (by kernel_rfl) (fun q1 => ?_) (fun q1 => ?_)
      rotate_left
      · (exfalso; omega)
      refine Wo.pre 4 (by kernel_rfl) ?_
      refine Wo.val (.str (s.take p.length)) _ (by kernel_rfl) (iop_slS_hi (s := s) (j := p.length) (by kernel_rfl) (by kernel_rfl) hl) ?_
      refine Wo.pre 1 (by kernel_rfl) ?_
      refine Wo.val (.bool b) _ (by kernel_rfl) (iop_eqS (a := s.take p.length) (b := p) b (by kernel_rfl) (by kernel_rfl) he) ?_
      refine Wo.pre 2 (by kernel_rfl) ?_
      refine Wo.nil ?_
      refine Wp.ret ?_
      refine ⟨.inr rfl, (AV.bool b), (ret_one (res_tmp (by kernel_rfl) res_nil)), ?_⟩
      dsimp only
      exact ⟨rfl, rfl⟩
    · rw [pre_long hl]
      refine Wp.seq ?_
      refine Wp.region ?_
      refine Wo.pre 1 (by kernel_rfl) ?_
      refine Wo.nil ?_
      refine Wp.seq ?_
      refine Wp.region ?_
      refine Wo.pre 4 (by kernel_rfl) ?_
      refine Wo.cmp (op := .geq) (x := IX.t 6) (y := IX.t 8) (k := IntKind.i64) (a := ↑s.length) (b := ↑p.length) ((↑s.length : Int) ≥ (↑p.length : Int)) (by kernel_rfl) (by kernel_rfl) (by kernel_rfl) (by kernel_rfl) (by simp) (by kernel_rfl) (fun q1 => ?_) (fun q1 => ?_)
      · (exfalso; omega)
      refine Wo.pre 6 (by kernel_rfl) ?_
      refine Wo.pre 1 (by kernel_rfl) ?_
      refine Wo.pre 2 (by kernel_rfl) ?_
      refine Wo.nil ?_
      refine Wp.ret ?_
      refine ⟨.inr rfl, (AV.bool false), (ret_one (res_tmp (by kernel_rfl) res_nil)), ?_⟩
      dsimp only
      exact ⟨rfl, rfl⟩
  subst h2; subst h3
  exact h1
theorem begs_run (h : H) (s p : List UInt8) : Runs TF 26 [.str s, .str p] h (.bool (p.isPrefixOf s)) h := by
  obtain ⟨r, h', h1, h2, h3⟩ : ∃ r h', Runs TF 26 [.str s, .str p] h r h' ∧ r = .bool (p.isPrefixOf s) ∧ h' = h := by
    refine Runs.ofP f26 rfl ?_
    by_cases hl : p.length ≤ s.length
    · have he := take_beq hl
      obtain ⟨b, hb⟩ : ∃ b, b = p.isPrefixOf s := ⟨_, rfl⟩
      rw [← hb] at he ⊢
      refine Wp.seq ?_
      refine Wp.region ?_
      refine Wo.pre 1 (by kernel_rfl) ?_
      refine Wo.nil ?_
      refine Wp.seq ?_
      refine Wp.region ?_
      refine Wo.pre 4 (by kernel_rfl) ?_
      refine Wo.cmp (op := .geq) (x := IX.t 6) (y := IX.t 8) (k := IntKind.i64) (a := ↑s.length) (b := ↑p.length) ((↑s.length : Int) ≥ (↑p.length : Int)) (by kernel_rfl) (by kernel_rfl) (by kernel_rfl) (by kernel_rfl) (by simp) (by kernel_rfl) (fun q1 => ?_) (fun q1 => ?_)
      rotate_left
      · (exfalso; omega)
      refine Wo.pre 4 (by kernel_rfl) ?_
      refine Wo.val (.str (s.take p.length)) _ (by kernel_rfl) (iop_slS_hi (s := s) (j := p.length) (by kernel_rfl) (by kernel_rfl) hl) ?_
      refine Wo.pre 1 (by kernel_rfl) ?_
      refine Wo.val (.bool b) _ (by kernel_rfl) (iop_eqS (a := s.take p.length) (b := p) b (by kernel_rfl) (by kernel_rfl) he) ?_
      refine Wo.pre 2 (by kernel_rfl) ?_
      refine Wo.nil ?_
      refine Wp.ret ?_
      refine ⟨.inr rfl, (AV.bool b), (ret_one (res_tmp (by kernel_rfl) res_nil)), ?_⟩
      dsimp only
      exact ⟨rfl, rfl⟩
    · rw [pre_long hl]
      refine Wp.seq ?_
      refine Wp.region ?_
      refine Wo.pre 1 (by kernel_rfl) ?_
      refine Wo.nil ?_
      refine Wp.seq ?_
      refine Wp.region ?_
      refine Wo.pre 4 (by kernel_rfl) ?_
      refine Wo.cmp (op := .geq) (x := IX.t 6) (y := IX.t 8) (k := IntKind.i64) (a := ↑s.length) (b := ↑p.length) ((↑s.length : Int) ≥ (↑p.length : Int)) (by kernel_rfl) (by kernel_rfl) (by kernel_rfl) (by kernel_rfl) (by simp) (by kernel_rfl) (fun q1 => ?_) (fun q1 => ?_)
      · (exfalso; omega)
      refine Wo.pre 6 (by kernel_rfl) ?_
      refine Wo.pre 1 (by kernel_rfl) ?_
      refine Wo.pre 2 (by kernel_rfl) ?_
      refine Wo.nil ?_
      refine Wp.ret ?_
      refine ⟨.inr rfl, (AV.bool false), (ret_one (res_tmp (by kernel_rfl) res_nil)), ?_⟩
      dsimp only
      exact ⟨rfl, rfl⟩
  subst h2; subst h3
  exact h1
theorem pre_run (h : H) (s p : List UInt8) : Runs TF 22 [.str s, .str p] h (.bool (p.isPrefixOf s)) h := by
  obtain ⟨r, h', h1, h2, h3⟩ : ∃ r h', Runs TF 22 [.str s, .str p] h r h' ∧ r = .bool (p.isPrefixOf s) ∧ h' = h := by
    refine Runs.ofP f22 rfl ?_
    have hc := hasPre_run h s p
    obtain ⟨b, hb⟩ : ∃ b, b = p.isPrefixOf s := ⟨_, rfl⟩
    rw [← hb] at hc ⊢
    refine Wp.seq ?_
    refine Wp.region ?_
    refine Wo.pre 1 (by kernel_rfl) ?_
    refine Wo.nil ?_
    refine Wp.seq ?_
    refine Wp.region ?_
    refine Wo.pre 2 (by kernel_rfl) ?_
    refine Wo.call (by kernel_rfl) (by kernel_rfl) hc ?_
    clear hc
    refine Wo.boolS (fun q1 => ?_) (fun q1 => ?_)
    · skip
      refine Wo.pre 1 (by kernel_rfl) ?_
      refine Wo.nil ?_
      refine Wp.ret ?_
      refine ⟨.inr rfl, (AV.bool true), (ret_one (res_tmp (by kernel_rfl) res_nil)), ?_⟩
      dsimp only
      exact ⟨congrArg AV.bool (Eq.symm (by with_reducible assumption)), rfl⟩
    · skip
      refine Wo.pre 1 (by kernel_rfl) ?_
      refine Wo.nil ?_
      refine Wp.ret ?_
      refine ⟨.inr rfl, (AV.bool false), (ret_one (res_tmp (by kernel_rfl) res_nil)), ?_⟩
      dsimp only
      exact ⟨congrArg AV.bool (Eq.symm (by with_reducible assumption)), rfl⟩
  subst h2; subst h3
  exact h1
theorem equal_run {h : H} {x y : AV} {l m : List UInt8} (hx : Bs h x l) (hy : Bs h y m) : Runs TF 28 [x, y] h (.bool (l == m)) h := by
  obtain ⟨r, h', h1, h2, h3⟩ : ∃ r h', Runs TF 28 [x, y] h r h' ∧ r = .bool (l == m) ∧ h' = h := by
    refine Runs.ofP f28 rfl ?_
    obtain ⟨b, hb⟩ : ∃ b, b = (l == m) := ⟨_, rfl⟩
    rw [← hb]
    have m1 := hx.bq
    have k2 := hx.parts
    have m3 := hy.bq
    have k4 := hy.parts
    refine Wp.seq ?_
    refine Wp.region ?_
    refine Wo.pre 1 (by kernel_rfl) ?_
    refine Wo.nil ?_
    refine Wp.seq ?_
    refine Wp.region ?_
    refine Wo.pre 1 (by kernel_rfl) ?_
    refine Wo.val (.str (l)) h (by kernel_rfl) (iop_cvBS (v := x) (by kernel_rfl) hx) ?_
    refine Wo.pre 1 (by kernel_rfl) ?_
    refine Wo.val (.str (m)) h (by kernel_rfl) (iop_cvBS (v := y) (by kernel_rfl) hy) ?_
    refine Wo.val (.bool b) _ (by kernel_rfl) (iop_eqS (a := l) (b := m) b (by kernel_rfl) (by kernel_rfl) hb.symm) ?_
    refine Wo.pre 1 (by kernel_rfl) ?_
    refine Wo.nil ?_
    refine Wp.ret ?_
    refine ⟨.inr rfl, (AV.bool b), (ret_one (res_tmp (by kernel_rfl) res_nil)), ?_⟩
    dsimp only
    exact ⟨rfl, rfl⟩
  subst h2; subst h3
  exact h1
/-- A copy of one's own. -/
theorem clone_run {h : H} {x : AV} {l : List UInt8} (hx : Bs h x l) (hl : l.length ≤ 199000000000000) : ∃ r h', Runs TF 23 [x] h r h' ∧ Ext h h' ∧ Ow h.n h' r l := by
  have hmx : 200000000000000 = maxRow := rfl
  refine Runs.ofP f23 rfl ?_
  rcases hx with ⟨rfl, rfl⟩ | ⟨a, c, rfl, hb, hr⟩
  · refine Wp.seq ?_
    refine Wp.region ?_
    refine Wo.pre 1 (by kernel_rfl) ?_
    refine Wo.nil ?_
    refine Wp.seq ?_
    refine Wp.seq ?_
    refine Wp.region ?_
    refine Wo.pre 1 (by kernel_rfl) ?_
    refine Wo.pre 1 (by kernel_rfl) ?_
    refine Wo.nil ?_
    refine Wp.cond true (by kernel_rfl) ?_
    refine Wp.seq ?_
    refine Wp.region ?_
    refine Wo.pre 1 (by kernel_rfl) ?_
    refine Wo.nil ?_
    refine Wp.ret ?_
    refine ⟨.inr rfl, (AV.nils), (ret_one (res_tmp (by kernel_rfl) res_nil)), ?_⟩
    dsimp only
    exact ⟨(Ext.refl _), Ow.nil0⟩
  · have hx : Bs h (.sl a l.length c) l := .inr ⟨a, c, rfl, hb, hr⟩
    have m1 := hx.bq
    have k2 := hx.parts
    refine Wp.seq ?_
    refine Wp.region ?_
    refine Wo.pre 1 (by kernel_rfl) ?_
    refine Wo.nil ?_
    refine Wp.seq ?_
    refine Wp.seq ?_
    refine Wp.region ?_
    refine Wo.pre 1 (by kernel_rfl) ?_
    refine Wo.pre 1 (by kernel_rfl) ?_
    refine Wo.nil ?_
    refine Wp.cond false (by kernel_rfl) ?_
    refine Wp.skip ?_
    refine Wp.seq ?_
    refine Wp.region ?_
    obtain ⟨H3, e3, P3, X3, n3⟩ := bsl_new h 5 [] ones_nil
    refine Wo.val (.sl ⟨H.n h, 0, 0⟩ 0 (.ex 0)) H3 (by kernel_rfl) (e3 rfl) ?_
    clear e3
    have m4 := X3.1
    refine Wo.pre 1 (by kernel_rfl) ?_
    have F5 := (hx.fr X3 (.inr id))
    obtain ⟨v6, H7, a8, q9, X10, q11⟩ := app5_lit (b := h.n) P3 F5 (by first | omega | (simp; omega) | (simp; done) | assumption)
    refine Wo.val _ _ (by kernel_rfl) (iop_appG (v := AV.sl { b := h.n, g := 0, o := 0 } 0 (Cp.ex 0)) (w := AV.sl a l.length c) (by kernel_rfl) (by kernel_rfl) rfl a8) ?_
    have m12 := q9.bq
    have k13 := q9.parts
    have m14 := X10.1
    refine Wo.pre 1 (by kernel_rfl) ?_
    refine Wo.nil ?_
    refine Wp.ret ?_
    refine ⟨.inr rfl, (v6), (ret_one (res_tmp (by kernel_rfl) res_nil)), ?_⟩
    dsimp only
    exact ⟨((X3.trans0 X10).ext0), q9⟩
end Go.Det
