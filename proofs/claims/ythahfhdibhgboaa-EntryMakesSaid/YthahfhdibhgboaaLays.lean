/- The reference's writers, any size; the program's Vec, any size. -/
import Derived.Test.YthahfhdibhgboaaSame
import Derived.Test.YthahfhdibhgboaaHeads
import Derived.Test.YthahfhdibhgboaaDetDw
set_option linter.unusedVariables false
set_option linter.unusedSimpArgs false
set_option linter.unusedSectionVars false
namespace Go.Det
open Go.Proofs
attribute [local irreducible] Wp Wo Wd iop ev slots quiets wanted put

theorem rsized_run (s : Int) (h : H) : Runs TF 73 [.int .i64 s] h (.bool (decide (1 ≤ s ∧ s ≤ 4 ∨ s = 8))) h := by
  by_cases h5 : s = 8
  · subst h5; exact rsized8_run h
  · by_cases h0 : 1 ≤ s ∧ s ≤ 4
    · have : s = 1 ∨ s = 2 ∨ s = 3 ∨ s = 4 := by omega
      rcases this with rfl | rfl | rfl | rfl <;> (refine Runs.of' f73 rfl ?_; exact Wp.seq (Wp.region (Wo.all (by kernel_rfl) (Wp.seq (Wp.region (Wo.all (by kernel_rfl) (Wp.ret ⟨.inr rfl, rfl, (by kernel_rfl)⟩)))))))
    · have e : decide (1 ≤ s ∧ s ≤ 4 ∨ s = 8) = false := by simp; omega
      rw [e]
      have e1 : (s == 1) = false := by simp; omega
      have e2 : (s == 2) = false := by simp; omega
      have e3 : (s == 3) = false := by simp; omega
      have e4 : (s == 4) = false := by simp; omega
      have e5 : (s == 8) = false := by simp; omega
      refine Runs.of' f73 rfl ?_
      refine Wp.seq ?_
      refine Wp.region ?_
      refine Wo.pre 1 (by kernel_rfl) ?_
      refine Wo.nil ?_
      refine Wp.seq ?_
      refine Wp.region ?_
      refine Wo.pre 1 (by kernel_rfl) ?_
      refine Wo.val (.bool false) h (by kernel_rfl) (iop_eqB (k := .i64) (a := s) (b := 1) false (by kernel_rfl) (by kernel_rfl) e1) ?_
      refine Wo.pre 1 (by kernel_rfl) ?_
      refine Wo.pre 1 (by kernel_rfl) ?_
      refine Wo.val (.bool false) h (by kernel_rfl) (iop_eqB (k := .i64) (a := s) (b := 2) false (by kernel_rfl) (by kernel_rfl) e2) ?_
      refine Wo.pre 1 (by kernel_rfl) ?_
      refine Wo.pre 1 (by kernel_rfl) ?_
      refine Wo.pre 1 (by kernel_rfl) ?_
      refine Wo.val (.bool false) h (by kernel_rfl) (iop_eqB (k := .i64) (a := s) (b := 3) false (by kernel_rfl) (by kernel_rfl) e3) ?_
      refine Wo.pre 1 (by kernel_rfl) ?_
      refine Wo.pre 1 (by kernel_rfl) ?_
      refine Wo.pre 1 (by kernel_rfl) ?_
      refine Wo.val (.bool false) h (by kernel_rfl) (iop_eqB (k := .i64) (a := s) (b := 4) false (by kernel_rfl) (by kernel_rfl) e4) ?_
      refine Wo.pre 1 (by kernel_rfl) ?_
      refine Wo.pre 1 (by kernel_rfl) ?_
      refine Wo.pre 1 (by kernel_rfl) ?_
      refine Wo.val (.bool false) h (by kernel_rfl) (iop_eqB (k := .i64) (a := s) (b := 8) false (by kernel_rfl) (by kernel_rfl) e5) ?_
      refine Wo.pre 1 (by kernel_rfl) ?_
      refine Wo.pre 1 (by kernel_rfl) ?_
      refine Wo.nil ?_
      exact Wp.ret ⟨.inr rfl, rfl, (by kernel_rfl)⟩
theorem rnum_run {b : AV} {l : List UInt8} {h : H} (hb : Bs h b l) (hl : l.length + 8 ≤ maxRow) {n : Nat} (hn : n < 2 ^ 64) (size : Int) :
    ∃ v h', Runs TF 20 [b, .int .u64 n, .int .i64 size] h v h' ∧ ∃ x, v = .tup [x, .int .i64 (numE n size)] ∧ Ext h h' ∧ Ow h.n h' x (if numE n size = 0 then l ++ digits n size.toNat size.toNat else []) := by
  refine Runs.ofP f20 rfl ?_
  have hz := rsized_run size h
  by_cases hs : 1 ≤ size ∧ size ≤ 4 ∨ size = 8
  · rw [decide_eq_true hs] at hz
    obtain ⟨m, rfl⟩ : ∃ m : Nat, size = m := ⟨size.toNat, by omega⟩
    have hm8 : m ≤ 8 := by omega
    have hmax : 8 < maxRow := by decide
    have hm : m ≤ maxRow := by omega
    have w1 : IntKind.i64.wrap ((m : Int) - 1) = (m : Int) - 1 := i64_fit _ (by omega)
    have w2 : n / 256 ^ (m - m) = n := by simp
    refine Wp.seq ?_
    refine Wp.region ?_
    refine Wo.pre 8 (by kernel_rfl) ?_
    refine Wo.nil ?_
    refine Wp.seq ?_
    refine Wp.seq ?_
    refine Wp.region ?_
    refine Wo.pre 1 (by kernel_rfl) ?_
    refine Wo.call (by kernel_rfl) (by kernel_rfl) (hz) ?_
    refine Wo.pre 8 (by kernel_rfl) ?_
    refine Wo.nil ?_
    refine Wp.cond false (by kernel_rfl) ?_
    refine Wp.skip ?_
    refine Wp.seq ?_
    refine Wp.region ?_
    refine Wo.pre 1 (by kernel_rfl) ?_
    refine Wo.val (.sl ⟨h.n, 0, 0⟩ m (.ex m)) (h.new (.cells 0 5 (List.replicate m (.int .u8 0)) 0 false)) (by kernel_rfl) (iop_mkS (k := .i64) (by kernel_rfl) hm) ?_
    refine Wo.pre 8 (by kernel_rfl) ?_
    refine Wo.nil ?_
    refine Wp.seq ?_
    refine Wp.seq ?_
    refine Wp.region ?_
    refine Wo.pre 8 (by kernel_rfl) ?_
    refine Wo.nil ?_
    refine Wp.block ?_
    refine rnum_loop (size := m) hn (by omega) (blk := h.n) m (Nat.le_refl _) _ _ (by kernel_rfl) (by simp) (by rw [w2]; kernel_rfl) (by kernel_rfl) (by rw [← w1]; kernel_rfl) (by rw [h.get_new]; simp [bytesAV, digits_len]) _ ?_
    intro ts' h' g0 gb g1 g8 gc gn go
    have gb : getL ts' 0 = some b := gb.trans (by kernel_rfl)
    obtain ⟨q, hq⟩ : ∃ q, q = n / 256 ^ m := ⟨_, rfl⟩
    rw [← hq] at g1
    have he : Ext h h' := ⟨by rw [gn]; simp, fun k hk => by rw [go k (by omega)]; exact h.get_new_ne k _ (by omega)⟩
    rw [laid_eq g0 [(0, b), (1, .int .u64 q), (8, .sl ⟨h.n, 0, 0⟩ m (.ex m))] (by simp [g1, g8, gb])]
    have hp : (2 : Nat) ^ (8 * m) = 256 ^ m := by rw [Nat.pow_mul]
    by_cases hbig : 2 ^ (8 * m) ≤ n
    · have e3 : numE n (m : Int) = 3 := by simp only [numE, hs, Int.toNat_natCast, hbig, not_true, if_false, if_true]
      have hq0 : decide ((q : Int) > 0) = true := by
        have : 0 < q := by rw [hq]; exact Nat.div_pos (by rw [← hp]; exact hbig) (Nat.pos_of_ne_zero (by simp))
        simpa using this
      refine Wp.seq ?_
      refine Wp.seq ?_
      refine Wp.region ?_
      refine Wo.pre 8 (by kernel_rfl) ?_
      refine Wo.nil ?_
      refine Wp.cond (decide ((q : Int) > 0)) (by kernel_rfl) ?_
      rw [hq0]
      refine Wp.seq ?_
      refine Wp.region ?_
      refine Wo.pre 8 (by kernel_rfl) ?_
      refine Wo.nil ?_
      rw [e3]
      exact Wp.ret ⟨.inr rfl, .tup [.nils, .int .i64 3], (by kernel_rfl), .nils, rfl, he, .inl ⟨rfl, rfl⟩⟩
    · have e0 : numE n (m : Int) = 0 := by simp only [numE, hs, Int.toNat_natCast, hbig, not_true, if_false]
      have hq0 : q = 0 := by rw [hq]; exact Nat.div_eq_of_lt (by rw [← hp]; omega)
      subst hq0
      obtain ⟨x, h2, c1, c2, c3⟩ := own_run (hb.ext he) (by omega)
      have hy : Bs h' (.sl ⟨h.n, 0, 0⟩ m (.ex m)) (digits n m m) := (Ow.bs (lo := h.n) (.inr ⟨h.n, 0, Nat.le_refl _, by rw [gn]; simp, gc, .inr (by rw [digits_len])⟩))
      obtain ⟨y, h3, e1, e2, e3, _⟩ := Ow.app c3 (hy.ext c2) c2.1 (by rw [digits_len]; omega)
      refine Wp.seq ?_
      refine Wp.seq ?_
      refine Wp.region ?_
      refine Wo.pre 8 (by kernel_rfl) ?_
      refine Wo.nil ?_
      refine Wp.cond false (by kernel_rfl) ?_
      refine Wp.skip ?_
      refine Wp.seq ?_
      refine Wp.region ?_
      refine Wo.pre 1 (by kernel_rfl) ?_
      refine Wo.call (by kernel_rfl) (by kernel_rfl) (c1) ?_
      refine Wo.pre 1 (by kernel_rfl) ?_
      refine Wo.val y h3 (by kernel_rfl) (iop_app (v := x) (w := .sl ⟨h.n, 0, 0⟩ m (.ex m)) (by kernel_rfl) (by kernel_rfl) rfl e1) ?_
      refine Wo.pre 8 (by kernel_rfl) ?_
      refine Wo.nil ?_
      have hec := he.trans c2
      rw [e0]
      exact Wp.ret ⟨.inr rfl, .tup [y, .int .i64 0], (by kernel_rfl), y, rfl, ⟨Nat.le_trans hec.1 e3.1, fun k hk => (e3.2 k (Nat.lt_of_lt_of_le hk he.1)).trans (hec.2 k hk)⟩, e2.mono he.1⟩
  · rw [decide_eq_false hs] at hz
    have e1 : numE n size = 1 := by simp only [numE, hs, not_false_eq_true, if_true]
    refine Wp.seq ?_
    refine Wp.region ?_
    refine Wo.pre 8 (by kernel_rfl) ?_
    refine Wo.nil ?_
    refine Wp.seq ?_
    refine Wp.seq ?_
    refine Wp.region ?_
    refine Wo.pre 1 (by kernel_rfl) ?_
    refine Wo.call (by kernel_rfl) (by kernel_rfl) (hz) ?_
    refine Wo.pre 8 (by kernel_rfl) ?_
    refine Wo.nil ?_
    refine Wp.cond true (by kernel_rfl) ?_
    refine Wp.seq ?_
    refine Wp.region ?_
    refine Wo.pre 8 (by kernel_rfl) ?_
    refine Wo.nil ?_
    rw [e1]
    exact Wp.ret ⟨.inr rfl, .tup [.nils, .int .i64 1], (by kernel_rfl), .nils, rfl, Ext.refl h, .inl ⟨rfl, rfl⟩⟩

def vecE (n : Nat) (size : Int) : Int := if 1 ≤ size ∧ size ≤ 3 then numE n size else 1

theorem vecE_num {n : Nat} {size : Int} (hs : ¬ 3 < size) : vecE n size = numE n size := by
  unfold vecE
  split
  · rfl
  · rename_i h1
    have h2 : ¬ (1 ≤ size ∧ size ≤ 4 ∨ size = 8) := by omega
    simp only [numE, h2, not_false_eq_true, if_true]

/-- wire.Vec, any size. -/
theorem wvec_any {h : H} {x y : AV} {lx ly : List UInt8} (hx : Bs h x lx) (hy : Bs h y ly) (size : Int) (hl : lx.length + 16777224 ≤ maxRow) (hl2 : ly.length ≤ maxRow) :
    ∃ r h', Runs TF 21 [x, y, .int .i64 size] h r h' ∧ ∃ z, r = .tup [z, .int .i64 (vecE ly.length size)] ∧ Ext h h' ∧ Ow h.n h' z (if vecE ly.length size = 0 then lx ++ digits ly.length size.toNat size.toNat ++ ly else []) := by
  by_cases hs : 1 ≤ size ∧ size ≤ 3
  · obtain ⟨m, rfl⟩ : ∃ m : Nat, size = m := ⟨size.toNat, by omega⟩
    have e : vecE ly.length (m : Int) = numE ly.length m := vecE_num (by omega)
    rw [e]
    exact wvec_run hx hy (size := m) (by omega) hl hl2
  · have e1 : vecE ly.length size = 1 := by simp only [vecE, hs, if_false]
    rw [e1]
    refine Runs.ofP f21 rfl ?_
    refine Wp.seq ?_
    refine Wp.region ?_
    refine Wo.pre 8 (by kernel_rfl) ?_
    refine Wo.nil ?_
    refine Wp.seq ?_
    refine Wp.seq ?_
    refine Wp.region ?_
    refine Wo.pre 8 (by kernel_rfl) ?_
    refine Wo.nil ?_
    refine Wp.cond (decide (size > 3)) (by kernel_rfl) ?_
    by_cases h3 : 3 < size
    · rw [if_pos (by simpa using h3)]
      refine Wp.seq ?_
      refine Wp.region ?_
      refine Wo.pre 8 (by kernel_rfl) ?_
      refine Wo.nil ?_
      exact Wp.ret ⟨.inr rfl, .tup [.nils, .int .i64 1], (by kernel_rfl), .nils, rfl, Ext.refl h, .inl ⟨rfl, rfl⟩⟩
    · rw [if_neg (by simpa using h3)]
      have hw : IntKind.u64.wrap ((ly.length : Nat) : Int) = ((ly.length : Nat) : Int) := u64_fit _ (by unfold maxRow at hl2; omega)
      obtain ⟨r, h1, c1, z1, rfl, c2, c3⟩ := num_run hx (by omega) (n := ly.length) (by unfold maxRow at hl2; omega) size
      have en : numE ly.length size = 1 := by rw [← vecE_num h3, e1]
      rw [← hw, en] at c1
      rw [en] at c3
      refine Wp.skip ?_
      refine Wp.seq ?_
      refine Wp.region ?_
      refine Wo.pre 1 (by kernel_rfl) ?_
      refine Wo.pre 1 (by kernel_rfl) ?_
      refine Wo.val (.int .i64 ly.length) h (by kernel_rfl) (hy.len (by kernel_rfl)) ?_
      refine Wo.pre 1 (by kernel_rfl) ?_
      refine Wo.pre 1 (by kernel_rfl) ?_
      refine Wo.call (by kernel_rfl) (by kernel_rfl) (c1) ?_
      refine Wo.pre 8 (by kernel_rfl) ?_
      refine Wo.nil ?_
      refine Wp.seq ?_
      refine Wp.seq ?_
      refine Wp.region ?_
      refine Wo.pre 8 (by kernel_rfl) ?_
      refine Wo.nil ?_
      refine Wp.cond true (by kernel_rfl) ?_
      refine Wp.seq ?_
      refine Wp.region ?_
      refine Wo.pre 8 (by kernel_rfl) ?_
      refine Wo.nil ?_
      exact Wp.ret ⟨.inr rfl, .tup [.nils, .int .i64 1], (by kernel_rfl), .nils, rfl, c2, .inl ⟨rfl, rfl⟩⟩

/-- The reference's Vec, any size. -/
theorem rvec_run {h : H} {x y : AV} {lx ly : List UInt8} (hx : Bs h x lx) (hy : Bs h y ly) (size : Int) (hl : lx.length + 16777224 ≤ maxRow) (hl2 : ly.length ≤ maxRow) :
    ∃ r h', Runs TF 22 [x, y, .int .i64 size] h r h' ∧ ∃ z, r = .tup [z, .int .i64 (vecE ly.length size)] ∧ Ext h h' ∧ Ow h.n h' z (if vecE ly.length size = 0 then lx ++ digits ly.length size.toNat size.toNat ++ ly else []) := by
  by_cases hs : 1 ≤ size ∧ size ≤ 3
  · obtain ⟨m, rfl⟩ : ∃ m : Nat, size = m := ⟨size.toNat, by omega⟩
    have e : vecE ly.length (m : Int) = numE ly.length m := vecE_num (by omega)
    rw [e]
    have hw : IntKind.u64.wrap ((ly.length : Nat) : Int) = ((ly.length : Nat) : Int) := u64_fit _ (by unfold maxRow at hl2; omega)
    obtain ⟨r, h1, c1, z1, rfl, c2, c3⟩ := rnum_run hx (by omega) (n := ly.length) (by unfold maxRow at hl2; omega) m
    rw [← hw] at c1
    have hm : m = 1 ∨ m = 2 ∨ m = 3 := by omega
    rcases hm with rfl | rfl | rfl
    · skip
      by_cases he : numE ly.length ((1 : Nat) : Int) = 0
      · rw [he] at c1 ⊢
        rw [if_pos he] at c3
        obtain ⟨z, h2, e1, e2, e3, e4⟩ := Ow.app c3 (hy.ext c2) c2.1 (by rw [List.length_append, digits_len]; have := numE_lt (size := 1) (by omega) he; simp; omega)
        refine Runs.ofP f22 rfl ?_
        refine Wp.seq ?_
        refine Wp.region ?_
        refine Wo.pre 8 (by kernel_rfl) ?_
        refine Wo.nil ?_
        refine Wp.seq ?_
        refine Wp.seq ?_
        refine Wp.region ?_
        refine Wo.pre 8 (by kernel_rfl) ?_
        refine Wo.pre 8 (by kernel_rfl) ?_
        refine Wo.nil ?_
        refine Wp.cond false (by kernel_rfl) ?_
        refine Wp.skip ?_
        refine Wp.seq ?_
        refine Wp.region ?_
        refine Wo.pre 1 (by kernel_rfl) ?_
        refine Wo.pre 1 (by kernel_rfl) ?_
        refine Wo.val (.int .i64 ly.length) h (by kernel_rfl) (hy.len (by kernel_rfl)) ?_
        refine Wo.pre 1 (by kernel_rfl) ?_
        refine Wo.pre 1 (by kernel_rfl) ?_
        refine Wo.call (by kernel_rfl) (by kernel_rfl) (c1) ?_
        refine Wo.pre 8 (by kernel_rfl) ?_
        refine Wo.nil ?_
        refine Wp.seq ?_
        refine Wp.seq ?_
        refine Wp.region ?_
        refine Wo.pre 8 (by kernel_rfl) ?_
        refine Wo.nil ?_
        refine Wp.cond false (by kernel_rfl) ?_
        refine Wp.skip ?_
        refine Wp.seq ?_
        refine Wp.region ?_
        refine Wo.pre 1 (by kernel_rfl) ?_
        refine Wo.pre 1 (by kernel_rfl) ?_
        refine Wo.val z h2 (by kernel_rfl) (iop_app (v := z1) (w := y) (by kernel_rfl) (by kernel_rfl) hy.parts.2.2 e1) ?_
        refine Wo.pre 8 (by kernel_rfl) ?_
        refine Wo.nil ?_
        exact Wp.ret ⟨.inr rfl, .tup [z, .int .i64 0], (by kernel_rfl), z, rfl, ⟨Nat.le_trans c2.1 e3.1, fun k hk => (e3.2 k hk).trans (c2.2 k hk)⟩, e2⟩
      · have e3 : numE ly.length ((1 : Nat) : Int) = 3 := by
          have h1 : (1 ≤ ((1 : Nat) : Int) ∧ ((1 : Nat) : Int) ≤ 4 ∨ ((1 : Nat) : Int) = 8) := by omega
          simp only [numE, h1, not_true, if_false] at he ⊢
          split at he
          · rename_i h2; rw [if_pos h2]
          · exact absurd rfl he
        rw [e3] at c1 ⊢
        refine Runs.ofP f22 rfl ?_
        refine Wp.seq ?_
        refine Wp.region ?_
        refine Wo.pre 8 (by kernel_rfl) ?_
        refine Wo.nil ?_
        refine Wp.seq ?_
        refine Wp.seq ?_
        refine Wp.region ?_
        refine Wo.pre 8 (by kernel_rfl) ?_
        refine Wo.pre 8 (by kernel_rfl) ?_
        refine Wo.nil ?_
        refine Wp.cond false (by kernel_rfl) ?_
        refine Wp.skip ?_
        refine Wp.seq ?_
        refine Wp.region ?_
        refine Wo.pre 1 (by kernel_rfl) ?_
        refine Wo.pre 1 (by kernel_rfl) ?_
        refine Wo.val (.int .i64 ly.length) h (by kernel_rfl) (hy.len (by kernel_rfl)) ?_
        refine Wo.pre 1 (by kernel_rfl) ?_
        refine Wo.pre 1 (by kernel_rfl) ?_
        refine Wo.call (by kernel_rfl) (by kernel_rfl) (c1) ?_
        refine Wo.pre 8 (by kernel_rfl) ?_
        refine Wo.nil ?_
        refine Wp.seq ?_
        refine Wp.seq ?_
        refine Wp.region ?_
        refine Wo.pre 8 (by kernel_rfl) ?_
        refine Wo.nil ?_
        refine Wp.cond true (by kernel_rfl) ?_
        refine Wp.seq ?_
        refine Wp.region ?_
        refine Wo.pre 8 (by kernel_rfl) ?_
        refine Wo.nil ?_
        exact Wp.ret ⟨.inr rfl, .tup [.nils, .int .i64 3], (by kernel_rfl), .nils, rfl, c2, .inl ⟨rfl, rfl⟩⟩
    · skip
      by_cases he : numE ly.length ((2 : Nat) : Int) = 0
      · rw [he] at c1 ⊢
        rw [if_pos he] at c3
        obtain ⟨z, h2, e1, e2, e3, e4⟩ := Ow.app c3 (hy.ext c2) c2.1 (by rw [List.length_append, digits_len]; have := numE_lt (size := 2) (by omega) he; simp; omega)
        refine Runs.ofP f22 rfl ?_
        refine Wp.seq ?_
        refine Wp.region ?_
        refine Wo.pre 8 (by kernel_rfl) ?_
        refine Wo.nil ?_
        refine Wp.seq ?_
        refine Wp.seq ?_
        refine Wp.region ?_
        refine Wo.pre 8 (by kernel_rfl) ?_
        refine Wo.pre 8 (by kernel_rfl) ?_
        refine Wo.nil ?_
        refine Wp.cond false (by kernel_rfl) ?_
        refine Wp.skip ?_
        refine Wp.seq ?_
        refine Wp.region ?_
        refine Wo.pre 1 (by kernel_rfl) ?_
        refine Wo.pre 1 (by kernel_rfl) ?_
        refine Wo.val (.int .i64 ly.length) h (by kernel_rfl) (hy.len (by kernel_rfl)) ?_
        refine Wo.pre 1 (by kernel_rfl) ?_
        refine Wo.pre 1 (by kernel_rfl) ?_
        refine Wo.call (by kernel_rfl) (by kernel_rfl) (c1) ?_
        refine Wo.pre 8 (by kernel_rfl) ?_
        refine Wo.nil ?_
        refine Wp.seq ?_
        refine Wp.seq ?_
        refine Wp.region ?_
        refine Wo.pre 8 (by kernel_rfl) ?_
        refine Wo.nil ?_
        refine Wp.cond false (by kernel_rfl) ?_
        refine Wp.skip ?_
        refine Wp.seq ?_
        refine Wp.region ?_
        refine Wo.pre 1 (by kernel_rfl) ?_
        refine Wo.pre 1 (by kernel_rfl) ?_
        refine Wo.val z h2 (by kernel_rfl) (iop_app (v := z1) (w := y) (by kernel_rfl) (by kernel_rfl) hy.parts.2.2 e1) ?_
        refine Wo.pre 8 (by kernel_rfl) ?_
        refine Wo.nil ?_
        exact Wp.ret ⟨.inr rfl, .tup [z, .int .i64 0], (by kernel_rfl), z, rfl, ⟨Nat.le_trans c2.1 e3.1, fun k hk => (e3.2 k hk).trans (c2.2 k hk)⟩, e2⟩
      · have e3 : numE ly.length ((2 : Nat) : Int) = 3 := by
          have h1 : (1 ≤ ((2 : Nat) : Int) ∧ ((2 : Nat) : Int) ≤ 4 ∨ ((2 : Nat) : Int) = 8) := by omega
          simp only [numE, h1, not_true, if_false] at he ⊢
          split at he
          · rename_i h2; rw [if_pos h2]
          · exact absurd rfl he
        rw [e3] at c1 ⊢
        refine Runs.ofP f22 rfl ?_
        refine Wp.seq ?_
        refine Wp.region ?_
        refine Wo.pre 8 (by kernel_rfl) ?_
        refine Wo.nil ?_
        refine Wp.seq ?_
        refine Wp.seq ?_
        refine Wp.region ?_
        refine Wo.pre 8 (by kernel_rfl) ?_
        refine Wo.pre 8 (by kernel_rfl) ?_
        refine Wo.nil ?_
        refine Wp.cond false (by kernel_rfl) ?_
        refine Wp.skip ?_
        refine Wp.seq ?_
        refine Wp.region ?_
        refine Wo.pre 1 (by kernel_rfl) ?_
        refine Wo.pre 1 (by kernel_rfl) ?_
        refine Wo.val (.int .i64 ly.length) h (by kernel_rfl) (hy.len (by kernel_rfl)) ?_
        refine Wo.pre 1 (by kernel_rfl) ?_
        refine Wo.pre 1 (by kernel_rfl) ?_
        refine Wo.call (by kernel_rfl) (by kernel_rfl) (c1) ?_
        refine Wo.pre 8 (by kernel_rfl) ?_
        refine Wo.nil ?_
        refine Wp.seq ?_
        refine Wp.seq ?_
        refine Wp.region ?_
        refine Wo.pre 8 (by kernel_rfl) ?_
        refine Wo.nil ?_
        refine Wp.cond true (by kernel_rfl) ?_
        refine Wp.seq ?_
        refine Wp.region ?_
        refine Wo.pre 8 (by kernel_rfl) ?_
        refine Wo.nil ?_
        exact Wp.ret ⟨.inr rfl, .tup [.nils, .int .i64 3], (by kernel_rfl), .nils, rfl, c2, .inl ⟨rfl, rfl⟩⟩
    · skip
      by_cases he : numE ly.length ((3 : Nat) : Int) = 0
      · rw [he] at c1 ⊢
        rw [if_pos he] at c3
        obtain ⟨z, h2, e1, e2, e3, e4⟩ := Ow.app c3 (hy.ext c2) c2.1 (by rw [List.length_append, digits_len]; have := numE_lt (size := 3) (by omega) he; simp; omega)
        refine Runs.ofP f22 rfl ?_
        refine Wp.seq ?_
        refine Wp.region ?_
        refine Wo.pre 8 (by kernel_rfl) ?_
        refine Wo.nil ?_
        refine Wp.seq ?_
        refine Wp.seq ?_
        refine Wp.region ?_
        refine Wo.pre 8 (by kernel_rfl) ?_
        refine Wo.pre 8 (by kernel_rfl) ?_
        refine Wo.nil ?_
        refine Wp.cond false (by kernel_rfl) ?_
        refine Wp.skip ?_
        refine Wp.seq ?_
        refine Wp.region ?_
        refine Wo.pre 1 (by kernel_rfl) ?_
        refine Wo.pre 1 (by kernel_rfl) ?_
        refine Wo.val (.int .i64 ly.length) h (by kernel_rfl) (hy.len (by kernel_rfl)) ?_
        refine Wo.pre 1 (by kernel_rfl) ?_
        refine Wo.pre 1 (by kernel_rfl) ?_
        refine Wo.call (by kernel_rfl) (by kernel_rfl) (c1) ?_
        refine Wo.pre 8 (by kernel_rfl) ?_
        refine Wo.nil ?_
        refine Wp.seq ?_
        refine Wp.seq ?_
        refine Wp.region ?_
        refine Wo.pre 8 (by kernel_rfl) ?_
        refine Wo.nil ?_
        refine Wp.cond false (by kernel_rfl) ?_
        refine Wp.skip ?_
        refine Wp.seq ?_
        refine Wp.region ?_
        refine Wo.pre 1 (by kernel_rfl) ?_
        refine Wo.pre 1 (by kernel_rfl) ?_
        refine Wo.val z h2 (by kernel_rfl) (iop_app (v := z1) (w := y) (by kernel_rfl) (by kernel_rfl) hy.parts.2.2 e1) ?_
        refine Wo.pre 8 (by kernel_rfl) ?_
        refine Wo.nil ?_
        exact Wp.ret ⟨.inr rfl, .tup [z, .int .i64 0], (by kernel_rfl), z, rfl, ⟨Nat.le_trans c2.1 e3.1, fun k hk => (e3.2 k hk).trans (c2.2 k hk)⟩, e2⟩
      · have e3 : numE ly.length ((3 : Nat) : Int) = 3 := by
          have h1 : (1 ≤ ((3 : Nat) : Int) ∧ ((3 : Nat) : Int) ≤ 4 ∨ ((3 : Nat) : Int) = 8) := by omega
          simp only [numE, h1, not_true, if_false] at he ⊢
          split at he
          · rename_i h2; rw [if_pos h2]
          · exact absurd rfl he
        rw [e3] at c1 ⊢
        refine Runs.ofP f22 rfl ?_
        refine Wp.seq ?_
        refine Wp.region ?_
        refine Wo.pre 8 (by kernel_rfl) ?_
        refine Wo.nil ?_
        refine Wp.seq ?_
        refine Wp.seq ?_
        refine Wp.region ?_
        refine Wo.pre 8 (by kernel_rfl) ?_
        refine Wo.pre 8 (by kernel_rfl) ?_
        refine Wo.nil ?_
        refine Wp.cond false (by kernel_rfl) ?_
        refine Wp.skip ?_
        refine Wp.seq ?_
        refine Wp.region ?_
        refine Wo.pre 1 (by kernel_rfl) ?_
        refine Wo.pre 1 (by kernel_rfl) ?_
        refine Wo.val (.int .i64 ly.length) h (by kernel_rfl) (hy.len (by kernel_rfl)) ?_
        refine Wo.pre 1 (by kernel_rfl) ?_
        refine Wo.pre 1 (by kernel_rfl) ?_
        refine Wo.call (by kernel_rfl) (by kernel_rfl) (c1) ?_
        refine Wo.pre 8 (by kernel_rfl) ?_
        refine Wo.nil ?_
        refine Wp.seq ?_
        refine Wp.seq ?_
        refine Wp.region ?_
        refine Wo.pre 8 (by kernel_rfl) ?_
        refine Wo.nil ?_
        refine Wp.cond true (by kernel_rfl) ?_
        refine Wp.seq ?_
        refine Wp.region ?_
        refine Wo.pre 8 (by kernel_rfl) ?_
        refine Wo.nil ?_
        exact Wp.ret ⟨.inr rfl, .tup [.nils, .int .i64 3], (by kernel_rfl), .nils, rfl, c2, .inl ⟨rfl, rfl⟩⟩
  · have e1 : vecE ly.length size = 1 := by simp only [vecE, hs, if_false]
    rw [e1]
    have n1 : (size != 1) = true := by simp; omega
    have n2 : (size != 2) = true := by simp; omega
    have n3 : (size != 3) = true := by simp; omega
    refine Runs.ofP f22 rfl ?_
    refine Wp.seq ?_
    refine Wp.region ?_
    refine Wo.pre 1 (by kernel_rfl) ?_
    refine Wo.pre 1 (by kernel_rfl) ?_
    refine Wo.nil ?_
    refine Wp.seq ?_
    refine Wp.seq ?_
    refine Wp.region ?_
    refine Wo.pre 1 (by kernel_rfl) ?_
    refine Wo.val (.bool true) h (by kernel_rfl) (iop_neB (k := .i64) (a := size) (b := 1) true (by kernel_rfl) (by kernel_rfl) n1) ?_
    refine Wo.pre 1 (by kernel_rfl) ?_
    refine Wo.pre 1 (by kernel_rfl) ?_
    refine Wo.val (.bool true) h (by kernel_rfl) (iop_neB (k := .i64) (a := size) (b := 2) true (by kernel_rfl) (by kernel_rfl) n2) ?_
    refine Wo.pre 1 (by kernel_rfl) ?_
    refine Wo.pre 1 (by kernel_rfl) ?_
    refine Wo.pre 1 (by kernel_rfl) ?_
    refine Wo.val (.bool true) h (by kernel_rfl) (iop_neB (k := .i64) (a := size) (b := 3) true (by kernel_rfl) (by kernel_rfl) n3) ?_
    refine Wo.pre 1 (by kernel_rfl) ?_
    refine Wo.nil ?_
    refine Wp.cond true (by kernel_rfl) ?_
    refine Wp.seq ?_
    refine Wp.region ?_
    refine Wo.pre 1 (by kernel_rfl) ?_
    refine Wo.pre 1 (by kernel_rfl) ?_
    refine Wo.nil ?_
    exact Wp.ret ⟨.inr rfl, .tup [.nils, .int .i64 1], (by kernel_rfl), .nils, rfl, Ext.refl h, .inl ⟨rfl, rfl⟩⟩
end Go.Det
