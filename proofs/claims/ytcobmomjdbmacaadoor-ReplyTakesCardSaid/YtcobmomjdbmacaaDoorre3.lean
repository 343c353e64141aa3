/- Reply: the words' map; the same; the closure; the document's numerals: the walks. -/
import Derived.Test.YtcobmomjdbmacaaDoorre2
set_option linter.unusedVariables false
set_option linter.unusedSimpArgs false
set_option linter.unusedSectionVars false
namespace Go.Det
open Go.Proofs

theorem iop_mkM {ρ : IX → AV} {h : H} : iop .mkM ρ h = some (.val (.map h.n) (h.new (.map [] 0))) := rfl
theorem upd_new {h : H} {r : Nat} {es : List (AV × AV × Nat)} {clock : Nat} {k v : AV} (p : h.get r = some (.map es clock)) (hk : findKey .num k es 0 = some none) :
    ∃ H', (∀ {x kx vx : IX} {ρ : IX → AV}, ρ x = .map r → ρ kx = k → ρ vx = v → iop (.upd .num x kx vx) ρ h = some (.val .undef H')) ∧ H'.get r = some (.map (es ++ [(k, v, clock)]) (clock + 1)) ∧ H'.n = h.n ∧ ∀ b, b ≠ r → H'.get b = h.get b := by
  refine ⟨h.set r (.map (es ++ [(k, v, clock)]) (clock + 1)), ?_, h.get_set _ _, rfl, fun b hb => h.get_set_ne _ b _ hb⟩
  intro x kx vx ρ hx hkx hvx
  simp only [iop, hx, hkx, hvx, p, hk]
theorem look_hit {h : H} {r i : Nat} {es : List (AV × AV × Nat)} {clock : Nat} {k v z : AV} {x kx : IX} {ρ : IX → AV} (p : h.get r = some (.map es clock)) (hx : ρ x = .map r) (hkx : ρ kx = k) (hk : findKey .num k es 0 = some (some (i, v))) : iop (.look .num z false x kx) ρ h = some (.val v h) := by
  simp [iop, hx, hkx, p, hk]
theorem look_no {h : H} {r : Nat} {es : List (AV × AV × Nat)} {clock : Nat} {k z : AV} {x kx : IX} {ρ : IX → AV} (p : h.get r = some (.map es clock)) (hx : ρ x = .map r) (hkx : ρ kx = k) (hk : findKey .num k es 0 = some none) : iop (.look .num z false x kx) ρ h = some (.val z h) := by
  simp [iop, hx, hkx, p, hk]
attribute [local irreducible] Wp Wo Wd iop ev slots quiets wanted put

/-- The words as the machine's map. -/
def es6 : List (AV × AV × Nat) := [(.int .i64 200, .str (Re.words 200), 0), (.int .i64 400, .str (Re.words 400), 1), (.int .i64 404, .str (Re.words 404), 2), (.int .i64 405, .str (Re.words 405), 3), (.int .i64 500, .str (Re.words 500), 4), (.int .i64 503, .str (Re.words 503), 5)]
set_option maxHeartbeats 4000000 in
theorem map_run (h : H) : ∃ r h', Runs TF 27 [] h r h' ∧ r = .map h.n ∧ h'.get h.n = some (.map es6 6) ∧ Ext h h' := by
  refine Runs.ofP f27 rfl ?_
  have x0 := Ext.new h (.map [] 0)
  have p0 : (h.new (.map [] 0)).get h.n = some (.map [] 0) := h.get_new _
  obtain ⟨H0, e0⟩ : ∃ H0, H0 = h.new (.map [] 0) := ⟨_, rfl⟩
  have n0 : H0.n = h.n + 1 := by rw [e0]; rfl
  have q0 : H0.get h.n = some (.map [] 0) := by rw [e0]; exact p0
  obtain ⟨H1, u1, p1, n1, k1⟩ := upd_new (k := .int .i64 200) (v := .str (Re.words 200)) q0 (by kernel_rfl)
  obtain ⟨H2, u2, p2, n2, k2⟩ := upd_new (k := .int .i64 400) (v := .str (Re.words 400)) p1 (by kernel_rfl)
  obtain ⟨H3, u3, p3, n3, k3⟩ := upd_new (k := .int .i64 404) (v := .str (Re.words 404)) p2 (by kernel_rfl)
  obtain ⟨H4, u4, p4, n4, k4⟩ := upd_new (k := .int .i64 405) (v := .str (Re.words 405)) p3 (by kernel_rfl)
  obtain ⟨H5, u5, p5, n5, k5⟩ := upd_new (k := .int .i64 500) (v := .str (Re.words 500)) p4 (by kernel_rfl)
  obtain ⟨H6, u6, p6, n6, k6⟩ := upd_new (k := .int .i64 503) (v := .str (Re.words 503)) p5 (by kernel_rfl)
  have hE : Ext h H6 := ⟨by omega, fun b hb => by
    rw [k6 b (by omega), k5 b (by omega), k4 b (by omega), k3 b (by omega), k2 b (by omega), k1 b (by omega), e0]
    exact h.get_new_ne b _ (by omega)⟩
  have hG : H6.get h.n = some (.map es6 6) := p6
  clear p0 q0 p1 p2 p3 p4 p5 k1 k2 k3 k4 k5 k6 x0
  have m1 := hE.1
  refine Wp.seq ?_
  refine Wp.region ?_
  refine Wo.pre 1 (by kernel_rfl) ?_
  refine Wo.nil ?_
  refine Wp.seq ?_
  refine Wp.region ?_
  refine Wo.val (.map h.n) H0 (by kernel_rfl) (by rw [e0]; exact iop_mkM) ?_
  refine Wo.val .undef H1 (by kernel_rfl) (u1 (by kernel_rfl) (by kernel_rfl) (by kernel_rfl)) ?_
  refine Wo.val .undef H2 (by kernel_rfl) (u2 (by kernel_rfl) (by kernel_rfl) (by kernel_rfl)) ?_
  refine Wo.val .undef H3 (by kernel_rfl) (u3 (by kernel_rfl) (by kernel_rfl) (by kernel_rfl)) ?_
  refine Wo.val .undef H4 (by kernel_rfl) (u4 (by kernel_rfl) (by kernel_rfl) (by kernel_rfl)) ?_
  refine Wo.val .undef H5 (by kernel_rfl) (u5 (by kernel_rfl) (by kernel_rfl) (by kernel_rfl)) ?_
  refine Wo.val .undef H6 (by kernel_rfl) (u6 (by kernel_rfl) (by kernel_rfl) (by kernel_rfl)) ?_
  refine Wo.pre 2 (by kernel_rfl) ?_
  refine Wo.nil ?_
  refine Wp.ret ?_
  refine ⟨.inr rfl, (AV.map h.n), (ret_one (res_tmp (by kernel_rfl) res_nil)), ?_⟩
  dsimp only
  exact ⟨rfl, hG, hE⟩

theorem find_no {n : Int} (h : n ≠ 200 ∧ n ≠ 400 ∧ n ≠ 404 ∧ n ≠ 405 ∧ n ≠ 500 ∧ n ≠ 503) : findKey .num (.int .i64 n) es6 0 = some none := by
  obtain ⟨h1, h2, h3, h4, h5, h6⟩ := h
  have b1 : (n == 200) = false := by simpa using h1
  have b2 : (n == 400) = false := by simpa using h2
  have b3 : (n == 404) = false := by simpa using h3
  have b4 : (n == 405) = false := by simpa using h4
  have b5 : (n == 500) = false := by simpa using h5
  have b6 : (n == 503) = false := by simpa using h6
  simp [es6, findKey, eqv, b1, b2, b3, b4, b5, b6]

set_option maxHeartbeats 4000000 in
theorem wordsP_run (h : H) (n : Int) : ∃ r h', Runs TF 14 [.int .i64 n] h r h' ∧ r = .str (Re.words n) ∧ Ext h h' := by
  refine Runs.ofP f14 rfl ?_
  obtain ⟨r, h1, c1, rfl, p1, x1⟩ := map_run h
  rcases words_cases n with hc | hc
  · rcases hc with rfl | rfl | rfl | rfl | rfl | rfl
    · have m1 := x1.1
      refine Wp.seq ?_
      refine Wp.region ?_
      refine Wo.pre 1 (by kernel_rfl) ?_
      refine Wo.nil ?_
      refine Wp.seq ?_
      refine Wp.region ?_
      refine Wo.call (by kernel_rfl) (by kernel_rfl) c1 ?_
      clear c1
      refine Wo.pre 1 (by kernel_rfl) ?_
      refine Wo.val (.str (Re.words 200)) h1 (by kernel_rfl) (look_hit (i := 0) (k := .int .i64 200) p1 (by kernel_rfl) (by kernel_rfl) (by kernel_rfl)) ?_
      refine Wo.pre 1 (by kernel_rfl) ?_
      refine Wo.nil ?_
      refine Wp.ret ?_
      refine ⟨.inr rfl, (AV.str [79, 75]), (ret_one (res_tmp (by kernel_rfl) res_nil)), ?_⟩
      dsimp only
      exact ⟨rfl, x1⟩
    · have m1 := x1.1
      refine Wp.seq ?_
      refine Wp.region ?_
      refine Wo.pre 1 (by kernel_rfl) ?_
      refine Wo.nil ?_
      refine Wp.seq ?_
      refine Wp.region ?_
      refine Wo.call (by kernel_rfl) (by kernel_rfl) c1 ?_
      clear c1
      refine Wo.pre 1 (by kernel_rfl) ?_
      refine Wo.val (.str (Re.words 400)) h1 (by kernel_rfl) (look_hit (i := 1) (k := .int .i64 400) p1 (by kernel_rfl) (by kernel_rfl) (by kernel_rfl)) ?_
      refine Wo.pre 1 (by kernel_rfl) ?_
      refine Wo.nil ?_
      refine Wp.ret ?_
      refine ⟨.inr rfl, (AV.str [66, 97, 100, 32, 82, 101, 113, 117, 101, 115, 116]), (ret_one (res_tmp (by kernel_rfl) res_nil)), ?_⟩
      dsimp only
      exact ⟨rfl, x1⟩
    · have m1 := x1.1
      refine Wp.seq ?_
      refine Wp.region ?_
      refine Wo.pre 1 (by kernel_rfl) ?_
      refine Wo.nil ?_
      refine Wp.seq ?_
      refine Wp.region ?_
      refine Wo.call (by kernel_rfl) (by kernel_rfl) c1 ?_
      clear c1
      refine Wo.pre 1 (by kernel_rfl) ?_
      refine Wo.val (.str (Re.words 404)) h1 (by kernel_rfl) (look_hit (i := 2) (k := .int .i64 404) p1 (by kernel_rfl) (by kernel_rfl) (by kernel_rfl)) ?_
      refine Wo.pre 1 (by kernel_rfl) ?_
      refine Wo.nil ?_
      refine Wp.ret ?_
      refine ⟨.inr rfl, (AV.str [78, 111, 116, 32, 70, 111, 117, 110, 100]), (ret_one (res_tmp (by kernel_rfl) res_nil)), ?_⟩
      dsimp only
      exact ⟨rfl, x1⟩
    · have m1 := x1.1
      refine Wp.seq ?_
      refine Wp.region ?_
      refine Wo.pre 1 (by kernel_rfl) ?_
      refine Wo.nil ?_
      refine Wp.seq ?_
      refine Wp.region ?_
      refine Wo.call (by kernel_rfl) (by kernel_rfl) c1 ?_
      clear c1
      refine Wo.pre 1 (by kernel_rfl) ?_
      refine Wo.val (.str (Re.words 405)) h1 (by kernel_rfl) (look_hit (i := 3) (k := .int .i64 405) p1 (by kernel_rfl) (by kernel_rfl) (by kernel_rfl)) ?_
      refine Wo.pre 1 (by kernel_rfl) ?_
      refine Wo.nil ?_
      refine Wp.ret ?_
      refine ⟨.inr rfl, (AV.str [77, 101, 116, 104, 111, 100, 32, 78, 111, 116, 32, 65, 108, 108, 111, 119, 101, 100]), (ret_one (res_tmp (by kernel_rfl) res_nil)), ?_⟩
      dsimp only
      exact ⟨rfl, x1⟩
    · have m1 := x1.1
      refine Wp.seq ?_
      refine Wp.region ?_
      refine Wo.pre 1 (by kernel_rfl) ?_
      refine Wo.nil ?_
      refine Wp.seq ?_
      refine Wp.region ?_
      refine Wo.call (by kernel_rfl) (by kernel_rfl) c1 ?_
      clear c1
      refine Wo.pre 1 (by kernel_rfl) ?_
      refine Wo.val (.str (Re.words 500)) h1 (by kernel_rfl) (look_hit (i := 4) (k := .int .i64 500) p1 (by kernel_rfl) (by kernel_rfl) (by kernel_rfl)) ?_
      refine Wo.pre 1 (by kernel_rfl) ?_
      refine Wo.nil ?_
      refine Wp.ret ?_
      refine ⟨.inr rfl, (AV.str [73, 110, 116, 101, 114, 110, 97, 108, 32, 83, 101, 114, 118, 101, 114, 32, 69, 114, 114, 111, 114]), (ret_one (res_tmp (by kernel_rfl) res_nil)), ?_⟩
      dsimp only
      exact ⟨rfl, x1⟩
    · have m1 := x1.1
      refine Wp.seq ?_
      refine Wp.region ?_
      refine Wo.pre 1 (by kernel_rfl) ?_
      refine Wo.nil ?_
      refine Wp.seq ?_
      refine Wp.region ?_
      refine Wo.call (by kernel_rfl) (by kernel_rfl) c1 ?_
      clear c1
      refine Wo.pre 1 (by kernel_rfl) ?_
      refine Wo.val (.str (Re.words 503)) h1 (by kernel_rfl) (look_hit (i := 5) (k := .int .i64 503) p1 (by kernel_rfl) (by kernel_rfl) (by kernel_rfl)) ?_
      refine Wo.pre 1 (by kernel_rfl) ?_
      refine Wo.nil ?_
      refine Wp.ret ?_
      refine ⟨.inr rfl, (AV.str [83, 101, 114, 118, 105, 99, 101, 32, 85, 110, 97, 118, 97, 105, 108, 97, 98, 108, 101]), (ret_one (res_tmp (by kernel_rfl) res_nil)), ?_⟩
      dsimp only
      exact ⟨rfl, x1⟩
  · have hf := find_no hc
    rw [words_none hc]
    have m1 := x1.1
    refine Wp.seq ?_
    refine Wp.region ?_
    refine Wo.pre 1 (by kernel_rfl) ?_
    refine Wo.nil ?_
    refine Wp.seq ?_
    refine Wp.region ?_
    refine Wo.call (by kernel_rfl) (by kernel_rfl) c1 ?_
    clear c1
    refine Wo.pre 1 (by kernel_rfl) ?_
    refine Wo.val (.str []) h1 (by kernel_rfl) (look_no (k := .int .i64 n) p1 (by kernel_rfl) (by kernel_rfl) hf) ?_
    refine Wo.pre 1 (by kernel_rfl) ?_
    refine Wo.nil ?_
    refine Wp.ret ?_
    refine ⟨.inr rfl, (AV.str []), (ret_one (res_tmp (by kernel_rfl) res_nil)), ?_⟩
    dsimp only
    exact ⟨rfl, x1⟩

/-- The closure that tells of more. -/
theorem more_run (h : H) (b : Bool) : ∃ r h', Runs TF 18 [.bool b] h r h' ∧ r = .tup [.agg [.int .i64 0, .nils, .bool false], .int .i64 0, .int .i64 (if b then 44 else 5)] ∧ Ext h h' := by
  refine Runs.ofP f18 rfl ?_
  cases b
  · refine Wp.seq ?_
    refine Wp.region ?_
    obtain ⟨H1, e1, P1, X1, n1⟩ := pt_new h 24 [AV.int IntKind.i64 0, AV.nils, AV.bool false] (ones_cons rfl (ones_cons rfl (ones_cons rfl ones_nil)))
    refine Wo.val (.ptr ⟨H.n h, 0, 0⟩) H1 (by kernel_rfl) (e1 (v := AV.agg [AV.int IntKind.i64 0, AV.nils, AV.bool false]) (by kernel_rfl) rfl) ?_
    clear e1
    have m2 := X1.1
    refine Wo.pre 2 (by kernel_rfl) ?_
    refine Wo.nil ?_
    refine Wp.seq ?_
    refine Wp.seq ?_
    refine Wp.region ?_
    refine Wo.pre 1 (by kernel_rfl) ?_
    refine Wo.nil ?_
    refine Wp.cond false (by kernel_rfl) ?_
    refine Wp.skip ?_
    refine Wp.seq ?_
    refine Wp.region ?_
    refine Wo.val (.agg [AV.int IntKind.i64 0, AV.nils, AV.bool false]) H1 (by kernel_rfl) (iop_buildP rfl) ?_
    obtain ⟨H3, e3, P3, X3, n3⟩ := P1.st 0 [AV.int IntKind.i64 0, AV.nils, AV.bool false] (by simp) (ones_cons rfl (ones_cons rfl (ones_cons rfl ones_nil)))
    refine Wo.val .undef H3 (by kernel_rfl) (iop_stP (a := { b := h.n, g := 0, o := 0 }) (v := AV.agg [AV.int IntKind.i64 0, AV.nils, AV.bool false]) (vs := [AV.int IntKind.i64 0, AV.nils, AV.bool false]) (by kernel_rfl) (by kernel_rfl) rfl rfl e3) ?_
    have m4 := X3.1
    replace P3 : Pt H3 h.n (Blk.cells 0 24 [AV.int IntKind.i64 0, AV.nils, AV.bool false] 0 false) := P3
    refine Wo.pre 2 (by kernel_rfl) ?_
    refine Wo.nil ?_
    refine Wp.ret ?_
    refine ⟨.inr rfl, (.tup [AV.agg [AV.int IntKind.i64 0, AV.nils, AV.bool false], AV.int IntKind.i64 0, AV.int IntKind.i64 5]), (ret_many (res_cell (a := { b := h.n, g := 0, o := 0 }) (by kernel_rfl) (P3.ld rfl (by kernel_rfl)) (res_tmp (by kernel_rfl) (res_tmp (by kernel_rfl) res_nil))) rfl), ?_⟩
    dsimp only
    exact ⟨rfl, ((X1.transL X3).ext (by intro s hs; first | omega | (dsimp only at hs; omega) | (simp only [blk_nils, blk_sl] at hs ⊢; omega)))⟩
  · refine Wp.seq ?_
    refine Wp.region ?_
    obtain ⟨H1, e1, P1, X1, n1⟩ := pt_new h 24 [AV.int IntKind.i64 0, AV.nils, AV.bool false] (ones_cons rfl (ones_cons rfl (ones_cons rfl ones_nil)))
    refine Wo.val (.ptr ⟨H.n h, 0, 0⟩) H1 (by kernel_rfl) (e1 (v := AV.agg [AV.int IntKind.i64 0, AV.nils, AV.bool false]) (by kernel_rfl) rfl) ?_
    clear e1
    have m2 := X1.1
    refine Wo.pre 2 (by kernel_rfl) ?_
    refine Wo.nil ?_
    refine Wp.seq ?_
    refine Wp.seq ?_
    refine Wp.region ?_
    refine Wo.pre 1 (by kernel_rfl) ?_
    refine Wo.nil ?_
    refine Wp.cond true (by kernel_rfl) ?_
    refine Wp.seq ?_
    refine Wp.region ?_
    refine Wo.val (.agg [AV.int IntKind.i64 0, AV.nils, AV.bool false]) H1 (by kernel_rfl) (iop_buildP rfl) ?_
    obtain ⟨H3, e3, P3, X3, n3⟩ := P1.st 0 [AV.int IntKind.i64 0, AV.nils, AV.bool false] (by simp) (ones_cons rfl (ones_cons rfl (ones_cons rfl ones_nil)))
    refine Wo.val .undef H3 (by kernel_rfl) (iop_stP (a := { b := h.n, g := 0, o := 0 }) (v := AV.agg [AV.int IntKind.i64 0, AV.nils, AV.bool false]) (vs := [AV.int IntKind.i64 0, AV.nils, AV.bool false]) (by kernel_rfl) (by kernel_rfl) rfl rfl e3) ?_
    have m4 := X3.1
    replace P3 : Pt H3 h.n (Blk.cells 0 24 [AV.int IntKind.i64 0, AV.nils, AV.bool false] 0 false) := P3
    refine Wo.pre 2 (by kernel_rfl) ?_
    refine Wo.nil ?_
    refine Wp.ret ?_
    refine ⟨.inr rfl, (.tup [AV.agg [AV.int IntKind.i64 0, AV.nils, AV.bool false], AV.int IntKind.i64 0, AV.int IntKind.i64 44]), (ret_many (res_cell (a := { b := h.n, g := 0, o := 0 }) (by kernel_rfl) (P3.ld rfl (by kernel_rfl)) (res_tmp (by kernel_rfl) (res_tmp (by kernel_rfl) res_nil))) rfl), ?_⟩
    dsimp only
    exact ⟨rfl, ((X1.transL X3).ext (by intro s hs; first | omega | (dsimp only at hs; omega) | (simp only [blk_nils, blk_sl] at hs ⊢; omega)))⟩

set_option maxHeartbeats 4000000 in
/-- Whether two replies say the same. -/
theorem sameP_run {h : H} {s s' : Int} {x x' : AV} {c c' : Bool} {l l' : List UInt8} (hx : Bs h x l) (hx' : Bs h x' l') : ∃ r h', Runs TF 16 [.agg [.int .i64 s, x, .bool c], .agg [.int .i64 s', x', .bool c']] h r h' ∧ r = .bool (decide (s = s') && (decide (c = c') && (l == l'))) ∧ Ext h h' := by
  refine Runs.ofP f16 rfl ?_
  by_cases hs : s = s'
  · by_cases hc : c = c'
    · obtain ⟨b, hb⟩ : ∃ b, b = (l == l') := ⟨_, rfl⟩
      rw [decide_eq_true hs, decide_eq_true hc, ← hb]
      subst hs; subst hc
      cases c
      · have m1 := hx.bq
        have k2 := hx.parts
        have m3 := hx'.bq
        have k4 := hx'.parts
        refine Wp.seq ?_
        refine Wp.region ?_
        obtain ⟨H5, e5, P5, X5, n5⟩ := pt_new h 24 [AV.int IntKind.i64 s, x, AV.bool false] (ones_cons rfl (ones_cons k2.2.1 (ones_cons rfl ones_nil)))
        refine Wo.val (.ptr ⟨H.n h, 0, 0⟩) H5 (by kernel_rfl) (e5 (v := AV.agg [AV.int IntKind.i64 s, x, AV.bool false]) (by kernel_rfl) rfl) ?_
        clear e5
        have m6 := X5.1
        obtain ⟨H7, e7, P7, X7, n7⟩ := pt_new H5 24 [AV.int IntKind.i64 s, x', AV.bool false] (ones_cons rfl (ones_cons k4.2.1 (ones_cons rfl ones_nil)))
        refine Wo.val (.ptr ⟨H.n H5, 0, 0⟩) H7 (by kernel_rfl) (e7 (v := AV.agg [AV.int IntKind.i64 s, x', AV.bool false]) (by kernel_rfl) rfl) ?_
        clear e7
        have m8 := X7.1
        refine Wo.pre 1 (by kernel_rfl) ?_
        refine Wo.nil ?_
        refine Wp.seq ?_
        refine Wp.region ?_
        refine Wo.pre 1 (by kernel_rfl) ?_
        have F9 := (P5.fr X7 id)
        refine Wo.val (AV.int IntKind.i64 s) H7 (by kernel_rfl) (iop_ldP F9 (a := { b := h.n, g := 0, o := 0 }) (by kernel_rfl) rfl (by kernel_rfl)) ?_
        refine Wo.pre 1 (by kernel_rfl) ?_
        refine Wo.val (AV.int IntKind.i64 s) H7 (by kernel_rfl) (iop_ldP P7 (a := { b := H5.n, g := 0, o := 0 }) (by kernel_rfl) rfl (by kernel_rfl)) ?_
        refine Wo.cmp (op := .eql) (x := IX.t 6) (y := IX.t 8) (k := IntKind.i64) (a := s) (b := s) ((s : Int) = (s : Int)) (by kernel_rfl) (by kernel_rfl) (by kernel_rfl) (by kernel_rfl) (by simp) (by kernel_rfl) (fun q10 => ?_) (fun q10 => ?_)
        rotate_left
        · (exfalso; omega)
        have m11 := P5.1
        have m12 := P7.1
        have m13 := F9.1
        refine Wo.pre 2 (by kernel_rfl) ?_
        refine Wo.val (AV.bool false) H7 (by kernel_rfl) (iop_ldP F9 (a := { b := h.n, g := 0, o := 2 }) (by kernel_rfl) rfl (by kernel_rfl)) ?_
        refine Wo.pre 1 (by kernel_rfl) ?_
        refine Wo.val (AV.bool false) H7 (by kernel_rfl) (iop_ldP P7 (a := { b := H5.n, g := 0, o := 2 }) (by kernel_rfl) rfl (by kernel_rfl)) ?_
        refine Wo.pre 4 (by kernel_rfl) ?_
        refine Wo.val (x) H7 (by kernel_rfl) (iop_ldP F9 (a := { b := h.n, g := 0, o := 1 }) (by kernel_rfl) rfl (by kernel_rfl)) ?_
        refine Wo.pre 1 (by kernel_rfl) ?_
        refine Wo.val (x') H7 (by kernel_rfl) (iop_ldP P7 (a := { b := H5.n, g := 0, o := 1 }) (by kernel_rfl) rfl (by kernel_rfl)) ?_
        have F14 := (hx.fr (X5.trans0 X7) (.inr id))
        have F15 := (hx'.fr (X5.trans0 X7) (.inr id))
        have c16 := equal_run F14 F15
        refine Wo.call (by kernel_rfl) (by kernel_rfl) c16 ?_
        clear c16
        refine Wo.boolS (fun q17 => ?_) (fun q17 => ?_)
        · skip
          have m18 := F14.bq
          have k19 := F14.parts
          have m20 := F15.bq
          have k21 := F15.parts
          refine Wo.pre 2 (by kernel_rfl) ?_
          refine Wo.nil ?_
          refine Wp.ret ?_
          refine ⟨.inr rfl, (AV.bool true), (ret_one (res_tmp (by kernel_rfl) res_nil)), ?_⟩
          dsimp only
          exact ⟨congrArg AV.bool (hb.trans (by with_reducible assumption)).symm, ((X5.trans0 X7).ext0)⟩
        · skip
          have m22 := F14.bq
          have k23 := F14.parts
          have m24 := F15.bq
          have k25 := F15.parts
          refine Wo.pre 2 (by kernel_rfl) ?_
          refine Wo.nil ?_
          refine Wp.ret ?_
          refine ⟨.inr rfl, (AV.bool false), (ret_one (res_tmp (by kernel_rfl) res_nil)), ?_⟩
          dsimp only
          exact ⟨congrArg AV.bool (hb.trans (by with_reducible assumption)).symm, ((X5.trans0 X7).ext0)⟩
      · have m1 := hx.bq
        have k2 := hx.parts
        have m3 := hx'.bq
        have k4 := hx'.parts
        refine Wp.seq ?_
        refine Wp.region ?_
        obtain ⟨H5, e5, P5, X5, n5⟩ := pt_new h 24 [AV.int IntKind.i64 s, x, AV.bool true] (ones_cons rfl (ones_cons k2.2.1 (ones_cons rfl ones_nil)))
        refine Wo.val (.ptr ⟨H.n h, 0, 0⟩) H5 (by kernel_rfl) (e5 (v := AV.agg [AV.int IntKind.i64 s, x, AV.bool true]) (by kernel_rfl) rfl) ?_
        clear e5
        have m6 := X5.1
        obtain ⟨H7, e7, P7, X7, n7⟩ := pt_new H5 24 [AV.int IntKind.i64 s, x', AV.bool true] (ones_cons rfl (ones_cons k4.2.1 (ones_cons rfl ones_nil)))
        refine Wo.val (.ptr ⟨H.n H5, 0, 0⟩) H7 (by kernel_rfl) (e7 (v := AV.agg [AV.int IntKind.i64 s, x', AV.bool true]) (by kernel_rfl) rfl) ?_
        clear e7
        have m8 := X7.1
        refine Wo.pre 1 (by kernel_rfl) ?_
        refine Wo.nil ?_
        refine Wp.seq ?_
        refine Wp.region ?_
        refine Wo.pre 1 (by kernel_rfl) ?_
        have F9 := (P5.fr X7 id)
        refine Wo.val (AV.int IntKind.i64 s) H7 (by kernel_rfl) (iop_ldP F9 (a := { b := h.n, g := 0, o := 0 }) (by kernel_rfl) rfl (by kernel_rfl)) ?_
        refine Wo.pre 1 (by kernel_rfl) ?_
        refine Wo.val (AV.int IntKind.i64 s) H7 (by kernel_rfl) (iop_ldP P7 (a := { b := H5.n, g := 0, o := 0 }) (by kernel_rfl) rfl (by kernel_rfl)) ?_
        refine Wo.cmp (op := .eql) (x := IX.t 6) (y := IX.t 8) (k := IntKind.i64) (a := s) (b := s) ((s : Int) = (s : Int)) (by kernel_rfl) (by kernel_rfl) (by kernel_rfl) (by kernel_rfl) (by simp) (by kernel_rfl) (fun q10 => ?_) (fun q10 => ?_)
        rotate_left
        · (exfalso; omega)
        have m11 := P5.1
        have m12 := P7.1
        have m13 := F9.1
        refine Wo.pre 2 (by kernel_rfl) ?_
        refine Wo.val (AV.bool true) H7 (by kernel_rfl) (iop_ldP F9 (a := { b := h.n, g := 0, o := 2 }) (by kernel_rfl) rfl (by kernel_rfl)) ?_
        refine Wo.pre 1 (by kernel_rfl) ?_
        refine Wo.val (AV.bool true) H7 (by kernel_rfl) (iop_ldP P7 (a := { b := H5.n, g := 0, o := 2 }) (by kernel_rfl) rfl (by kernel_rfl)) ?_
        refine Wo.pre 4 (by kernel_rfl) ?_
        refine Wo.val (x) H7 (by kernel_rfl) (iop_ldP F9 (a := { b := h.n, g := 0, o := 1 }) (by kernel_rfl) rfl (by kernel_rfl)) ?_
        refine Wo.pre 1 (by kernel_rfl) ?_
        refine Wo.val (x') H7 (by kernel_rfl) (iop_ldP P7 (a := { b := H5.n, g := 0, o := 1 }) (by kernel_rfl) rfl (by kernel_rfl)) ?_
        have F14 := (hx.fr (X5.trans0 X7) (.inr id))
        have F15 := (hx'.fr (X5.trans0 X7) (.inr id))
        have c16 := equal_run F14 F15
        refine Wo.call (by kernel_rfl) (by kernel_rfl) c16 ?_
        clear c16
        refine Wo.boolS (fun q17 => ?_) (fun q17 => ?_)
        · skip
          have m18 := F14.bq
          have k19 := F14.parts
          have m20 := F15.bq
          have k21 := F15.parts
          refine Wo.pre 2 (by kernel_rfl) ?_
          refine Wo.nil ?_
          refine Wp.ret ?_
          refine ⟨.inr rfl, (AV.bool true), (ret_one (res_tmp (by kernel_rfl) res_nil)), ?_⟩
          dsimp only
          exact ⟨congrArg AV.bool (hb.trans (by with_reducible assumption)).symm, ((X5.trans0 X7).ext0)⟩
        · skip
          have m22 := F14.bq
          have k23 := F14.parts
          have m24 := F15.bq
          have k25 := F15.parts
          refine Wo.pre 2 (by kernel_rfl) ?_
          refine Wo.nil ?_
          refine Wp.ret ?_
          refine ⟨.inr rfl, (AV.bool false), (ret_one (res_tmp (by kernel_rfl) res_nil)), ?_⟩
          dsimp only
          exact ⟨congrArg AV.bool (hb.trans (by with_reducible assumption)).symm, ((X5.trans0 X7).ext0)⟩
    · rw [decide_eq_true hs, decide_eq_false hc]
      subst hs
      cases c <;> cases c'
      · exact absurd rfl hc
      · have m1 := hx.bq
        have k2 := hx.parts
        have m3 := hx'.bq
        have k4 := hx'.parts
        refine Wp.seq ?_
        refine Wp.region ?_
        obtain ⟨H5, e5, P5, X5, n5⟩ := pt_new h 24 [AV.int IntKind.i64 s, x, AV.bool false] (ones_cons rfl (ones_cons k2.2.1 (ones_cons rfl ones_nil)))
        refine Wo.val (.ptr ⟨H.n h, 0, 0⟩) H5 (by kernel_rfl) (e5 (v := AV.agg [AV.int IntKind.i64 s, x, AV.bool false]) (by kernel_rfl) rfl) ?_
        clear e5
        have m6 := X5.1
        obtain ⟨H7, e7, P7, X7, n7⟩ := pt_new H5 24 [AV.int IntKind.i64 s, x', AV.bool true] (ones_cons rfl (ones_cons k4.2.1 (ones_cons rfl ones_nil)))
        refine Wo.val (.ptr ⟨H.n H5, 0, 0⟩) H7 (by kernel_rfl) (e7 (v := AV.agg [AV.int IntKind.i64 s, x', AV.bool true]) (by kernel_rfl) rfl) ?_
        clear e7
        have m8 := X7.1
        refine Wo.pre 1 (by kernel_rfl) ?_
        refine Wo.nil ?_
        refine Wp.seq ?_
        refine Wp.region ?_
        refine Wo.pre 1 (by kernel_rfl) ?_
        have F9 := (P5.fr X7 id)
        refine Wo.val (AV.int IntKind.i64 s) H7 (by kernel_rfl) (iop_ldP F9 (a := { b := h.n, g := 0, o := 0 }) (by kernel_rfl) rfl (by kernel_rfl)) ?_
        refine Wo.pre 1 (by kernel_rfl) ?_
        refine Wo.val (AV.int IntKind.i64 s) H7 (by kernel_rfl) (iop_ldP P7 (a := { b := H5.n, g := 0, o := 0 }) (by kernel_rfl) rfl (by kernel_rfl)) ?_
        refine Wo.cmp (op := .eql) (x := IX.t 6) (y := IX.t 8) (k := IntKind.i64) (a := s) (b := s) ((s : Int) = (s : Int)) (by kernel_rfl) (by kernel_rfl) (by kernel_rfl) (by kernel_rfl) (by simp) (by kernel_rfl) (fun q10 => ?_) (fun q10 => ?_)
        rotate_left
        · (exfalso; omega)
        have m11 := P5.1
        have m12 := P7.1
        have m13 := F9.1
        refine Wo.pre 2 (by kernel_rfl) ?_
        refine Wo.val (AV.bool false) H7 (by kernel_rfl) (iop_ldP F9 (a := { b := h.n, g := 0, o := 2 }) (by kernel_rfl) rfl (by kernel_rfl)) ?_
        refine Wo.pre 1 (by kernel_rfl) ?_
        refine Wo.val (AV.bool true) H7 (by kernel_rfl) (iop_ldP P7 (a := { b := H5.n, g := 0, o := 2 }) (by kernel_rfl) rfl (by kernel_rfl)) ?_
        refine Wo.pre 4 (by kernel_rfl) ?_
        refine Wo.pre 1 (by kernel_rfl) ?_
        refine Wo.pre 1 (by kernel_rfl) ?_
        refine Wo.pre 1 (by kernel_rfl) ?_
        refine Wo.pre 1 (by kernel_rfl) ?_
        refine Wo.pre 2 (by kernel_rfl) ?_
        refine Wo.nil ?_
        refine Wp.ret ?_
        refine ⟨.inr rfl, (AV.bool false), (ret_one (res_tmp (by kernel_rfl) res_nil)), ?_⟩
        dsimp only
        exact ⟨rfl, ((X5.trans0 X7).ext0)⟩
      · have m1 := hx.bq
        have k2 := hx.parts
        have m3 := hx'.bq
        have k4 := hx'.parts
        refine Wp.seq ?_
        refine Wp.region ?_
        obtain ⟨H5, e5, P5, X5, n5⟩ := pt_new h 24 [AV.int IntKind.i64 s, x, AV.bool true] (ones_cons rfl (ones_cons k2.2.1 (ones_cons rfl ones_nil)))
        refine Wo.val (.ptr ⟨H.n h, 0, 0⟩) H5 (by kernel_rfl) (e5 (v := AV.agg [AV.int IntKind.i64 s, x, AV.bool true]) (by kernel_rfl) rfl) ?_
        clear e5
        have m6 := X5.1
        obtain ⟨H7, e7, P7, X7, n7⟩ := pt_new H5 24 [AV.int IntKind.i64 s, x', AV.bool false] (ones_cons rfl (ones_cons k4.2.1 (ones_cons rfl ones_nil)))
        refine Wo.val (.ptr ⟨H.n H5, 0, 0⟩) H7 (by kernel_rfl) (e7 (v := AV.agg [AV.int IntKind.i64 s, x', AV.bool false]) (by kernel_rfl) rfl) ?_
        clear e7
        have m8 := X7.1
        refine Wo.pre 1 (by kernel_rfl) ?_
        refine Wo.nil ?_
        refine Wp.seq ?_
        refine Wp.region ?_
        refine Wo.pre 1 (by kernel_rfl) ?_
        have F9 := (P5.fr X7 id)
        refine Wo.val (AV.int IntKind.i64 s) H7 (by kernel_rfl) (iop_ldP F9 (a := { b := h.n, g := 0, o := 0 }) (by kernel_rfl) rfl (by kernel_rfl)) ?_
        refine Wo.pre 1 (by kernel_rfl) ?_
        refine Wo.val (AV.int IntKind.i64 s) H7 (by kernel_rfl) (iop_ldP P7 (a := { b := H5.n, g := 0, o := 0 }) (by kernel_rfl) rfl (by kernel_rfl)) ?_
        refine Wo.cmp (op := .eql) (x := IX.t 6) (y := IX.t 8) (k := IntKind.i64) (a := s) (b := s) ((s : Int) = (s : Int)) (by kernel_rfl) (by kernel_rfl) (by kernel_rfl) (by kernel_rfl) (by simp) (by kernel_rfl) (fun q10 => ?_) (fun q10 => ?_)
        rotate_left
        · (exfalso; omega)
        have m11 := P5.1
        have m12 := P7.1
        have m13 := F9.1
        refine Wo.pre 2 (by kernel_rfl) ?_
        refine Wo.val (AV.bool true) H7 (by kernel_rfl) (iop_ldP F9 (a := { b := h.n, g := 0, o := 2 }) (by kernel_rfl) rfl (by kernel_rfl)) ?_
        refine Wo.pre 1 (by kernel_rfl) ?_
        refine Wo.val (AV.bool false) H7 (by kernel_rfl) (iop_ldP P7 (a := { b := H5.n, g := 0, o := 2 }) (by kernel_rfl) rfl (by kernel_rfl)) ?_
        refine Wo.pre 4 (by kernel_rfl) ?_
        refine Wo.pre 1 (by kernel_rfl) ?_
        refine Wo.pre 1 (by kernel_rfl) ?_
        refine Wo.pre 1 (by kernel_rfl) ?_
        refine Wo.pre 1 (by kernel_rfl) ?_
        refine Wo.pre 2 (by kernel_rfl) ?_
        refine Wo.nil ?_
        refine Wp.ret ?_
        refine ⟨.inr rfl, (AV.bool false), (ret_one (res_tmp (by kernel_rfl) res_nil)), ?_⟩
        dsimp only
        exact ⟨rfl, ((X5.trans0 X7).ext0)⟩
      · exact absurd rfl hc
  · rw [decide_eq_false hs]
    have m1 := hx.bq
    have k2 := hx.parts
    have m3 := hx'.bq
    have k4 := hx'.parts
    refine Wp.seq ?_
    refine Wp.region ?_
    obtain ⟨H5, e5, P5, X5, n5⟩ := pt_new h 24 [AV.int IntKind.i64 s, x, AV.bool c] (ones_cons rfl (ones_cons k2.2.1 (ones_cons rfl ones_nil)))
    refine Wo.val (.ptr ⟨H.n h, 0, 0⟩) H5 (by kernel_rfl) (e5 (v := AV.agg [AV.int IntKind.i64 s, x, AV.bool c]) (by kernel_rfl) rfl) ?_
    clear e5
    have m6 := X5.1
    obtain ⟨H7, e7, P7, X7, n7⟩ := pt_new H5 24 [AV.int IntKind.i64 s', x', AV.bool c'] (ones_cons rfl (ones_cons k4.2.1 (ones_cons rfl ones_nil)))
    refine Wo.val (.ptr ⟨H.n H5, 0, 0⟩) H7 (by kernel_rfl) (e7 (v := AV.agg [AV.int IntKind.i64 s', x', AV.bool c']) (by kernel_rfl) rfl) ?_
    clear e7
    have m8 := X7.1
    refine Wo.pre 1 (by kernel_rfl) ?_
    refine Wo.nil ?_
    refine Wp.seq ?_
    refine Wp.region ?_
    refine Wo.pre 1 (by kernel_rfl) ?_
    have F9 := (P5.fr X7 id)
    refine Wo.val (AV.int IntKind.i64 s) H7 (by kernel_rfl) (iop_ldP F9 (a := { b := h.n, g := 0, o := 0 }) (by kernel_rfl) rfl (by kernel_rfl)) ?_
    refine Wo.pre 1 (by kernel_rfl) ?_
    refine Wo.val (AV.int IntKind.i64 s') H7 (by kernel_rfl) (iop_ldP P7 (a := { b := H5.n, g := 0, o := 0 }) (by kernel_rfl) rfl (by kernel_rfl)) ?_
    refine Wo.cmp (op := .eql) (x := IX.t 6) (y := IX.t 8) (k := IntKind.i64) (a := s) (b := s') ((s : Int) = (s' : Int)) (by kernel_rfl) (by kernel_rfl) (by kernel_rfl) (by kernel_rfl) (by simp) (by kernel_rfl) (fun q10 => ?_) (fun q10 => ?_)
    · (exfalso; omega)
    have m11 := P5.1
    have m12 := P7.1
    have m13 := F9.1
    refine Wo.pre 2 (by kernel_rfl) ?_
    refine Wo.pre 1 (by kernel_rfl) ?_
    refine Wo.pre 1 (by kernel_rfl) ?_
    refine Wo.pre 1 (by kernel_rfl) ?_
    refine Wo.pre 1 (by kernel_rfl) ?_
    refine Wo.pre 3 (by kernel_rfl) ?_
    refine Wo.pre 1 (by kernel_rfl) ?_
    refine Wo.pre 1 (by kernel_rfl) ?_
    refine Wo.pre 1 (by kernel_rfl) ?_
    refine Wo.pre 1 (by kernel_rfl) ?_
    refine Wo.pre 2 (by kernel_rfl) ?_
    refine Wo.nil ?_
    refine Wp.ret ?_
    refine ⟨.inr rfl, (AV.bool false), (ret_one (res_tmp (by kernel_rfl) res_nil)), ?_⟩
    dsimp only
    exact ⟨rfl, ((X5.trans0 X7).ext0)⟩
end Go.Det
