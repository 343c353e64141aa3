/- Reply: the document's bytes; whether two say the same: the walks. -/
import Derived.Test.YtcobmomjdbmacaaDoorre6
set_option linter.unusedVariables false
set_option linter.unusedSimpArgs false
set_option linter.unusedSectionVars false
namespace Go.Det
open Go.Proofs
attribute [local irreducible] Wp Wo Wd iop ev slots quiets wanted put

set_option maxHeartbeats 8000000 in
theorem putR_ok {h : H} {k : Nat} {x : AV} {l : List UInt8} (hk : k ≤ 1000) (hw : Re.words (k : Int) ≠ []) (hx : Bs h x l) (hl : l.length ≤ 1048576) (c : Bool) : ∃ r h', Runs TF 13 [.int .i64 ((k : Nat) : Int), x, .bool c] h r h' ∧ Ext h h' ∧ Ow h.n h' r (Re.head k l.length c ++ l) := by
  have hmx : 200000000000000 = maxRow := rfl
  have hhl : (Re.head k l.length c).length ≤ 1000 := by
    have d1 := dec_len20 k
    have d2 := dec_len20 l.length
    have d3 := words_len (k : Int)
    have hv : Re.ver.length = 9 := rfl
    have hk : Re.kind.length = 50 := rfl
    have he := Re.ending_len c
    simp only [Re.head, Re.line, List.length_append, List.length_cons, List.length_nil]
    omega
  refine Runs.ofP f13 rfl ?_
  have m1 := hx.bq
  have k2 := hx.parts
  refine Wp.seq ?_
  refine Wp.region ?_
  refine Wo.pre 1 (by kernel_rfl) ?_
  refine Wo.nil ?_
  refine Wp.seq ?_
  refine Wp.seq ?_
  refine Wp.region ?_
  refine Wo.pre 1 (by kernel_rfl) ?_
  have c3 := wordsR_run (h) (↑k)
  refine Wo.call (by kernel_rfl) (by kernel_rfl) c3 ?_
  clear c3
  refine Wo.cmpS (x := IX.t 9) (y := IX.c (AV.str [])) (a := Re.words ↑k) (b := []) (by kernel_rfl) (by kernel_rfl) (by kernel_rfl) (by kernel_rfl) (fun q4 => ?_) (fun q4 => ?_)
  · exact absurd (by with_reducible assumption) hw
  refine Wo.pre 2 (by kernel_rfl) ?_
  refine Wo.val (.int .i64 (List.length (l) : Nat)) h (by kernel_rfl) (Bs.len hx (by kernel_rfl)) ?_
  refine Wo.cmp (op := .gtr) (x := IX.t 13) (y := IX.c (AV.int IntKind.i64 1048576)) (k := IntKind.i64) (a := ↑l.length) (b := 1048576) ((↑l.length : Int) > (1048576 : Int)) (by kernel_rfl) (by kernel_rfl) (by kernel_rfl) (by kernel_rfl) (by simp) (by kernel_rfl) (fun q5 => ?_) (fun q5 => ?_)
  · (exfalso; omega)
  refine Wo.pre 1 (by kernel_rfl) ?_
  refine Wo.nil ?_
  refine Wp.cond false (by kernel_rfl) ?_
  refine Wp.skip ?_
  refine Wp.seq ?_
  refine Wp.region ?_
  refine Wo.pre 2 (by kernel_rfl) ?_
  refine Wo.val (.int .i64 (List.length (l) : Nat)) h (by kernel_rfl) (Bs.len hx (by kernel_rfl)) ?_
  refine Wo.pre 1 (by kernel_rfl) ?_
  obtain ⟨r6, H7, c8, rfl, X10⟩ := head_run (st := k) (n := l.length) (h) hk (by first | omega | (simp; omega) | (simp; done) | assumption) (c)
  have m11 := X10.1
  refine Wo.call (by kernel_rfl) (by kernel_rfl) c8 ?_
  clear c8
  (refine Wo.cvSB (Re.head k l.length c) rfl (by kernel_rfl) (by kernel_rfl) (by omega) (fun Hs Xs Os => ?_); have ns := Xs.1; have qs := Os.bq; have ps := Os.parts)
  refine Wo.pre 1 (by kernel_rfl) ?_
  refine Wo.nil ?_
  refine Wp.seq ?_
  refine Wp.region ?_
  refine Wo.pre 2 (by kernel_rfl) ?_
  have F12 := (hx.fr (X10.fr.trans0 Xs) (.inr id))
  obtain ⟨v13, H14, a15, q16, X17, q18⟩ := Ow.appF (lo := H7.n) Os F12 ns (by first | omega | (simp; omega) | (simp; done) | assumption)
  refine Wo.val _ _ (by kernel_rfl) (iop_appG (v := AV.sl { b := H7.n, g := 0, o := 0 } (Re.head k l.length c).length (Cp.op 1)) (w := x) (by kernel_rfl) (by kernel_rfl) k2.2.2 a15) ?_
  have m19 := q16.bq
  have k20 := q16.parts
  have m21 := X17.1
  refine Wo.pre 1 (by kernel_rfl) ?_
  refine Wo.nil ?_
  refine Wp.ret ?_
  refine ⟨.inr rfl, (v13), (ret_one (res_tmp (by kernel_rfl) res_nil)), ?_⟩
  dsimp only
  exact ⟨(((X10.fr.trans0 Xs).transL X17).ext (by have d0 := qs.1.e; intro s hs; first | omega | (dsimp only at hs; omega) | (simp only [blk_nils, blk_sl] at hs ⊢; omega))), (q16.mono (by omega))⟩
set_option maxHeartbeats 8000000 in
theorem putR_no {h : H} {st : Int} {x : AV} {l : List UInt8} (hx : Bs h x l) (hno : Re.words st = [] ∨ 1048576 < l.length) (c : Bool) : ∃ r h', Runs TF 13 [.int .i64 st, x, .bool c] h r h' ∧ Ext h h' ∧ Ow h.n h' r (Re.head 500 0 c) := by
  have hhl : (Re.head 500 0 c).length ≤ 1000 := by
    cases c <;> decide +kernel
  refine Runs.ofP f13 rfl ?_
  by_cases hw : Re.words st = []
  · have m1 := hx.bq
    have k2 := hx.parts
    refine Wp.seq ?_
    refine Wp.region ?_
    refine Wo.pre 1 (by kernel_rfl) ?_
    refine Wo.nil ?_
    refine Wp.seq ?_
    refine Wp.seq ?_
    refine Wp.region ?_
    refine Wo.pre 1 (by kernel_rfl) ?_
    have c3 := wordsR_run (h) (st)
    refine Wo.call (by kernel_rfl) (by kernel_rfl) c3 ?_
    clear c3
    refine Wo.cmpS (x := IX.t 9) (y := IX.c (AV.str [])) (a := Re.words st) (b := []) (by kernel_rfl) (by kernel_rfl) (by kernel_rfl) (by kernel_rfl) (fun q4 => ?_) (fun q4 => ?_)
    rotate_left
    · exact absurd hw (by with_reducible assumption)
    refine Wo.pre 3 (by kernel_rfl) ?_
    refine Wo.pre 1 (by kernel_rfl) ?_
    refine Wo.pre 1 (by kernel_rfl) ?_
    refine Wo.nil ?_
    refine Wp.cond true (by kernel_rfl) ?_
    refine Wp.seq ?_
    refine Wp.region ?_
    refine Wo.pre 1 (by kernel_rfl) ?_
    obtain ⟨r5, H6, c7, rfl, X9⟩ := head500_run (h) (c)
    have m10 := X9.1
    refine Wo.call (by kernel_rfl) (by kernel_rfl) c7 ?_
    clear c7
    (refine Wo.cvSB (Re.head 500 0 c) rfl (by kernel_rfl) (by kernel_rfl) (by omega) (fun Hs Xs Os => ?_); have ns := Xs.1; have qs := Os.bq; have ps := Os.parts)
    refine Wo.pre 1 (by kernel_rfl) ?_
    refine Wo.nil ?_
    refine Wp.ret ?_
    refine ⟨.inr rfl, (AV.sl { b := H6.n, g := 0, o := 0 } (Re.head 500 0 c).length (Cp.op 1)), (ret_one (res_tmp (by kernel_rfl) res_nil)), ?_⟩
    dsimp only
    exact ⟨((X9.fr.trans0 Xs).ext0), (Os.mono (by omega))⟩
  · have hl : 1048576 < l.length := hno.resolve_left hw
    have m1 := hx.bq
    have k2 := hx.parts
    refine Wp.seq ?_
    refine Wp.region ?_
    refine Wo.pre 1 (by kernel_rfl) ?_
    refine Wo.nil ?_
    refine Wp.seq ?_
    refine Wp.seq ?_
    refine Wp.region ?_
    refine Wo.pre 1 (by kernel_rfl) ?_
    have c3 := wordsR_run (h) (st)
    refine Wo.call (by kernel_rfl) (by kernel_rfl) c3 ?_
    clear c3
    refine Wo.cmpS (x := IX.t 9) (y := IX.c (AV.str [])) (a := Re.words st) (b := []) (by kernel_rfl) (by kernel_rfl) (by kernel_rfl) (by kernel_rfl) (fun q4 => ?_) (fun q4 => ?_)
    · exact absurd (by with_reducible assumption) hw
    refine Wo.pre 2 (by kernel_rfl) ?_
    refine Wo.val (.int .i64 (List.length (l) : Nat)) h (by kernel_rfl) (Bs.len hx (by kernel_rfl)) ?_
    refine Wo.cmp (op := .gtr) (x := IX.t 13) (y := IX.c (AV.int IntKind.i64 1048576)) (k := IntKind.i64) (a := ↑l.length) (b := 1048576) ((↑l.length : Int) > (1048576 : Int)) (by kernel_rfl) (by kernel_rfl) (by kernel_rfl) (by kernel_rfl) (by simp) (by kernel_rfl) (fun q5 => ?_) (fun q5 => ?_)
    rotate_left
    · (exfalso; omega)
    refine Wo.pre 1 (by kernel_rfl) ?_
    refine Wo.nil ?_
    refine Wp.cond true (by kernel_rfl) ?_
    refine Wp.seq ?_
    refine Wp.region ?_
    refine Wo.pre 1 (by kernel_rfl) ?_
    obtain ⟨r6, H7, c8, rfl, X10⟩ := head500_run (h) (c)
    have m11 := X10.1
    refine Wo.call (by kernel_rfl) (by kernel_rfl) c8 ?_
    clear c8
    (refine Wo.cvSB (Re.head 500 0 c) rfl (by kernel_rfl) (by kernel_rfl) (by omega) (fun Hs Xs Os => ?_); have ns := Xs.1; have qs := Os.bq; have ps := Os.parts)
    refine Wo.pre 1 (by kernel_rfl) ?_
    refine Wo.nil ?_
    refine Wp.ret ?_
    refine ⟨.inr rfl, (AV.sl { b := H7.n, g := 0, o := 0 } (Re.head 500 0 c).length (Cp.op 1)), (ret_one (res_tmp (by kernel_rfl) res_nil)), ?_⟩
    dsimp only
    exact ⟨((X10.fr.trans0 Xs).ext0), (Os.mono (by omega))⟩

set_option maxHeartbeats 4000000 in
theorem sameR_run {h : H} {s s' : Int} {x x' : AV} {c c' : Bool} {l l' : List UInt8} (hx : Bs h x l) (hx' : Bs h x' l') : ∃ r h', Runs TF 10 [.agg [.int .i64 s, x, .bool c], .agg [.int .i64 s', x', .bool c']] h r h' ∧ r = .bool (decide (s = s') && (decide (c = c') && (l == l'))) ∧ Ext h h' := by
  refine Runs.ofP f10 rfl ?_
  by_cases hs : s = s'
  · by_cases hc : c = c'
    · obtain ⟨b, hb⟩ : ∃ b, b = (l == l') := ⟨_, rfl⟩
      rw [decide_eq_true hs, decide_eq_true hc, ← hb]
      subst hs; subst hc
      cases c
      · have m1 := hx.bq
        have k2 := hx.parts
        have m3 := hx'.bq
        have k4 := hx'.parts
        refine Wp.seq ?_
        refine Wp.region ?_
        obtain ⟨H5, e5, P5, X5, n5⟩ := pt_new h 28 [AV.int IntKind.i64 s, x, AV.bool false] (ones_cons rfl (ones_cons k2.2.1 (ones_cons rfl ones_nil)))
        refine Wo.val (.ptr ⟨H.n h, 0, 0⟩) H5 (by kernel_rfl) (e5 (v := AV.agg [AV.int IntKind.i64 s, x, AV.bool false]) (by kernel_rfl) rfl) ?_
        clear e5
        have m6 := X5.1
        obtain ⟨H7, e7, P7, X7, n7⟩ := pt_new H5 28 [AV.int IntKind.i64 s, x', AV.bool false] (ones_cons rfl (ones_cons k4.2.1 (ones_cons rfl ones_nil)))
        refine Wo.val (.ptr ⟨H.n H5, 0, 0⟩) H7 (by kernel_rfl) (e7 (v := AV.agg [AV.int IntKind.i64 s, x', AV.bool false]) (by kernel_rfl) rfl) ?_
        clear e7
        have m8 := X7.1
        refine Wo.pre 1 (by kernel_rfl) ?_
        refine Wo.nil ?_
        refine Wp.seq ?_
        refine Wp.region ?_
        refine Wo.pre 1 (by kernel_rfl) ?_
        have F9 := (P5.fr X7 id)
        refine Wo.val (AV.int IntKind.i64 s) H7 (by kernel_rfl) (iop_ldP F9 (a := { b := h.n, g := 0, o := 0 }) (by kernel_rfl) rfl (by kernel_rfl)) ?_
        refine Wo.pre 1 (by kernel_rfl) ?_
        refine Wo.val (AV.int IntKind.i64 s) H7 (by kernel_rfl) (iop_ldP P7 (a := { b := H5.n, g := 0, o := 0 }) (by kernel_rfl) rfl (by kernel_rfl)) ?_
        refine Wo.cmp (op := .eql) (x := IX.t 6) (y := IX.t 8) (k := IntKind.i64) (a := s) (b := s) ((s : Int) = (s : Int)) (by kernel_rfl) (by kernel_rfl) (by kernel_rfl) (by kernel_rfl) (by simp) (by kernel_rfl) (fun q10 => ?_) (fun q10 => ?_)
        rotate_left
        · (exfalso; omega)
        have m11 := P5.1
        have m12 := P7.1
        have m13 := F9.1
        refine Wo.pre 2 (by kernel_rfl) ?_
        refine Wo.val (AV.bool false) H7 (by kernel_rfl) (iop_ldP F9 (a := { b := h.n, g := 0, o := 2 }) (by kernel_rfl) rfl (by kernel_rfl)) ?_
        refine Wo.pre 1 (by kernel_rfl) ?_
        refine Wo.val (AV.bool false) H7 (by kernel_rfl) (iop_ldP P7 (a := { b := H5.n, g := 0, o := 2 }) (by kernel_rfl) rfl (by kernel_rfl)) ?_
        refine Wo.pre 4 (by kernel_rfl) ?_
        refine Wo.val (x) H7 (by kernel_rfl) (iop_ldP F9 (a := { b := h.n, g := 0, o := 1 }) (by kernel_rfl) rfl (by kernel_rfl)) ?_
        have F14 := (hx.fr (X5.trans0 X7) (.inr id))
        refine Wo.val (.str (l)) H7 (by kernel_rfl) (iop_cvBS (v := x) (by kernel_rfl) F14) ?_
        refine Wo.pre 1 (by kernel_rfl) ?_
        refine Wo.val (x') H7 (by kernel_rfl) (iop_ldP P7 (a := { b := H5.n, g := 0, o := 1 }) (by kernel_rfl) rfl (by kernel_rfl)) ?_
        have F15 := (hx'.fr (X5.trans0 X7) (.inr id))
        refine Wo.val (.str (l')) H7 (by kernel_rfl) (iop_cvBS (v := x') (by kernel_rfl) F15) ?_
        refine Wo.val (.bool b) _ (by kernel_rfl) (iop_eqS (a := l) (b := l') b (by kernel_rfl) (by kernel_rfl) hb.symm) ?_
        refine Wo.pre 2 (by kernel_rfl) ?_
        refine Wo.nil ?_
        refine Wp.ret ?_
        refine ⟨.inr rfl, (AV.bool b), (ret_one (res_tmp (by kernel_rfl) res_nil)), ?_⟩
        dsimp only
        exact ⟨rfl, ((X5.trans0 X7).ext0)⟩
      · have m1 := hx.bq
        have k2 := hx.parts
        have m3 := hx'.bq
        have k4 := hx'.parts
        refine Wp.seq ?_
        refine Wp.region ?_
        obtain ⟨H5, e5, P5, X5, n5⟩ := pt_new h 28 [AV.int IntKind.i64 s, x, AV.bool true] (ones_cons rfl (ones_cons k2.2.1 (ones_cons rfl ones_nil)))
        refine Wo.val (.ptr ⟨H.n h, 0, 0⟩) H5 (by kernel_rfl) (e5 (v := AV.agg [AV.int IntKind.i64 s, x, AV.bool true]) (by kernel_rfl) rfl) ?_
        clear e5
        have m6 := X5.1
        obtain ⟨H7, e7, P7, X7, n7⟩ := pt_new H5 28 [AV.int IntKind.i64 s, x', AV.bool true] (ones_cons rfl (ones_cons k4.2.1 (ones_cons rfl ones_nil)))
        refine Wo.val (.ptr ⟨H.n H5, 0, 0⟩) H7 (by kernel_rfl) (e7 (v := AV.agg [AV.int IntKind.i64 s, x', AV.bool true]) (by kernel_rfl) rfl) ?_
        clear e7
        have m8 := X7.1
        refine Wo.pre 1 (by kernel_rfl) ?_
        refine Wo.nil ?_
        refine Wp.seq ?_
        refine Wp.region ?_
        refine Wo.pre 1 (by kernel_rfl) ?_
        have F9 := (P5.fr X7 id)
        refine Wo.val (AV.int IntKind.i64 s) H7 (by kernel_rfl) (iop_ldP F9 (a := { b := h.n, g := 0, o := 0 }) (by kernel_rfl) rfl (by kernel_rfl)) ?_
        refine Wo.pre 1 (by kernel_rfl) ?_
        refine Wo.val (AV.int IntKind.i64 s) H7 (by kernel_rfl) (iop_ldP P7 (a := { b := H5.n, g := 0, o := 0 }) (by kernel_rfl) rfl (by kernel_rfl)) ?_
        refine Wo.cmp (op := .eql) (x := IX.t 6) (y := IX.t 8) (k := IntKind.i64) (a := s) (b := s) ((s : Int) = (s : Int)) (by kernel_rfl) (by kernel_rfl) (by kernel_rfl) (by kernel_rfl) (by simp) (by kernel_rfl) (fun q10 => ?_) (fun q10 => ?_)
        rotate_left
        · (exfalso; omega)
        have m11 := P5.1
        have m12 := P7.1
        have m13 := F9.1
        refine Wo.pre 2 (by kernel_rfl) ?_
        refine Wo.val (AV.bool true) H7 (by kernel_rfl) (iop_ldP F9 (a := { b := h.n, g := 0, o := 2 }) (by kernel_rfl) rfl (by kernel_rfl)) ?_
        refine Wo.pre 1 (by kernel_rfl) ?_
        refine Wo.val (AV.bool true) H7 (by kernel_rfl) (iop_ldP P7 (a := { b := H5.n, g := 0, o := 2 }) (by kernel_rfl) rfl (by kernel_rfl)) ?_
        refine Wo.pre 4 (by kernel_rfl) ?_
        refine Wo.val (x) H7 (by kernel_rfl) (iop_ldP F9 (a := { b := h.n, g := 0, o := 1 }) (by kernel_rfl) rfl (by kernel_rfl)) ?_
        have F14 := (hx.fr (X5.trans0 X7) (.inr id))
        refine Wo.val (.str (l)) H7 (by kernel_rfl) (iop_cvBS (v := x) (by kernel_rfl) F14) ?_
        refine Wo.pre 1 (by kernel_rfl) ?_
        refine Wo.val (x') H7 (by kernel_rfl) (iop_ldP P7 (a := { b := H5.n, g := 0, o := 1 }) (by kernel_rfl) rfl (by kernel_rfl)) ?_
        have F15 := (hx'.fr (X5.trans0 X7) (.inr id))
        refine Wo.val (.str (l')) H7 (by kernel_rfl) (iop_cvBS (v := x') (by kernel_rfl) F15) ?_
        refine Wo.val (.bool b) _ (by kernel_rfl) (iop_eqS (a := l) (b := l') b (by kernel_rfl) (by kernel_rfl) hb.symm) ?_
        refine Wo.pre 2 (by kernel_rfl) ?_
        refine Wo.nil ?_
        refine Wp.ret ?_
        refine ⟨.inr rfl, (AV.bool b), (ret_one (res_tmp (by kernel_rfl) res_nil)), ?_⟩
        dsimp only
        exact ⟨rfl, ((X5.trans0 X7).ext0)⟩
    · rw [decide_eq_true hs, decide_eq_false hc]
      subst hs
      cases c <;> cases c'
      · exact absurd rfl hc
      · have m1 := hx.bq
        have k2 := hx.parts
        have m3 := hx'.bq
        have k4 := hx'.parts
        refine Wp.seq ?_
        refine Wp.region ?_
        obtain ⟨H5, e5, P5, X5, n5⟩ := pt_new h 28 [AV.int IntKind.i64 s, x, AV.bool false] (ones_cons rfl (ones_cons k2.2.1 (ones_cons rfl ones_nil)))
        refine Wo.val (.ptr ⟨H.n h, 0, 0⟩) H5 (by kernel_rfl) (e5 (v := AV.agg [AV.int IntKind.i64 s, x, AV.bool false]) (by kernel_rfl) rfl) ?_
        clear e5
        have m6 := X5.1
        obtain ⟨H7, e7, P7, X7, n7⟩ := pt_new H5 28 [AV.int IntKind.i64 s, x', AV.bool true] (ones_cons rfl (ones_cons k4.2.1 (ones_cons rfl ones_nil)))
        refine Wo.val (.ptr ⟨H.n H5, 0, 0⟩) H7 (by kernel_rfl) (e7 (v := AV.agg [AV.int IntKind.i64 s, x', AV.bool true]) (by kernel_rfl) rfl) ?_
        clear e7
        have m8 := X7.1
        refine Wo.pre 1 (by kernel_rfl) ?_
        refine Wo.nil ?_
        refine Wp.seq ?_
        refine Wp.region ?_
        refine Wo.pre 1 (by kernel_rfl) ?_
        have F9 := (P5.fr X7 id)
        refine Wo.val (AV.int IntKind.i64 s) H7 (by kernel_rfl) (iop_ldP F9 (a := { b := h.n, g := 0, o := 0 }) (by kernel_rfl) rfl (by kernel_rfl)) ?_
        refine Wo.pre 1 (by kernel_rfl) ?_
        refine Wo.val (AV.int IntKind.i64 s) H7 (by kernel_rfl) (iop_ldP P7 (a := { b := H5.n, g := 0, o := 0 }) (by kernel_rfl) rfl (by kernel_rfl)) ?_
        refine Wo.cmp (op := .eql) (x := IX.t 6) (y := IX.t 8) (k := IntKind.i64) (a := s) (b := s) ((s : Int) = (s : Int)) (by kernel_rfl) (by kernel_rfl) (by kernel_rfl) (by kernel_rfl) (by simp) (by kernel_rfl) (fun q10 => ?_) (fun q10 => ?_)
        rotate_left
        · (exfalso; omega)
        have m11 := P5.1
        have m12 := P7.1
        have m13 := F9.1
        refine Wo.pre 2 (by kernel_rfl) ?_
        refine Wo.val (AV.bool false) H7 (by kernel_rfl) (iop_ldP F9 (a := { b := h.n, g := 0, o := 2 }) (by kernel_rfl) rfl (by kernel_rfl)) ?_
        refine Wo.pre 1 (by kernel_rfl) ?_
        refine Wo.val (AV.bool true) H7 (by kernel_rfl) (iop_ldP P7 (a := { b := H5.n, g := 0, o := 2 }) (by kernel_rfl) rfl (by kernel_rfl)) ?_
        refine Wo.pre 4 (by kernel_rfl) ?_
        refine Wo.pre 1 (by kernel_rfl) ?_
        refine Wo.pre 1 (by kernel_rfl) ?_
        refine Wo.pre 1 (by kernel_rfl) ?_
        refine Wo.pre 1 (by kernel_rfl) ?_
        refine Wo.pre 1 (by kernel_rfl) ?_
        refine Wo.pre 1 (by kernel_rfl) ?_
        refine Wo.pre 2 (by kernel_rfl) ?_
        refine Wo.nil ?_
        refine Wp.ret ?_
        refine ⟨.inr rfl, (AV.bool false), (ret_one (res_tmp (by kernel_rfl) res_nil)), ?_⟩
        dsimp only
        exact ⟨rfl, ((X5.trans0 X7).ext0)⟩
      · have m1 := hx.bq
        have k2 := hx.parts
        have m3 := hx'.bq
        have k4 := hx'.parts
        refine Wp.seq ?_
        refine Wp.region ?_
        obtain ⟨H5, e5, P5, X5, n5⟩ := pt_new h 28 [AV.int IntKind.i64 s, x, AV.bool true] (ones_cons rfl (ones_cons k2.2.1 (ones_cons rfl ones_nil)))
        refine Wo.val (.ptr ⟨H.n h, 0, 0⟩) H5 (by kernel_rfl) (e5 (v := AV.agg [AV.int IntKind.i64 s, x, AV.bool true]) (by kernel_rfl) rfl) ?_
        clear e5
        have m6 := X5.1
        obtain ⟨H7, e7, P7, X7, n7⟩ := pt_new H5 28 [AV.int IntKind.i64 s, x', AV.bool false] (ones_cons rfl (ones_cons k4.2.1 (ones_cons rfl ones_nil)))
        refine Wo.val (.ptr ⟨H.n H5, 0, 0⟩) H7 (by kernel_rfl) (e7 (v := AV.agg [AV.int IntKind.i64 s, x', AV.bool false]) (by kernel_rfl) rfl) ?_
        clear e7
        have m8 := X7.1
        refine Wo.pre 1 (by kernel_rfl) ?_
        refine Wo.nil ?_
        refine Wp.seq ?_
        refine Wp.region ?_
        refine Wo.pre 1 (by kernel_rfl) ?_
        have F9 := (P5.fr X7 id)
        refine Wo.val (AV.int IntKind.i64 s) H7 (by kernel_rfl) (iop_ldP F9 (a := { b := h.n, g := 0, o := 0 }) (by kernel_rfl) rfl (by kernel_rfl)) ?_
        refine Wo.pre 1 (by kernel_rfl) ?_
        refine Wo.val (AV.int IntKind.i64 s) H7 (by kernel_rfl) (iop_ldP P7 (a := { b := H5.n, g := 0, o := 0 }) (by kernel_rfl) rfl (by kernel_rfl)) ?_
        refine Wo.cmp (op := .eql) (x := IX.t 6) (y := IX.t 8) (k := IntKind.i64) (a := s) (b := s) ((s : Int) = (s : Int)) (by kernel_rfl) (by kernel_rfl) (by kernel_rfl) (by kernel_rfl) (by simp) (by kernel_rfl) (fun q10 => ?_) (fun q10 => ?_)
        rotate_left
        · (exfalso; omega)
        have m11 := P5.1
        have m12 := P7.1
        have m13 := F9.1
        refine Wo.pre 2 (by kernel_rfl) ?_
        refine Wo.val (AV.bool true) H7 (by kernel_rfl) (iop_ldP F9 (a := { b := h.n, g := 0, o := 2 }) (by kernel_rfl) rfl (by kernel_rfl)) ?_
        refine Wo.pre 1 (by kernel_rfl) ?_
        refine Wo.val (AV.bool false) H7 (by kernel_rfl) (iop_ldP P7 (a := { b := H5.n, g := 0, o := 2 }) (by kernel_rfl) rfl (by kernel_rfl)) ?_
        refine Wo.pre 4 (by kernel_rfl) ?_
        refine Wo.pre 1 (by kernel_rfl) ?_
        refine Wo.pre 1 (by kernel_rfl) ?_
        refine Wo.pre 1 (by kernel_rfl) ?_
        refine Wo.pre 1 (by kernel_rfl) ?_
        refine Wo.pre 1 (by kernel_rfl) ?_
        refine Wo.pre 1 (by kernel_rfl) ?_
        refine Wo.pre 2 (by kernel_rfl) ?_
        refine Wo.nil ?_
        refine Wp.ret ?_
        refine ⟨.inr rfl, (AV.bool false), (ret_one (res_tmp (by kernel_rfl) res_nil)), ?_⟩
        dsimp only
        exact ⟨rfl, ((X5.trans0 X7).ext0)⟩
      · exact absurd rfl hc
  · rw [decide_eq_false hs]
    have m1 := hx.bq
    have k2 := hx.parts
    have m3 := hx'.bq
    have k4 := hx'.parts
    refine Wp.seq ?_
    refine Wp.region ?_
    obtain ⟨H5, e5, P5, X5, n5⟩ := pt_new h 28 [AV.int IntKind.i64 s, x, AV.bool c] (ones_cons rfl (ones_cons k2.2.1 (ones_cons rfl ones_nil)))
    refine Wo.val (.ptr ⟨H.n h, 0, 0⟩) H5 (by kernel_rfl) (e5 (v := AV.agg [AV.int IntKind.i64 s, x, AV.bool c]) (by kernel_rfl) rfl) ?_
    clear e5
    have m6 := X5.1
    obtain ⟨H7, e7, P7, X7, n7⟩ := pt_new H5 28 [AV.int IntKind.i64 s', x', AV.bool c'] (ones_cons rfl (ones_cons k4.2.1 (ones_cons rfl ones_nil)))
    refine Wo.val (.ptr ⟨H.n H5, 0, 0⟩) H7 (by kernel_rfl) (e7 (v := AV.agg [AV.int IntKind.i64 s', x', AV.bool c']) (by kernel_rfl) rfl) ?_
    clear e7
    have m8 := X7.1
    refine Wo.pre 1 (by kernel_rfl) ?_
    refine Wo.nil ?_
    refine Wp.seq ?_
    refine Wp.region ?_
    refine Wo.pre 1 (by kernel_rfl) ?_
    have F9 := (P5.fr X7 id)
    refine Wo.val (AV.int IntKind.i64 s) H7 (by kernel_rfl) (iop_ldP F9 (a := { b := h.n, g := 0, o := 0 }) (by kernel_rfl) rfl (by kernel_rfl)) ?_
    refine Wo.pre 1 (by kernel_rfl) ?_
    refine Wo.val (AV.int IntKind.i64 s') H7 (by kernel_rfl) (iop_ldP P7 (a := { b := H5.n, g := 0, o := 0 }) (by kernel_rfl) rfl (by kernel_rfl)) ?_
    refine Wo.cmp (op := .eql) (x := IX.t 6) (y := IX.t 8) (k := IntKind.i64) (a := s) (b := s') ((s : Int) = (s' : Int)) (by kernel_rfl) (by kernel_rfl) (by kernel_rfl) (by kernel_rfl) (by simp) (by kernel_rfl) (fun q10 => ?_) (fun q10 => ?_)
    · (exfalso; omega)
    have m11 := P5.1
    have m12 := P7.1
    have m13 := F9.1
    refine Wo.pre 2 (by kernel_rfl) ?_
    refine Wo.pre 1 (by kernel_rfl) ?_
    refine Wo.pre 1 (by kernel_rfl) ?_
    refine Wo.pre 1 (by kernel_rfl) ?_
    refine Wo.pre 1 (by kernel_rfl) ?_
    refine Wo.pre 3 (by kernel_rfl) ?_
    refine Wo.pre 1 (by kernel_rfl) ?_
    refine Wo.pre 1 (by kernel_rfl) ?_
    refine Wo.pre 1 (by kernel_rfl) ?_
    refine Wo.pre 1 (by kernel_rfl) ?_
    refine Wo.pre 1 (by kernel_rfl) ?_
    refine Wo.pre 1 (by kernel_rfl) ?_
    refine Wo.pre 2 (by kernel_rfl) ?_
    refine Wo.nil ?_
    refine Wp.ret ?_
    refine ⟨.inr rfl, (AV.bool false), (ret_one (res_tmp (by kernel_rfl) res_nil)), ?_⟩
    dsimp only
    exact ⟨rfl, ((X5.trans0 X7).ext0)⟩
end Go.Det
