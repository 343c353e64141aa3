/- Reply: the law ReplyTakes: the walks. -/
import Derived.Test.YtcobmomjdbmacaaDoorre15
set_option linter.unusedVariables false
set_option linter.unusedSimpArgs false
set_option linter.unusedSectionVars false
namespace Go.Det
open Go.Proofs
attribute [local irreducible] Wp Wo Wd iop ev slots quiets wanted put

set_option maxHeartbeats 16000000 in
theorem takes_run {h : H} {x : AV} {b : List UInt8} (hx : Bs h x b) (cx : Cok x) (hl : b.length ≤ 140737488351232) : ∃ r h', Runs TF 3 [x] h r h' ∧ r = .bool true := by
  have hmx : 200000000000000 = maxRow := rfl
  refine Runs.ofP f3 rfl ?_
  have hnil : Bs h .nils [] := Bs.nil0
  have hl0 : ([] ++ b).length ≤ 140737488351232 := hl
  cases hP : Re.takeP b with
  | more =>
    have hP0 : Re.takeP ([] ++ b) = .more := hP
    have hR : Re.takeR b = .more := (Re.take_eq b).symm.trans hP
    have m1 := hx.bq
    have k2 := hx.parts
    have m3 := hnil.bq
    have k4 := hnil.parts
    refine Wp.seq ?_
    refine Wp.region ?_
    refine Wo.pre 1 (by kernel_rfl) ?_
    refine Wo.nil ?_
    refine Wp.seq ?_
    refine Wp.region ?_
    refine Wo.pre 1 (by kernel_rfl) ?_
    obtain ⟨v5, H6, a7, q8, X9, q10⟩ := Ow.appF (Ow.nil0 (lo := h.n)) hx (by first | omega | (simp; omega) | (simp; done) | assumption) (by first | omega | (simp; omega) | (simp; done) | assumption)
    refine Wo.val _ _ (by kernel_rfl) (iop_appG (v := AV.nils) (w := x) (by kernel_rfl) (by kernel_rfl) k2.2.2 a7) ?_
    have m11 := q8.bq
    have k12 := q8.parts
    have m13 := X9.1
    refine Wo.pre 1 (by kernel_rfl) ?_
    refine Wo.nil ?_
    refine Wp.seq ?_
    refine Wp.region ?_
    refine Wo.pre 1 (by kernel_rfl) ?_
    obtain ⟨r14, H15, c16, rfl, X18⟩ := takeP_more q8.bs q10 hl0 hP0
    have m19 := X18.1
    refine Wo.call (by kernel_rfl) (by kernel_rfl) c16 ?_
    clear c16
    refine Wo.pre 4 (by kernel_rfl) ?_
    obtain ⟨H20, e20, P20, X20, n20⟩ := pt_new H15 24 [AV.int IntKind.i64 0, AV.nils, AV.bool false] (ones_cons rfl (ones_cons rfl (ones_cons rfl ones_nil)))
    refine Wo.val (.ptr ⟨H.n H15, 0, 0⟩) H20 (by kernel_rfl) (e20 (v := AV.agg [AV.int IntKind.i64 0, AV.nils, AV.bool false]) (by kernel_rfl) rfl) ?_
    clear e20
    have m21 := X20.1
    obtain ⟨H22, e22, P22, X22, n22⟩ := P20.st 0 [AV.int IntKind.i64 0, AV.nils, AV.bool false] (by simp) (ones_cons rfl (ones_cons rfl (ones_cons rfl ones_nil)))
    refine Wo.val .undef H22 (by kernel_rfl) (iop_stP (a := { b := H15.n, g := 0, o := 0 }) (v := AV.agg [AV.int IntKind.i64 0, AV.nils, AV.bool false]) (vs := [AV.int IntKind.i64 0, AV.nils, AV.bool false]) (by kernel_rfl) (by kernel_rfl) rfl rfl e22) ?_
    have m23 := X22.1
    replace P22 : Pt H22 H15.n (Blk.cells 0 24 [AV.int IntKind.i64 0, AV.nils, AV.bool false] 0 false) := P22
    refine Wo.pre 2 (by kernel_rfl) ?_
    refine Wo.nil ?_
    refine Wp.seq ?_
    refine Wp.region ?_
    refine Wo.pre 1 (by kernel_rfl) ?_
    have F24 := (hx.fr (((X9.transR X18.fr).transR X20).trans X22) (by (first | omega | (intro s hs; omega) | (dsimp only; omega) | (intro s hs; dsimp only at hs; omega) | (simp only [blk_nils, blk_sl]; omega) | (intro s hs; simp only [blk_nils, blk_sl] at hs ⊢; omega) | (simp; done))))
    obtain ⟨r25, H26, c27, rfl, X29⟩ := takeR_more F24 cx hl hR
    have m30 := X29.1
    refine Wo.call (by kernel_rfl) (by kernel_rfl) c27 ?_
    clear c27
    refine Wo.pre 4 (by kernel_rfl) ?_
    obtain ⟨H31, e31, P31, X31, n31⟩ := pt_new H26 28 [AV.int IntKind.i64 0, AV.nils, AV.bool false] (ones_cons rfl (ones_cons rfl (ones_cons rfl ones_nil)))
    refine Wo.val (.ptr ⟨H.n H26, 0, 0⟩) H31 (by kernel_rfl) (e31 (v := AV.agg [AV.int IntKind.i64 0, AV.nils, AV.bool false]) (by kernel_rfl) rfl) ?_
    clear e31
    have m32 := X31.1
    obtain ⟨H33, e33, P33, X33, n33⟩ := P31.st 0 [AV.int IntKind.i64 0, AV.nils, AV.bool false] (by simp) (ones_cons rfl (ones_cons rfl (ones_cons rfl ones_nil)))
    refine Wo.val .undef H33 (by kernel_rfl) (iop_stP (a := { b := H26.n, g := 0, o := 0 }) (v := AV.agg [AV.int IntKind.i64 0, AV.nils, AV.bool false]) (vs := [AV.int IntKind.i64 0, AV.nils, AV.bool false]) (by kernel_rfl) (by kernel_rfl) rfl rfl e33) ?_
    have m34 := X33.1
    replace P33 : Pt H33 H26.n (Blk.cells 0 28 [AV.int IntKind.i64 0, AV.nils, AV.bool false] 0 false) := P33
    refine Wo.pre 2 (by kernel_rfl) ?_
    refine Wo.nil ?_
    refine Wp.seq ?_
    refine Wp.region ?_
    have F35 := (P22.fr ((X29.fr.trans0 X31).transL X33) (by (first | omega | (intro s hs; omega) | (dsimp only; omega) | (intro s hs; dsimp only at hs; omega) | (simp only [blk_nils, blk_sl]; omega) | (intro s hs; simp only [blk_nils, blk_sl] at hs ⊢; omega) | (simp; done))))
    refine Wo.val (AV.agg [AV.int IntKind.i64 0, AV.nils, AV.bool false]) H33 (by kernel_rfl) (iop_ldP F35 (a := { b := H15.n, g := 0, o := 0 }) (by kernel_rfl) rfl (by kernel_rfl)) ?_
    refine Wo.val (AV.agg [AV.int IntKind.i64 0, AV.nils, AV.bool false]) H33 (by kernel_rfl) (iop_ldP P33 (a := { b := H26.n, g := 0, o := 0 }) (by kernel_rfl) rfl (by kernel_rfl)) ?_
    obtain ⟨r36, H37, c38, rfl, X40⟩ := sameR_nil (H33)
    have m41 := X40.1
    refine Wo.call (by kernel_rfl) (by kernel_rfl) c38 ?_
    clear c38
    refine Wo.pre 3 (by kernel_rfl) ?_
    refine Wo.pre 5 (by kernel_rfl) ?_
    refine Wo.pre 3 (by kernel_rfl) ?_
    refine Wo.nil ?_
    refine Wp.seq ?_
    refine Wp.seq ?_
    refine Wp.region ?_
    refine Wo.pre 1 (by kernel_rfl) ?_
    refine Wo.nil ?_
    refine Wp.block ?_
    have P4 := F35.fr X40.fr id
    refine spoil3_nil (p4 := H15.n) (x := x) (ow := v5) (rt := .bool true) P4 (by kernel_rfl) (by kernel_rfl) (by kernel_rfl) (by kernel_rfl) (by kernel_rfl) (by kernel_rfl) ?_
    intro ts' h' E u0 v0 v3 v10
    have O5 : Ow h.n h' v5 ([] ++ b) := q8.fr (((((((X18.fr.trans0 X20).transL X22).transR X29.fr).transR X31).trans X33).transR X40.fr).transR E.fr) (by have d0 := q8.bq.1.e; have d1 := q8.bq.2; have d2 := X18.1; have d3 := X20.1; have d4 := X22.1; have d5 := X29.1; (first | omega | (intro s hs; omega) | (dsimp only; omega) | (intro s hs; dsimp only at hs; omega)))
    show Wp TF _ _ _
    rw [laid_eq u0 [(0, x), (3, v5), (10, .bool true)] (by simp [v0, v3, v10])]
    have m1 := hx.bq
    have k2 := hx.parts
    have m3 := hnil.bq
    have k4 := hnil.parts
    have m5 := q8.bq
    have k6 := q8.parts
    have m7 := P20.1
    have m8 := P22.1
    have m9 := F24.bq
    have k10 := F24.parts
    have m11 := P31.1
    have m12 := P33.1
    have m13 := F35.1
    have m14 := P4.1
    have m15 := O5.bq
    have k16 := O5.parts
    have m17 := X9.1
    have m18 := X18.1
    have m19 := X20.1
    have m20 := X22.1
    have m21 := X29.1
    have m22 := X31.1
    have m23 := X33.1
    have m24 := X40.1
    have m25 := E.1
    refine Wp.seq ?_
    refine Wp.region ?_
    refine Wo.pre 3 (by kernel_rfl) ?_
    refine Wo.val (.str ([] ++ b)) h' (by kernel_rfl) (iop_cvBS (v := v5) (by kernel_rfl) O5.bs) ?_
    refine Wo.pre 1 (by kernel_rfl) ?_
    have F26 := (F24.fr ((((X29.fr.trans0 X31).transL X33).transR X40.fr).transR E.fr) (by (first | omega | (intro s hs; omega) | (dsimp only; omega) | (intro s hs; dsimp only at hs; omega) | (simp only [blk_nils, blk_sl]; omega) | (intro s hs; simp only [blk_nils, blk_sl] at hs ⊢; omega) | (simp; done))))
    refine Wo.val (.str (b)) h' (by kernel_rfl) (iop_cvBS (v := x) (by kernel_rfl) F26) ?_
    refine Wo.cmpS (x := IX.t 56) (y := IX.t 58) (a := b) (b := b) (by kernel_rfl) (by kernel_rfl) (by kernel_rfl) (by kernel_rfl) (fun q27 => ?_) (fun q27 => ?_)
    rotate_left
    · exact absurd (rfl : b = b) (by with_reducible assumption)
    have m28 := F26.bq
    have k29 := F26.parts
    refine Wo.pre 2 (by kernel_rfl) ?_
    have c30 := wakes_run (h')
    refine Wo.call (by kernel_rfl) (by kernel_rfl) c30 ?_
    clear c30
    refine Wo.pre 2 (by kernel_rfl) ?_
    refine Wo.nil ?_
    refine Wp.ret ?_
    refine ⟨.inr rfl, (AV.bool true), (ret_one (res_tmp (by kernel_rfl) res_nil)), ?_⟩
    dsimp only
  | form =>
    have hP0 : Re.takeP ([] ++ b) = .form := hP
    have hR : Re.takeR b = .form := (Re.take_eq b).symm.trans hP
    have m1 := hx.bq
    have k2 := hx.parts
    have m3 := hnil.bq
    have k4 := hnil.parts
    refine Wp.seq ?_
    refine Wp.region ?_
    refine Wo.pre 1 (by kernel_rfl) ?_
    refine Wo.nil ?_
    refine Wp.seq ?_
    refine Wp.region ?_
    refine Wo.pre 1 (by kernel_rfl) ?_
    obtain ⟨v5, H6, a7, q8, X9, q10⟩ := Ow.appF (Ow.nil0 (lo := h.n)) hx (by first | omega | (simp; omega) | (simp; done) | assumption) (by first | omega | (simp; omega) | (simp; done) | assumption)
    refine Wo.val _ _ (by kernel_rfl) (iop_appG (v := AV.nils) (w := x) (by kernel_rfl) (by kernel_rfl) k2.2.2 a7) ?_
    have m11 := q8.bq
    have k12 := q8.parts
    have m13 := X9.1
    refine Wo.pre 1 (by kernel_rfl) ?_
    refine Wo.nil ?_
    refine Wp.seq ?_
    refine Wp.region ?_
    refine Wo.pre 1 (by kernel_rfl) ?_
    obtain ⟨r14, H15, c16, rfl, X18⟩ := takeP_form q8.bs q10 hl0 hP0
    have m19 := X18.1
    refine Wo.call (by kernel_rfl) (by kernel_rfl) c16 ?_
    clear c16
    refine Wo.pre 4 (by kernel_rfl) ?_
    obtain ⟨H20, e20, P20, X20, n20⟩ := pt_new H15 24 [AV.int IntKind.i64 0, AV.nils, AV.bool false] (ones_cons rfl (ones_cons rfl (ones_cons rfl ones_nil)))
    refine Wo.val (.ptr ⟨H.n H15, 0, 0⟩) H20 (by kernel_rfl) (e20 (v := AV.agg [AV.int IntKind.i64 0, AV.nils, AV.bool false]) (by kernel_rfl) rfl) ?_
    clear e20
    have m21 := X20.1
    obtain ⟨H22, e22, P22, X22, n22⟩ := P20.st 0 [AV.int IntKind.i64 0, AV.nils, AV.bool false] (by simp) (ones_cons rfl (ones_cons rfl (ones_cons rfl ones_nil)))
    refine Wo.val .undef H22 (by kernel_rfl) (iop_stP (a := { b := H15.n, g := 0, o := 0 }) (v := AV.agg [AV.int IntKind.i64 0, AV.nils, AV.bool false]) (vs := [AV.int IntKind.i64 0, AV.nils, AV.bool false]) (by kernel_rfl) (by kernel_rfl) rfl rfl e22) ?_
    have m23 := X22.1
    replace P22 : Pt H22 H15.n (Blk.cells 0 24 [AV.int IntKind.i64 0, AV.nils, AV.bool false] 0 false) := P22
    refine Wo.pre 2 (by kernel_rfl) ?_
    refine Wo.nil ?_
    refine Wp.seq ?_
    refine Wp.region ?_
    refine Wo.pre 1 (by kernel_rfl) ?_
    have F24 := (hx.fr (((X9.transR X18.fr).transR X20).trans X22) (by (first | omega | (intro s hs; omega) | (dsimp only; omega) | (intro s hs; dsimp only at hs; omega) | (simp only [blk_nils, blk_sl]; omega) | (intro s hs; simp only [blk_nils, blk_sl] at hs ⊢; omega) | (simp; done))))
    obtain ⟨r25, H26, c27, rfl, X29⟩ := takeR_form F24 cx hl hR
    have m30 := X29.1
    refine Wo.call (by kernel_rfl) (by kernel_rfl) c27 ?_
    clear c27
    refine Wo.pre 4 (by kernel_rfl) ?_
    obtain ⟨H31, e31, P31, X31, n31⟩ := pt_new H26 28 [AV.int IntKind.i64 0, AV.nils, AV.bool false] (ones_cons rfl (ones_cons rfl (ones_cons rfl ones_nil)))
    refine Wo.val (.ptr ⟨H.n H26, 0, 0⟩) H31 (by kernel_rfl) (e31 (v := AV.agg [AV.int IntKind.i64 0, AV.nils, AV.bool false]) (by kernel_rfl) rfl) ?_
    clear e31
    have m32 := X31.1
    obtain ⟨H33, e33, P33, X33, n33⟩ := P31.st 0 [AV.int IntKind.i64 0, AV.nils, AV.bool false] (by simp) (ones_cons rfl (ones_cons rfl (ones_cons rfl ones_nil)))
    refine Wo.val .undef H33 (by kernel_rfl) (iop_stP (a := { b := H26.n, g := 0, o := 0 }) (v := AV.agg [AV.int IntKind.i64 0, AV.nils, AV.bool false]) (vs := [AV.int IntKind.i64 0, AV.nils, AV.bool false]) (by kernel_rfl) (by kernel_rfl) rfl rfl e33) ?_
    have m34 := X33.1
    replace P33 : Pt H33 H26.n (Blk.cells 0 28 [AV.int IntKind.i64 0, AV.nils, AV.bool false] 0 false) := P33
    refine Wo.pre 2 (by kernel_rfl) ?_
    refine Wo.nil ?_
    refine Wp.seq ?_
    refine Wp.region ?_
    have F35 := (P22.fr ((X29.fr.trans0 X31).transL X33) (by (first | omega | (intro s hs; omega) | (dsimp only; omega) | (intro s hs; dsimp only at hs; omega) | (simp only [blk_nils, blk_sl]; omega) | (intro s hs; simp only [blk_nils, blk_sl] at hs ⊢; omega) | (simp; done))))
    refine Wo.val (AV.agg [AV.int IntKind.i64 0, AV.nils, AV.bool false]) H33 (by kernel_rfl) (iop_ldP F35 (a := { b := H15.n, g := 0, o := 0 }) (by kernel_rfl) rfl (by kernel_rfl)) ?_
    refine Wo.val (AV.agg [AV.int IntKind.i64 0, AV.nils, AV.bool false]) H33 (by kernel_rfl) (iop_ldP P33 (a := { b := H26.n, g := 0, o := 0 }) (by kernel_rfl) rfl (by kernel_rfl)) ?_
    obtain ⟨r36, H37, c38, rfl, X40⟩ := sameR_nil (H33)
    have m41 := X40.1
    refine Wo.call (by kernel_rfl) (by kernel_rfl) c38 ?_
    clear c38
    refine Wo.pre 3 (by kernel_rfl) ?_
    refine Wo.pre 5 (by kernel_rfl) ?_
    refine Wo.pre 3 (by kernel_rfl) ?_
    refine Wo.nil ?_
    refine Wp.seq ?_
    refine Wp.seq ?_
    refine Wp.region ?_
    refine Wo.pre 1 (by kernel_rfl) ?_
    refine Wo.nil ?_
    refine Wp.block ?_
    have P4 := F35.fr X40.fr id
    refine spoil3_nil (p4 := H15.n) (x := x) (ow := v5) (rt := .bool true) P4 (by kernel_rfl) (by kernel_rfl) (by kernel_rfl) (by kernel_rfl) (by kernel_rfl) (by kernel_rfl) ?_
    intro ts' h' E u0 v0 v3 v10
    have O5 : Ow h.n h' v5 ([] ++ b) := q8.fr (((((((X18.fr.trans0 X20).transL X22).transR X29.fr).transR X31).trans X33).transR X40.fr).transR E.fr) (by have d0 := q8.bq.1.e; have d1 := q8.bq.2; have d2 := X18.1; have d3 := X20.1; have d4 := X22.1; have d5 := X29.1; (first | omega | (intro s hs; omega) | (dsimp only; omega) | (intro s hs; dsimp only at hs; omega)))
    show Wp TF _ _ _
    rw [laid_eq u0 [(0, x), (3, v5), (10, .bool true)] (by simp [v0, v3, v10])]
    have m1 := hx.bq
    have k2 := hx.parts
    have m3 := hnil.bq
    have k4 := hnil.parts
    have m5 := q8.bq
    have k6 := q8.parts
    have m7 := P20.1
    have m8 := P22.1
    have m9 := F24.bq
    have k10 := F24.parts
    have m11 := P31.1
    have m12 := P33.1
    have m13 := F35.1
    have m14 := P4.1
    have m15 := O5.bq
    have k16 := O5.parts
    have m17 := X9.1
    have m18 := X18.1
    have m19 := X20.1
    have m20 := X22.1
    have m21 := X29.1
    have m22 := X31.1
    have m23 := X33.1
    have m24 := X40.1
    have m25 := E.1
    refine Wp.seq ?_
    refine Wp.region ?_
    refine Wo.pre 3 (by kernel_rfl) ?_
    refine Wo.val (.str ([] ++ b)) h' (by kernel_rfl) (iop_cvBS (v := v5) (by kernel_rfl) O5.bs) ?_
    refine Wo.pre 1 (by kernel_rfl) ?_
    have F26 := (F24.fr ((((X29.fr.trans0 X31).transL X33).transR X40.fr).transR E.fr) (by (first | omega | (intro s hs; omega) | (dsimp only; omega) | (intro s hs; dsimp only at hs; omega) | (simp only [blk_nils, blk_sl]; omega) | (intro s hs; simp only [blk_nils, blk_sl] at hs ⊢; omega) | (simp; done))))
    refine Wo.val (.str (b)) h' (by kernel_rfl) (iop_cvBS (v := x) (by kernel_rfl) F26) ?_
    refine Wo.cmpS (x := IX.t 56) (y := IX.t 58) (a := b) (b := b) (by kernel_rfl) (by kernel_rfl) (by kernel_rfl) (by kernel_rfl) (fun q27 => ?_) (fun q27 => ?_)
    rotate_left
    · exact absurd (rfl : b = b) (by with_reducible assumption)
    have m28 := F26.bq
    have k29 := F26.parts
    refine Wo.pre 2 (by kernel_rfl) ?_
    have c30 := wakes_run (h')
    refine Wo.call (by kernel_rfl) (by kernel_rfl) c30 ?_
    clear c30
    refine Wo.pre 2 (by kernel_rfl) ?_
    refine Wo.nil ?_
    refine Wp.ret ?_
    refine ⟨.inr rfl, (AV.bool true), (ret_one (res_tmp (by kernel_rfl) res_nil)), ?_⟩
    dsimp only
  | ok st n c =>
    have hP0 : Re.takeP ([] ++ b) = .ok st n c := hP
    have hR : Re.takeR b = .ok st n c := (Re.take_eq b).symm.trans hP
    have m1 := hx.bq
    have k2 := hx.parts
    have m3 := hnil.bq
    have k4 := hnil.parts
    refine Wp.seq ?_
    refine Wp.region ?_
    refine Wo.pre 1 (by kernel_rfl) ?_
    refine Wo.nil ?_
    refine Wp.seq ?_
    refine Wp.region ?_
    refine Wo.pre 1 (by kernel_rfl) ?_
    obtain ⟨v5, H6, a7, q8, X9, q10⟩ := Ow.appF (Ow.nil0 (lo := h.n)) hx (by first | omega | (simp; omega) | (simp; done) | assumption) (by first | omega | (simp; omega) | (simp; done) | assumption)
    refine Wo.val _ _ (by kernel_rfl) (iop_appG (v := AV.nils) (w := x) (by kernel_rfl) (by kernel_rfl) k2.2.2 a7) ?_
    have m11 := q8.bq
    have k12 := q8.parts
    have m13 := X9.1
    refine Wo.pre 1 (by kernel_rfl) ?_
    refine Wo.nil ?_
    refine Wp.seq ?_
    refine Wp.region ?_
    refine Wo.pre 1 (by kernel_rfl) ?_
    obtain ⟨r14, H15, c16, v17, rfl, X19, q20⟩ := takeP_ok q8.bs q10 hl0 (by first | omega | (simp; omega) | (simp; done) | assumption)
    have m21 := X19.1
    have m22 := q20.bq
    have k23 := q20.parts
    refine Wo.call (by kernel_rfl) (by kernel_rfl) c16 ?_
    clear c16
    refine Wo.pre 4 (by kernel_rfl) ?_
    obtain ⟨H24, e24, P24, X24, n24⟩ := pt_new H15 24 [AV.int IntKind.i64 0, AV.nils, AV.bool false] (ones_cons rfl (ones_cons rfl (ones_cons rfl ones_nil)))
    refine Wo.val (.ptr ⟨H.n H15, 0, 0⟩) H24 (by kernel_rfl) (e24 (v := AV.agg [AV.int IntKind.i64 0, AV.nils, AV.bool false]) (by kernel_rfl) rfl) ?_
    clear e24
    have m25 := X24.1
    obtain ⟨H26, e26, P26, X26, n26⟩ := P24.st 0 [AV.int IntKind.i64 ↑st, v17, AV.bool c] (by simp) (ones_cons rfl (ones_cons k23.2.1 (ones_cons rfl ones_nil)))
    refine Wo.val .undef H26 (by kernel_rfl) (iop_stP (a := { b := H15.n, g := 0, o := 0 }) (v := AV.agg [AV.int IntKind.i64 ↑st, v17, AV.bool c]) (vs := [AV.int IntKind.i64 ↑st, v17, AV.bool c]) (by kernel_rfl) (by kernel_rfl) rfl rfl e26) ?_
    have m27 := X26.1
    replace P26 : Pt H26 H15.n (Blk.cells 0 24 [AV.int IntKind.i64 ↑st, v17, AV.bool c] 0 false) := P26
    refine Wo.pre 2 (by kernel_rfl) ?_
    refine Wo.nil ?_
    refine Wp.seq ?_
    refine Wp.region ?_
    refine Wo.pre 1 (by kernel_rfl) ?_
    have F28 := (hx.fr (((X9.transR X19.fr).transR X24).trans X26) (by (first | omega | (intro s hs; omega) | (dsimp only; omega) | (intro s hs; dsimp only at hs; omega) | (simp only [blk_nils, blk_sl]; omega) | (intro s hs; simp only [blk_nils, blk_sl] at hs ⊢; omega) | (simp; done))))
    obtain ⟨r29, H30, c31, v32, rfl, X34, q35⟩ := takeR_ok F28 cx hl (by first | omega | (simp; omega) | (simp; done) | assumption)
    have m36 := X34.1
    have m37 := q35.bq
    have k38 := q35.parts
    refine Wo.call (by kernel_rfl) (by kernel_rfl) c31 ?_
    clear c31
    refine Wo.pre 4 (by kernel_rfl) ?_
    obtain ⟨H39, e39, P39, X39, n39⟩ := pt_new H30 28 [AV.int IntKind.i64 0, AV.nils, AV.bool false] (ones_cons rfl (ones_cons rfl (ones_cons rfl ones_nil)))
    refine Wo.val (.ptr ⟨H.n H30, 0, 0⟩) H39 (by kernel_rfl) (e39 (v := AV.agg [AV.int IntKind.i64 0, AV.nils, AV.bool false]) (by kernel_rfl) rfl) ?_
    clear e39
    have m40 := X39.1
    obtain ⟨H41, e41, P41, X41, n41⟩ := P39.st 0 [AV.int IntKind.i64 ↑st, v32, AV.bool c] (by simp) (ones_cons rfl (ones_cons k38.2.1 (ones_cons rfl ones_nil)))
    refine Wo.val .undef H41 (by kernel_rfl) (iop_stP (a := { b := H30.n, g := 0, o := 0 }) (v := AV.agg [AV.int IntKind.i64 ↑st, v32, AV.bool c]) (vs := [AV.int IntKind.i64 ↑st, v32, AV.bool c]) (by kernel_rfl) (by kernel_rfl) rfl rfl e41) ?_
    have m42 := X41.1
    replace P41 : Pt H41 H30.n (Blk.cells 0 28 [AV.int IntKind.i64 ↑st, v32, AV.bool c] 0 false) := P41
    refine Wo.pre 2 (by kernel_rfl) ?_
    refine Wo.nil ?_
    refine Wp.seq ?_
    refine Wp.region ?_
    have F43 := (P26.fr ((X34.fr.trans0 X39).transL X41) (by (first | omega | (intro s hs; omega) | (dsimp only; omega) | (intro s hs; dsimp only at hs; omega) | (simp only [blk_nils, blk_sl]; omega) | (intro s hs; simp only [blk_nils, blk_sl] at hs ⊢; omega) | (simp; done))))
    refine Wo.val (AV.agg [AV.int IntKind.i64 ↑st, v17, AV.bool c]) H41 (by kernel_rfl) (iop_ldP F43 (a := { b := H15.n, g := 0, o := 0 }) (by kernel_rfl) rfl (by kernel_rfl)) ?_
    refine Wo.val (AV.agg [AV.int IntKind.i64 ↑st, v32, AV.bool c]) H41 (by kernel_rfl) (iop_ldP P41 (a := { b := H30.n, g := 0, o := 0 }) (by kernel_rfl) rfl (by kernel_rfl)) ?_
    have F44 := (q20.fr ((((X24.transL X26).transR X34.fr).transR X39).trans X41) (by have d0 := m22.1.e; (first | omega | (intro s hs; omega) | (dsimp only; omega) | (intro s hs; dsimp only at hs; omega) | (simp only [blk_nils, blk_sl]; omega) | (intro s hs; simp only [blk_nils, blk_sl] at hs ⊢; omega) | (simp; done))))
    have F45 := (q35.fr (X39.transL X41) (by have d0 := m37.1.e; (first | omega | (intro s hs; omega) | (dsimp only; omega) | (intro s hs; dsimp only at hs; omega) | (simp only [blk_nils, blk_sl]; omega) | (intro s hs; simp only [blk_nils, blk_sl] at hs ⊢; omega) | (simp; done))))
    obtain ⟨r46, H47, c48, rfl, X50⟩ := sameR_same (↑st) (c) F44.bs F45.bs
    have m51 := X50.1
    refine Wo.call (by kernel_rfl) (by kernel_rfl) c48 ?_
    clear c48
    refine Wo.pre 3 (by kernel_rfl) ?_
    refine Wo.cmp (op := .eql) (x := IX.t 30) (y := IX.t 31) (k := IntKind.i64) (a := ↑((Re.head st n c).length + n)) (b := ↑((Re.head st n c).length + n)) ((↑((Re.head st n c).length + n) : Int) = (↑((Re.head st n c).length + n) : Int)) (by kernel_rfl) (by kernel_rfl) (by kernel_rfl) (by kernel_rfl) (by simp) (by kernel_rfl) (fun q52 => ?_) (fun q52 => ?_)
    rotate_left
    · (exfalso; omega)
    have m53 := P24.1
    have m54 := P26.1
    have m55 := F28.bq
    have k56 := F28.parts
    have m57 := P39.1
    have m58 := P41.1
    have m59 := F43.1
    have m60 := F44.bq
    have k61 := F44.parts
    have m62 := F45.bq
    have k63 := F45.parts
    refine Wo.pre 4 (by kernel_rfl) ?_
    refine Wo.pre 3 (by kernel_rfl) ?_
    refine Wo.nil ?_
    refine Wp.seq ?_
    refine Wp.seq ?_
    refine Wp.region ?_
    refine Wo.pre 1 (by kernel_rfl) ?_
    refine Wo.nil ?_
    refine Wp.block ?_
    have P4 := F43.fr X50.fr id
    have O4 := F44.fr X50.fr (.inr id)
    have hbd := q20.bd
    have hlb : (List.take n (List.drop (Re.head st n c).length ([] ++ b))).length ≤ 140737488351232 := by
      rw [List.length_take, List.length_drop]
      omega
    clear F44 F43 F45 q35
    rcases O4 with ⟨rfl, hz⟩ | ⟨bk, g, hb1, hb2, hb3, rfl | rfl⟩
    · refine spoil3_nil (p4 := H15.n) (x := x) (ow := v5) (rt := .bool true) P4 (by kernel_rfl) (by kernel_rfl) (by kernel_rfl) (by kernel_rfl) (by kernel_rfl) (by kernel_rfl) ?_
      intro ts' h' E u0 v0 v3 v10
      clear q20
      have O5 : Ow h.n h' v5 ([] ++ b) := q8.fr (((((((X19.fr.trans0 X24).transL X26).transR X34.fr).transR X39).trans X41).transR X50.fr).transR E.fr) (by have d0 := q8.bq.1.e; have d1 := q8.bq.2; have d2 := X19.1; have d3 := X24.1; have d4 := X26.1; have d5 := X34.1; (first | omega | (intro s hs; omega) | (dsimp only; omega) | (intro s hs; dsimp only at hs; omega)))
      show Wp TF _ _ _
      rw [laid_eq u0 [(0, x), (3, v5), (10, .bool true)] (by simp [v0, v3, v10])]
      have m1 := hx.bq
      have k2 := hx.parts
      have m3 := hnil.bq
      have k4 := hnil.parts
      have m5 := q8.bq
      have k6 := q8.parts
      have m7 := P24.1
      have m8 := F28.bq
      have k9 := F28.parts
      have m10 := P39.1
      have m11 := P41.1
      have m12 := P26.1
      have m13 := P4.1
      have m14 := O5.bq
      have k15 := O5.parts
      have m16 := X9.1
      have m17 := X19.1
      have m18 := X24.1
      have m19 := X26.1
      have m20 := X34.1
      have m21 := X39.1
      have m22 := X41.1
      have m23 := X50.1
      have m24 := E.1
      refine Wp.seq ?_
      refine Wp.region ?_
      refine Wo.pre 3 (by kernel_rfl) ?_
      refine Wo.val (.str ([] ++ b)) h' (by kernel_rfl) (iop_cvBS (v := v5) (by kernel_rfl) O5.bs) ?_
      refine Wo.pre 1 (by kernel_rfl) ?_
      have F25 := (F28.fr ((((X34.fr.trans0 X39).transL X41).transR X50.fr).transR E.fr) (by (first | omega | (intro s hs; omega) | (dsimp only; omega) | (intro s hs; dsimp only at hs; omega) | (simp only [blk_nils, blk_sl]; omega) | (intro s hs; simp only [blk_nils, blk_sl] at hs ⊢; omega) | (simp; done))))
      refine Wo.val (.str (b)) h' (by kernel_rfl) (iop_cvBS (v := x) (by kernel_rfl) F25) ?_
      refine Wo.cmpS (x := IX.t 56) (y := IX.t 58) (a := b) (b := b) (by kernel_rfl) (by kernel_rfl) (by kernel_rfl) (by kernel_rfl) (fun q26 => ?_) (fun q26 => ?_)
      rotate_left
      · exact absurd (rfl : b = b) (by with_reducible assumption)
      have m27 := F25.bq
      have k28 := F25.parts
      refine Wo.pre 2 (by kernel_rfl) ?_
      have c29 := wakes_run (h')
      refine Wo.call (by kernel_rfl) (by kernel_rfl) c29 ?_
      clear c29
      refine Wo.pre 2 (by kernel_rfl) ?_
      refine Wo.nil ?_
      refine Wp.ret ?_
      refine ⟨.inr rfl, (AV.bool true), (ret_one (res_tmp (by kernel_rfl) res_nil)), ?_⟩
      dsimp only
    · have hbd2 : bk + 1 ≤ H15.n := hbd.2
      refine spoil3 (b := bk) (g := g) (p4 := H15.n) (x := x) (ow := v5) (rt := .bool true) (by omega) hlb _ 0 (Nat.zero_add _) _ _ P4 ⟨hb2, hb3⟩ rfl _ (by kernel_rfl) (by kernel_rfl) (by kernel_rfl) (by kernel_rfl) (by kernel_rfl) (by kernel_rfl) _ ?_
      intro ts' h' E u0 v0 v3 v10
      clear q20 P4
      have O5 : Ow h.n h' v5 ([] ++ b) := q8.fr (((((((X19.fr.trans0 X24).transL X26).transR X34.fr).transR X39).trans X41).transR X50.fr).trans E) (by have d0 := q8.bq.1.e; have d1 := q8.bq.2; have d2 := X19.1; have d3 := X24.1; have d4 := X26.1; have d5 := X34.1; have d6 := hb1; (first | omega | (intro s hs; omega) | (dsimp only; omega) | (intro s hs; dsimp only at hs; omega)))
      show Wp TF _ _ _
      rw [laid_eq u0 [(0, x), (3, v5), (10, .bool true)] (by simp [v0, v3, v10])]
      have m1 := hx.bq
      have k2 := hx.parts
      have m3 := hnil.bq
      have k4 := hnil.parts
      have m5 := q8.bq
      have k6 := q8.parts
      have m7 := P24.1
      have m8 := F28.bq
      have k9 := F28.parts
      have m10 := P39.1
      have m11 := P41.1
      have m12 := P26.1
      have m13 := O5.bq
      have k14 := O5.parts
      have m15 := X9.1
      have m16 := X19.1
      have m17 := X24.1
      have m18 := X26.1
      have m19 := X34.1
      have m20 := X39.1
      have m21 := X41.1
      have m22 := X50.1
      have m23 := E.1
      refine Wp.seq ?_
      refine Wp.region ?_
      refine Wo.pre 3 (by kernel_rfl) ?_
      refine Wo.val (.str ([] ++ b)) h' (by kernel_rfl) (iop_cvBS (v := v5) (by kernel_rfl) O5.bs) ?_
      refine Wo.pre 1 (by kernel_rfl) ?_
      have F24 := (F28.fr ((((X34.fr.trans0 X39).transL X41).transR X50.fr).trans E) (by (first | omega | (intro s hs; omega) | (dsimp only; omega) | (intro s hs; dsimp only at hs; omega) | (simp only [blk_nils, blk_sl]; omega) | (intro s hs; simp only [blk_nils, blk_sl] at hs ⊢; omega) | (simp; done))))
      refine Wo.val (.str (b)) h' (by kernel_rfl) (iop_cvBS (v := x) (by kernel_rfl) F24) ?_
      refine Wo.cmpS (x := IX.t 56) (y := IX.t 58) (a := b) (b := b) (by kernel_rfl) (by kernel_rfl) (by kernel_rfl) (by kernel_rfl) (fun q25 => ?_) (fun q25 => ?_)
      rotate_left
      · exact absurd (rfl : b = b) (by with_reducible assumption)
      have m26 := F24.bq
      have k27 := F24.parts
      refine Wo.pre 2 (by kernel_rfl) ?_
      have c28 := wakes_run (h')
      refine Wo.call (by kernel_rfl) (by kernel_rfl) c28 ?_
      clear c28
      refine Wo.pre 2 (by kernel_rfl) ?_
      refine Wo.nil ?_
      refine Wp.ret ?_
      refine ⟨.inr rfl, (AV.bool true), (ret_one (res_tmp (by kernel_rfl) res_nil)), ?_⟩
      dsimp only
    · have hbd2 : bk + 1 ≤ H15.n := hbd.2
      refine spoil3 (b := bk) (g := g) (p4 := H15.n) (x := x) (ow := v5) (rt := .bool true) (by omega) hlb _ 0 (Nat.zero_add _) _ _ P4 ⟨hb2, hb3⟩ rfl _ (by kernel_rfl) (by kernel_rfl) (by kernel_rfl) (by kernel_rfl) (by kernel_rfl) (by kernel_rfl) _ ?_
      intro ts' h' E u0 v0 v3 v10
      clear q20 P4
      have O5 : Ow h.n h' v5 ([] ++ b) := q8.fr (((((((X19.fr.trans0 X24).transL X26).transR X34.fr).transR X39).trans X41).transR X50.fr).trans E) (by have d0 := q8.bq.1.e; have d1 := q8.bq.2; have d2 := X19.1; have d3 := X24.1; have d4 := X26.1; have d5 := X34.1; have d6 := hb1; (first | omega | (intro s hs; omega) | (dsimp only; omega) | (intro s hs; dsimp only at hs; omega)))
      show Wp TF _ _ _
      rw [laid_eq u0 [(0, x), (3, v5), (10, .bool true)] (by simp [v0, v3, v10])]
      have m1 := hx.bq
      have k2 := hx.parts
      have m3 := hnil.bq
      have k4 := hnil.parts
      have m5 := q8.bq
      have k6 := q8.parts
      have m7 := P24.1
      have m8 := F28.bq
      have k9 := F28.parts
      have m10 := P39.1
      have m11 := P41.1
      have m12 := P26.1
      have m13 := O5.bq
      have k14 := O5.parts
      have m15 := X9.1
      have m16 := X19.1
      have m17 := X24.1
      have m18 := X26.1
      have m19 := X34.1
      have m20 := X39.1
      have m21 := X41.1
      have m22 := X50.1
      have m23 := E.1
      refine Wp.seq ?_
      refine Wp.region ?_
      refine Wo.pre 3 (by kernel_rfl) ?_
      refine Wo.val (.str ([] ++ b)) h' (by kernel_rfl) (iop_cvBS (v := v5) (by kernel_rfl) O5.bs) ?_
      refine Wo.pre 1 (by kernel_rfl) ?_
      have F24 := (F28.fr ((((X34.fr.trans0 X39).transL X41).transR X50.fr).trans E) (by (first | omega | (intro s hs; omega) | (dsimp only; omega) | (intro s hs; dsimp only at hs; omega) | (simp only [blk_nils, blk_sl]; omega) | (intro s hs; simp only [blk_nils, blk_sl] at hs ⊢; omega) | (simp; done))))
      refine Wo.val (.str (b)) h' (by kernel_rfl) (iop_cvBS (v := x) (by kernel_rfl) F24) ?_
      refine Wo.cmpS (x := IX.t 56) (y := IX.t 58) (a := b) (b := b) (by kernel_rfl) (by kernel_rfl) (by kernel_rfl) (by kernel_rfl) (fun q25 => ?_) (fun q25 => ?_)
      rotate_left
      · exact absurd (rfl : b = b) (by with_reducible assumption)
      have m26 := F24.bq
      have k27 := F24.parts
      refine Wo.pre 2 (by kernel_rfl) ?_
      have c28 := wakes_run (h')
      refine Wo.call (by kernel_rfl) (by kernel_rfl) c28 ?_
      clear c28
      refine Wo.pre 2 (by kernel_rfl) ?_
      refine Wo.nil ?_
      refine Wp.ret ?_
      refine ⟨.inr rfl, (AV.bool true), (ret_one (res_tmp (by kernel_rfl) res_nil)), ?_⟩
      dsimp only
end Go.Det
