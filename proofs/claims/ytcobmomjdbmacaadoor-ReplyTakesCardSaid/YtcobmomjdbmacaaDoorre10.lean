/- Reply: Take: behind the digits: the walks. -/
import Derived.Test.YtcobmomjdbmacaaDoorre9
set_option linter.unusedVariables false
set_option linter.unusedSimpArgs false
set_option linter.unusedSectionVars false
namespace Go.Det
open Go.Proofs
attribute [local irreducible] Wp Wo Wd iop ev slots quiets wanted put

theorem cut_eq {l : List UInt8} {i j n : Nat} (hj : j = i + n) : (l.take j).drop i = (l.drop i).take n := by
  subst hj
  rw [List.drop_take, Nat.add_sub_cancel_left]

set_option maxHeartbeats 8000000 in
theorem tail_short_more_t {h0 h : H} {a : AA} {q : Cp} {l : List UInt8} {at_ k st p2 : Nat} (hb : Bs h (.sl a l.length q) l) (cx : Cok (.sl a l.length q)) (hl : l.length ≤ 140737488351232) (hat : at_ + k ≤ l.length) (P2 : Pt h p2 (.cells 0 24 [.int .i64 0, .nils, .bool false] 0 false)) (hp2 : h0.n ≤ p2) (hE : Ext h0 h) {d : List UInt8} (hT : (l.take (at_ + k)).drop at_ = d) (hd : ∀ c ∈ d, Re.isDig c = true) (hd0 : d ≠ []) (hk : k ≤ 8) (hdl : d.length = k) {n : Nat} (hn : n = Re.val d) (hn9 : n ≤ 1048576) (hcan : Re.dec n = d) (hcf : List.isPrefixOf [13, 10, 67] (List.drop (at_ + k) l) = true) (hs : (List.drop (at_ + k) l).length < 23) (hp : List.isPrefixOf (List.drop (at_ + k) l) [13, 10, 67, 111, 110, 110, 101, 99, 116, 105, 111, 110, 58, 32, 99, 108, 111, 115, 101, 13, 10, 13, 10] = true)
    {ts : List AV} (t0 : ts.length = 169) (g0 : getL ts 0 = some (.sl a l.length q)) (g2 : getL ts 2 = some (.ptr ⟨p2, 0, 0⟩)) (g5 : getL ts 5 = some (.int .i64 st)) (g6 : getL ts 6 = some (.int .i64 at_)) (g8 : getL ts 8 = some (.fn (.func 18) [] [])) (g9 : getL ts 9 = some (.int .i64 k)) :
    Wp TF tail8 (ts, h) (After h0 l .more) := by
  have hA : Runs TF 19 [.str (List.drop at_ (List.take (at_ + k) l))] h (.tup [.int .i64 ((n : Nat) : Int), .nili]) h := by rw [hT, hn]; exact atoi_run h hd hd0 (by omega)
  have hne : ¬ List.drop at_ (List.take (at_ + k) l) = [] := by rw [hT]; exact hd0
  have hI : Runs TF 20 [.int .i64 ((n : Nat) : Int)] h (.str (List.drop at_ (List.take (at_ + k) l))) h := by rw [hT, ← hcan]; exact itoa_run h (by omega)
  have hnn := hE.1
  clear hT hcan hd hd0 hn
  rw [laid_eq t0 [(0, .sl a l.length q), (2, .ptr ⟨p2, 0, 0⟩), (5, .int .i64 st), (6, .int .i64 at_), (8, .fn (.func 18) [] []), (9, .int .i64 k)] (by simp [g0, g2, g5, g6, g8, g9])]
  have m1 := hb.bq
  have k2 := hb.parts
  have m3 := P2.1
  have m4 := hE.1
  refine Wp.seq ?_
  refine Wp.draw ?_
  refine Wd.pure (by kernel_rfl) (by kernel_rfl) ?_
  refine Wd.pure (by kernel_rfl) (by kernel_rfl) ?_
  refine Wd.pure (by kernel_rfl) (by kernel_rfl) ?_
  refine Wd.pure (by kernel_rfl) (by kernel_rfl) ?_
  refine Wd.make (.int IntKind.i64 ((↑at_ : Int) + (↑k : Int))) h (by kernel_rfl) (by kernel_rfl) (iop_arith (op := .add) (a := ↑at_) (b := ↑k) (by kernel_rfl) (by kernel_rfl) (by simp) (bin_add IntKind.i64 (by simp only [min_i64]; omega) (by simp only [max_i64]; omega))) ?_
  obtain ⟨z5, e5, b5, o5⟩ := hb.subN cx (ei := (↑at_ : Int)) (ej := (↑at_ + ↑k : Int)) (at_) ((at_) + (k)) rfl (by omega) (by first | omega | simp; omega) (by first | omega | simp; omega)
  refine Wd.make z5 h (by kernel_rfl) (by kernel_rfl) (e5 (by kernel_rfl) (by kernel_rfl) (by kernel_rfl)) ?_
  clear e5
  have m6 := b5.bq
  have k7 := b5.parts
  refine Wd.read (.str (List.drop at_ (List.take (at_ + k) l))) (.cvBS (.c (z5))) (by kernel_rfl) (by kernel_rfl) (iop_cvBS (v := z5) (by kernel_rfl) b5) ?_
  refine Wd.pure (by kernel_rfl) (by kernel_rfl) ?_
  refine Wd.pure (by kernel_rfl) (by kernel_rfl) ?_
  refine Wd.pure (by kernel_rfl) (by kernel_rfl) ?_
  refine Wd.make (.int IntKind.i64 ((↑at_ : Int) + (↑k : Int))) h (by kernel_rfl) (by kernel_rfl) (iop_arith (op := .add) (a := ↑at_) (b := ↑k) (by kernel_rfl) (by kernel_rfl) (by simp) (bin_add IntKind.i64 (by simp only [min_i64]; omega) (by simp only [max_i64]; omega))) ?_
  obtain ⟨z8, e8, b8, o8⟩ := hb.fromN cx (ei := (↑at_ + ↑k : Int)) ((at_) + (k)) (by omega) (by first | omega | simp; omega)
  refine Wd.make z8 h (by kernel_rfl) (by kernel_rfl) (e8 (by kernel_rfl) (by kernel_rfl)) ?_
  clear e8
  have m9 := b8.bq
  have k10 := b8.parts
  refine Wd.pure (by kernel_rfl) (by kernel_rfl) ?_
  refine Wd.pure (by kernel_rfl) (by kernel_rfl) ?_
  refine Wd.done (holds_of [(IOp.cvBS (IX.c z5), AV.str (List.drop at_ (List.take (at_ + k) l)), 6)] (by kernel_rfl) (holds_and (rd_cvBS b5) rfl)) ?_
  refine Wp.seq ?_
  refine Wp.region ?_
  refine Wo.pre 1 (by kernel_rfl) ?_
  refine Wo.call (by kernel_rfl) (by kernel_rfl) hA ?_
  clear hA
  refine Wo.pre 5 (by kernel_rfl) ?_
  refine Wo.nil ?_
  refine Wp.seq ?_
  refine Wp.block ?_
  refine Wp.seq ?_
  refine Wp.region ?_
  refine Wo.pre 1 (by kernel_rfl) ?_
  refine Wo.cmpS (x := IX.t 79) (y := IX.c (AV.str [])) (a := List.drop at_ (List.take (at_ + k) l)) (b := []) (by kernel_rfl) (by kernel_rfl) (by kernel_rfl) (by kernel_rfl) (fun q11 => ?_) (fun q11 => ?_)
  · exact absurd (by with_reducible assumption) hne
  refine Wo.pre 1 (by kernel_rfl) ?_
  refine Wo.nil ?_
  refine Wp.cond false (by kernel_rfl) ?_
  refine Wp.seq ?_
  refine Wp.region ?_
  refine Wo.pre 1 (by kernel_rfl) ?_
  refine Wo.pre 3 (by kernel_rfl) ?_
  refine Wo.call (by kernel_rfl) (by kernel_rfl) hI ?_
  clear hI
  refine Wo.pre 1 (by kernel_rfl) ?_
  refine Wo.cmpSN (x := IX.t 94) (y := IX.t 95) (a := List.drop at_ (List.take (at_ + k) l)) (b := List.drop at_ (List.take (at_ + k) l)) (by kernel_rfl) (by kernel_rfl) (by kernel_rfl) (by kernel_rfl) (fun q12 => ?_) (fun q12 => ?_)
  rotate_left
  · exact absurd rfl (by with_reducible assumption)
  refine Wo.pre 3 (by kernel_rfl) ?_
  refine Wo.cmp (op := .gtr) (x := IX.t 99) (y := IX.c (AV.int IntKind.i64 1048576)) (k := IntKind.i64) (a := ↑n) (b := 1048576) ((↑n : Int) > (1048576 : Int)) (by kernel_rfl) (by kernel_rfl) (by kernel_rfl) (by kernel_rfl) (by simp) (by kernel_rfl) (fun q13 => ?_) (fun q13 => ?_)
  · (exfalso; omega)
  refine Wo.pre 2 (by kernel_rfl) ?_
  refine Wo.nil ?_
  refine Wp.cond false (by kernel_rfl) ?_
  refine Wp.skip ?_
  refine Wp.seq ?_
  refine Wp.region ?_
  refine Wo.pre 2 (by kernel_rfl) ?_
  obtain ⟨H14, e14, P14, X14, n14⟩ := pt_new h 24 [AV.int IntKind.i64 0, AV.nils, AV.bool false] (ones_cons rfl (ones_cons rfl (ones_cons rfl ones_nil)))
  refine Wo.val (.ptr ⟨H.n h, 0, 0⟩) H14 (by kernel_rfl) (e14 (v := AV.agg [AV.int IntKind.i64 0, AV.nils, AV.bool false]) (by kernel_rfl) rfl) ?_
  clear e14
  have m15 := X14.1
  obtain ⟨H16, e16, P16, X16, n16⟩ := P14.st 0 [AV.int IntKind.i64 ↑st, AV.nils, AV.bool false] (by simp) (ones_cons rfl (ones_cons rfl (ones_cons rfl ones_nil)))
  refine Wo.val .undef H16 (by kernel_rfl) (iop_stP (a := { b := h.n, g := 0, o := 0 }) (v := AV.agg [AV.int IntKind.i64 ↑st, AV.nils, AV.bool false]) (vs := [AV.int IntKind.i64 ↑st, AV.nils, AV.bool false]) (by kernel_rfl) (by kernel_rfl) rfl rfl e16) ?_
  have m17 := X16.1
  replace P16 : Pt H16 h.n (Blk.cells 0 24 [AV.int IntKind.i64 ↑st, AV.nils, AV.bool false] 0 false) := P16
  refine Wo.nil ?_
  refine Wp.seq ?_
  refine Wp.region ?_
  refine Wo.pre 1 (by kernel_rfl) ?_
  refine Wo.nil ?_
  refine Wp.seq ?_
  refine Wp.seq ?_
  refine Wp.region ?_
  refine Wo.pre 2 (by kernel_rfl) ?_
  (refine Wo.cvSB [13, 10, 67] rfl (by kernel_rfl) (by kernel_rfl) (by decide) (fun Hs Xs Os => ?_); have ns := Xs.1; have qs := Os.bq; have ps := Os.parts)
  have F18 := (b8.fr ((X14.transL X16).transR Xs) (by (first | omega | (intro s hs; omega) | (dsimp only; omega) | (intro s hs; dsimp only at hs; omega) | (simp only [blk_nils, blk_sl]; omega) | (intro s hs; simp only [blk_nils, blk_sl] at hs ⊢; omega) | (simp; done))))
  have c19 := bpre_run F18 o8 Os.bs
  refine Wo.call (by kernel_rfl) (by kernel_rfl) c19 ?_
  clear c19
  refine Wo.boolS (fun q20 => ?_) (fun q20 => ?_)
  rotate_left
  · exact absurd (hcf.symm.trans (by with_reducible assumption)) (by decide)
  have m21 := P14.1
  have m22 := P16.1
  have m23 := Os.bq
  have k24 := Os.parts
  have m25 := F18.bq
  have k26 := F18.parts
  have m27 := Xs.1
  refine Wo.pre 1 (by kernel_rfl) ?_
  have F28 := (P16.fr Xs id)
  obtain ⟨H29, e29, P29, X29, n29⟩ := F28.st 2 [AV.bool true] (by simp) (ones_cons rfl ones_nil)
  refine Wo.val .undef H29 (by kernel_rfl) (iop_stP (a := { b := h.n, g := 0, o := 2 }) (v := AV.bool true) (vs := [AV.bool true]) (by kernel_rfl) (by kernel_rfl) rfl rfl e29) ?_
  have m30 := X29.1
  replace P29 : Pt H29 h.n (Blk.cells 0 24 [AV.int IntKind.i64 ↑st, AV.nils, AV.bool true] 0 false) := P29
  refine Wo.nil ?_
  refine Wp.seq ?_
  refine Wp.region ?_
  refine Wo.pre 1 (by kernel_rfl) ?_
  refine Wo.val (AV.bool true) H29 (by kernel_rfl) (iop_ldP P29 (a := { b := h.n, g := 0, o := 2 }) (by kernel_rfl) rfl (by kernel_rfl)) ?_
  refine Wo.nil ?_
  refine Wp.cond true (by kernel_rfl) ?_
  refine Wp.region ?_
  refine Wo.pre 1 (by kernel_rfl) ?_
  refine Wo.nil ?_
  refine Wp.seq ?_
  refine Wp.seq ?_
  refine Wp.region ?_
  refine Wo.pre 1 (by kernel_rfl) ?_
  have F31 := (F18.fr X29 (by (first | omega | (intro s hs; omega) | (dsimp only; omega) | (intro s hs; dsimp only at hs; omega) | (simp only [blk_nils, blk_sl]; omega) | (intro s hs; simp only [blk_nils, blk_sl] at hs ⊢; omega) | (simp; done))))
  refine Wo.val (.int .i64 (List.length (List.drop (at_ + k) l) : Nat)) H29 (by kernel_rfl) (Bs.len F31 (by kernel_rfl)) ?_
  refine Wo.pre 2 (by kernel_rfl) ?_
  refine Wo.cmp (op := .lss) (x := IX.t 117) (y := IX.t 119) (k := IntKind.i64) (a := ↑(List.drop (at_ + k) l).length) (b := 23) ((↑(List.drop (at_ + k) l).length : Int) < (23 : Int)) (by kernel_rfl) (by kernel_rfl) (by kernel_rfl) (by kernel_rfl) (by simp) (by kernel_rfl) (fun q32 => ?_) (fun q32 => ?_)
  rotate_left
  · (exfalso; omega)
  have m33 := F28.1
  have m34 := P29.1
  have m35 := F31.bq
  have k36 := F31.parts
  refine Wo.nil ?_
  refine Wp.cond true (by kernel_rfl) ?_
  refine Wp.seq ?_
  refine Wp.region ?_
  refine Wo.pre 3 (by kernel_rfl) ?_
  refine Wo.val (.str (List.drop (at_ + k) l)) H29 (by kernel_rfl) (iop_cvBS (v := z8) (by kernel_rfl) F31) ?_
  have c37 := pre_run (H29) ([13, 10, 67, 111, 110, 110, 101, 99, 116, 105, 111, 110, 58, 32, 99, 108, 111, 115, 101, 13, 10, 13, 10]) (List.drop (at_ + k) l)
  refine Wo.call (by kernel_rfl) (by kernel_rfl) c37 ?_
  clear c37
  refine Wo.boolS (fun q38 => ?_) (fun q38 => ?_)
  rotate_left
  · exact absurd (hp.symm.trans (by with_reducible assumption)) (by decide)
  obtain ⟨r39, H40, c41, rfl, X43⟩ := more_run (H29) (true)
  have m44 := X43.1
  refine Wo.call (by kernel_rfl) (by kernel_rfl) c41 ?_
  clear c41
  refine Wo.pre 3 (by kernel_rfl) ?_
  have F45 := (P2.fr ((((X14.transL X16).transR Xs).trans X29).transR X43.fr) (by (first | omega | (intro s hs; omega) | (dsimp only; omega) | (intro s hs; dsimp only at hs; omega) | (simp only [blk_nils, blk_sl]; omega) | (intro s hs; simp only [blk_nils, blk_sl] at hs ⊢; omega) | (simp; done))))
  obtain ⟨H46, e46, P46, X46, n46⟩ := F45.st 0 [AV.int IntKind.i64 0, AV.nils, AV.bool false] (by simp) (ones_cons rfl (ones_cons rfl (ones_cons rfl ones_nil)))
  refine Wo.val .undef H46 (by kernel_rfl) (iop_stP (a := { b := p2, g := 0, o := 0 }) (v := AV.agg [AV.int IntKind.i64 0, AV.nils, AV.bool false]) (vs := [AV.int IntKind.i64 0, AV.nils, AV.bool false]) (by kernel_rfl) (by kernel_rfl) rfl rfl e46) ?_
  have m47 := X46.1
  replace P46 : Pt H46 p2 (Blk.cells 0 24 [AV.int IntKind.i64 0, AV.nils, AV.bool false] 0 false) := P46
  refine Wo.pre 2 (by kernel_rfl) ?_
  refine Wo.nil ?_
  refine Wp.ret ?_
  refine ⟨.inr rfl, (.tup [AV.agg [AV.int IntKind.i64 0, AV.nils, AV.bool false], AV.int IntKind.i64 0, AV.int IntKind.i64 44]), (ret_many (res_cell (a := { b := p2, g := 0, o := 0 }) (by kernel_rfl) (P46.ld rfl (by kernel_rfl)) (res_tmp (by kernel_rfl) (res_tmp (by kernel_rfl) res_nil))) rfl), ?_⟩
  dsimp only
  exact ⟨(((((((hE.fr.trans0 X14).transL X16).transR Xs).trans X29).transR X43.fr).trans X46).ext (by intro s hs; first | omega | (dsimp only at hs; omega) | (simp only [blk_nils, blk_sl] at hs ⊢; omega))), rfl⟩

set_option maxHeartbeats 8000000 in
theorem tail_short_form_t {h0 h : H} {a : AA} {q : Cp} {l : List UInt8} {at_ k st p2 : Nat} (hb : Bs h (.sl a l.length q) l) (cx : Cok (.sl a l.length q)) (hl : l.length ≤ 140737488351232) (hat : at_ + k ≤ l.length) (P2 : Pt h p2 (.cells 0 24 [.int .i64 0, .nils, .bool false] 0 false)) (hp2 : h0.n ≤ p2) (hE : Ext h0 h) {d : List UInt8} (hT : (l.take (at_ + k)).drop at_ = d) (hd : ∀ c ∈ d, Re.isDig c = true) (hd0 : d ≠ []) (hk : k ≤ 8) (hdl : d.length = k) {n : Nat} (hn : n = Re.val d) (hn9 : n ≤ 1048576) (hcan : Re.dec n = d) (hcf : List.isPrefixOf [13, 10, 67] (List.drop (at_ + k) l) = true) (hs : (List.drop (at_ + k) l).length < 23) (hp : List.isPrefixOf (List.drop (at_ + k) l) [13, 10, 67, 111, 110, 110, 101, 99, 116, 105, 111, 110, 58, 32, 99, 108, 111, 115, 101, 13, 10, 13, 10] = false)
    {ts : List AV} (t0 : ts.length = 169) (g0 : getL ts 0 = some (.sl a l.length q)) (g2 : getL ts 2 = some (.ptr ⟨p2, 0, 0⟩)) (g5 : getL ts 5 = some (.int .i64 st)) (g6 : getL ts 6 = some (.int .i64 at_)) (g8 : getL ts 8 = some (.fn (.func 18) [] [])) (g9 : getL ts 9 = some (.int .i64 k)) :
    Wp TF tail8 (ts, h) (After h0 l .form) := by
  have hA : Runs TF 19 [.str (List.drop at_ (List.take (at_ + k) l))] h (.tup [.int .i64 ((n : Nat) : Int), .nili]) h := by rw [hT, hn]; exact atoi_run h hd hd0 (by omega)
  have hne : ¬ List.drop at_ (List.take (at_ + k) l) = [] := by rw [hT]; exact hd0
  have hI : Runs TF 20 [.int .i64 ((n : Nat) : Int)] h (.str (List.drop at_ (List.take (at_ + k) l))) h := by rw [hT, ← hcan]; exact itoa_run h (by omega)
  have hnn := hE.1
  clear hT hcan hd hd0 hn
  rw [laid_eq t0 [(0, .sl a l.length q), (2, .ptr ⟨p2, 0, 0⟩), (5, .int .i64 st), (6, .int .i64 at_), (8, .fn (.func 18) [] []), (9, .int .i64 k)] (by simp [g0, g2, g5, g6, g8, g9])]
  have m1 := hb.bq
  have k2 := hb.parts
  have m3 := P2.1
  have m4 := hE.1
  refine Wp.seq ?_
  refine Wp.draw ?_
  refine Wd.pure (by kernel_rfl) (by kernel_rfl) ?_
  refine Wd.pure (by kernel_rfl) (by kernel_rfl) ?_
  refine Wd.pure (by kernel_rfl) (by kernel_rfl) ?_
  refine Wd.pure (by kernel_rfl) (by kernel_rfl) ?_
  refine Wd.make (.int IntKind.i64 ((↑at_ : Int) + (↑k : Int))) h (by kernel_rfl) (by kernel_rfl) (iop_arith (op := .add) (a := ↑at_) (b := ↑k) (by kernel_rfl) (by kernel_rfl) (by simp) (bin_add IntKind.i64 (by simp only [min_i64]; omega) (by simp only [max_i64]; omega))) ?_
  obtain ⟨z5, e5, b5, o5⟩ := hb.subN cx (ei := (↑at_ : Int)) (ej := (↑at_ + ↑k : Int)) (at_) ((at_) + (k)) rfl (by omega) (by first | omega | simp; omega) (by first | omega | simp; omega)
  refine Wd.make z5 h (by kernel_rfl) (by kernel_rfl) (e5 (by kernel_rfl) (by kernel_rfl) (by kernel_rfl)) ?_
  clear e5
  have m6 := b5.bq
  have k7 := b5.parts
  refine Wd.read (.str (List.drop at_ (List.take (at_ + k) l))) (.cvBS (.c (z5))) (by kernel_rfl) (by kernel_rfl) (iop_cvBS (v := z5) (by kernel_rfl) b5) ?_
  refine Wd.pure (by kernel_rfl) (by kernel_rfl) ?_
  refine Wd.pure (by kernel_rfl) (by kernel_rfl) ?_
  refine Wd.pure (by kernel_rfl) (by kernel_rfl) ?_
  refine Wd.make (.int IntKind.i64 ((↑at_ : Int) + (↑k : Int))) h (by kernel_rfl) (by kernel_rfl) (iop_arith (op := .add) (a := ↑at_) (b := ↑k) (by kernel_rfl) (by kernel_rfl) (by simp) (bin_add IntKind.i64 (by simp only [min_i64]; omega) (by simp only [max_i64]; omega))) ?_
  obtain ⟨z8, e8, b8, o8⟩ := hb.fromN cx (ei := (↑at_ + ↑k : Int)) ((at_) + (k)) (by omega) (by first | omega | simp; omega)
  refine Wd.make z8 h (by kernel_rfl) (by kernel_rfl) (e8 (by kernel_rfl) (by kernel_rfl)) ?_
  clear e8
  have m9 := b8.bq
  have k10 := b8.parts
  refine Wd.pure (by kernel_rfl) (by kernel_rfl) ?_
  refine Wd.pure (by kernel_rfl) (by kernel_rfl) ?_
  refine Wd.done (holds_of [(IOp.cvBS (IX.c z5), AV.str (List.drop at_ (List.take (at_ + k) l)), 6)] (by kernel_rfl) (holds_and (rd_cvBS b5) rfl)) ?_
  refine Wp.seq ?_
  refine Wp.region ?_
  refine Wo.pre 1 (by kernel_rfl) ?_
  refine Wo.call (by kernel_rfl) (by kernel_rfl) hA ?_
  clear hA
  refine Wo.pre 5 (by kernel_rfl) ?_
  refine Wo.nil ?_
  refine Wp.seq ?_
  refine Wp.block ?_
  refine Wp.seq ?_
  refine Wp.region ?_
  refine Wo.pre 1 (by kernel_rfl) ?_
  refine Wo.cmpS (x := IX.t 79) (y := IX.c (AV.str [])) (a := List.drop at_ (List.take (at_ + k) l)) (b := []) (by kernel_rfl) (by kernel_rfl) (by kernel_rfl) (by kernel_rfl) (fun q11 => ?_) (fun q11 => ?_)
  · exact absurd (by with_reducible assumption) hne
  refine Wo.pre 1 (by kernel_rfl) ?_
  refine Wo.nil ?_
  refine Wp.cond false (by kernel_rfl) ?_
  refine Wp.seq ?_
  refine Wp.region ?_
  refine Wo.pre 1 (by kernel_rfl) ?_
  refine Wo.pre 3 (by kernel_rfl) ?_
  refine Wo.call (by kernel_rfl) (by kernel_rfl) hI ?_
  clear hI
  refine Wo.pre 1 (by kernel_rfl) ?_
  refine Wo.cmpSN (x := IX.t 94) (y := IX.t 95) (a := List.drop at_ (List.take (at_ + k) l)) (b := List.drop at_ (List.take (at_ + k) l)) (by kernel_rfl) (by kernel_rfl) (by kernel_rfl) (by kernel_rfl) (fun q12 => ?_) (fun q12 => ?_)
  rotate_left
  · exact absurd rfl (by with_reducible assumption)
  refine Wo.pre 3 (by kernel_rfl) ?_
  refine Wo.cmp (op := .gtr) (x := IX.t 99) (y := IX.c (AV.int IntKind.i64 1048576)) (k := IntKind.i64) (a := ↑n) (b := 1048576) ((↑n : Int) > (1048576 : Int)) (by kernel_rfl) (by kernel_rfl) (by kernel_rfl) (by kernel_rfl) (by simp) (by kernel_rfl) (fun q13 => ?_) (fun q13 => ?_)
  · (exfalso; omega)
  refine Wo.pre 2 (by kernel_rfl) ?_
  refine Wo.nil ?_
  refine Wp.cond false (by kernel_rfl) ?_
  refine Wp.skip ?_
  refine Wp.seq ?_
  refine Wp.region ?_
  refine Wo.pre 2 (by kernel_rfl) ?_
  obtain ⟨H14, e14, P14, X14, n14⟩ := pt_new h 24 [AV.int IntKind.i64 0, AV.nils, AV.bool false] (ones_cons rfl (ones_cons rfl (ones_cons rfl ones_nil)))
  refine Wo.val (.ptr ⟨H.n h, 0, 0⟩) H14 (by kernel_rfl) (e14 (v := AV.agg [AV.int IntKind.i64 0, AV.nils, AV.bool false]) (by kernel_rfl) rfl) ?_
  clear e14
  have m15 := X14.1
  obtain ⟨H16, e16, P16, X16, n16⟩ := P14.st 0 [AV.int IntKind.i64 ↑st, AV.nils, AV.bool false] (by simp) (ones_cons rfl (ones_cons rfl (ones_cons rfl ones_nil)))
  refine Wo.val .undef H16 (by kernel_rfl) (iop_stP (a := { b := h.n, g := 0, o := 0 }) (v := AV.agg [AV.int IntKind.i64 ↑st, AV.nils, AV.bool false]) (vs := [AV.int IntKind.i64 ↑st, AV.nils, AV.bool false]) (by kernel_rfl) (by kernel_rfl) rfl rfl e16) ?_
  have m17 := X16.1
  replace P16 : Pt H16 h.n (Blk.cells 0 24 [AV.int IntKind.i64 ↑st, AV.nils, AV.bool false] 0 false) := P16
  refine Wo.nil ?_
  refine Wp.seq ?_
  refine Wp.region ?_
  refine Wo.pre 1 (by kernel_rfl) ?_
  refine Wo.nil ?_
  refine Wp.seq ?_
  refine Wp.seq ?_
  refine Wp.region ?_
  refine Wo.pre 2 (by kernel_rfl) ?_
  (refine Wo.cvSB [13, 10, 67] rfl (by kernel_rfl) (by kernel_rfl) (by decide) (fun Hs Xs Os => ?_); have ns := Xs.1; have qs := Os.bq; have ps := Os.parts)
  have F18 := (b8.fr ((X14.transL X16).transR Xs) (by (first | omega | (intro s hs; omega) | (dsimp only; omega) | (intro s hs; dsimp only at hs; omega) | (simp only [blk_nils, blk_sl]; omega) | (intro s hs; simp only [blk_nils, blk_sl] at hs ⊢; omega) | (simp; done))))
  have c19 := bpre_run F18 o8 Os.bs
  refine Wo.call (by kernel_rfl) (by kernel_rfl) c19 ?_
  clear c19
  refine Wo.boolS (fun q20 => ?_) (fun q20 => ?_)
  rotate_left
  · exact absurd (hcf.symm.trans (by with_reducible assumption)) (by decide)
  have m21 := P14.1
  have m22 := P16.1
  have m23 := Os.bq
  have k24 := Os.parts
  have m25 := F18.bq
  have k26 := F18.parts
  have m27 := Xs.1
  refine Wo.pre 1 (by kernel_rfl) ?_
  have F28 := (P16.fr Xs id)
  obtain ⟨H29, e29, P29, X29, n29⟩ := F28.st 2 [AV.bool true] (by simp) (ones_cons rfl ones_nil)
  refine Wo.val .undef H29 (by kernel_rfl) (iop_stP (a := { b := h.n, g := 0, o := 2 }) (v := AV.bool true) (vs := [AV.bool true]) (by kernel_rfl) (by kernel_rfl) rfl rfl e29) ?_
  have m30 := X29.1
  replace P29 : Pt H29 h.n (Blk.cells 0 24 [AV.int IntKind.i64 ↑st, AV.nils, AV.bool true] 0 false) := P29
  refine Wo.nil ?_
  refine Wp.seq ?_
  refine Wp.region ?_
  refine Wo.pre 1 (by kernel_rfl) ?_
  refine Wo.val (AV.bool true) H29 (by kernel_rfl) (iop_ldP P29 (a := { b := h.n, g := 0, o := 2 }) (by kernel_rfl) rfl (by kernel_rfl)) ?_
  refine Wo.nil ?_
  refine Wp.cond true (by kernel_rfl) ?_
  refine Wp.region ?_
  refine Wo.pre 1 (by kernel_rfl) ?_
  refine Wo.nil ?_
  refine Wp.seq ?_
  refine Wp.seq ?_
  refine Wp.region ?_
  refine Wo.pre 1 (by kernel_rfl) ?_
  have F31 := (F18.fr X29 (by (first | omega | (intro s hs; omega) | (dsimp only; omega) | (intro s hs; dsimp only at hs; omega) | (simp only [blk_nils, blk_sl]; omega) | (intro s hs; simp only [blk_nils, blk_sl] at hs ⊢; omega) | (simp; done))))
  refine Wo.val (.int .i64 (List.length (List.drop (at_ + k) l) : Nat)) H29 (by kernel_rfl) (Bs.len F31 (by kernel_rfl)) ?_
  refine Wo.pre 2 (by kernel_rfl) ?_
  refine Wo.cmp (op := .lss) (x := IX.t 117) (y := IX.t 119) (k := IntKind.i64) (a := ↑(List.drop (at_ + k) l).length) (b := 23) ((↑(List.drop (at_ + k) l).length : Int) < (23 : Int)) (by kernel_rfl) (by kernel_rfl) (by kernel_rfl) (by kernel_rfl) (by simp) (by kernel_rfl) (fun q32 => ?_) (fun q32 => ?_)
  rotate_left
  · (exfalso; omega)
  have m33 := F28.1
  have m34 := P29.1
  have m35 := F31.bq
  have k36 := F31.parts
  refine Wo.nil ?_
  refine Wp.cond true (by kernel_rfl) ?_
  refine Wp.seq ?_
  refine Wp.region ?_
  refine Wo.pre 3 (by kernel_rfl) ?_
  refine Wo.val (.str (List.drop (at_ + k) l)) H29 (by kernel_rfl) (iop_cvBS (v := z8) (by kernel_rfl) F31) ?_
  have c37 := pre_run (H29) ([13, 10, 67, 111, 110, 110, 101, 99, 116, 105, 111, 110, 58, 32, 99, 108, 111, 115, 101, 13, 10, 13, 10]) (List.drop (at_ + k) l)
  refine Wo.call (by kernel_rfl) (by kernel_rfl) c37 ?_
  clear c37
  refine Wo.boolS (fun q38 => ?_) (fun q38 => ?_)
  · exact absurd (hp.symm.trans (by with_reducible assumption)) (by decide)
  obtain ⟨r39, H40, c41, rfl, X43⟩ := more_run (H29) (false)
  have m44 := X43.1
  refine Wo.call (by kernel_rfl) (by kernel_rfl) c41 ?_
  clear c41
  refine Wo.pre 3 (by kernel_rfl) ?_
  have F45 := (P2.fr ((((X14.transL X16).transR Xs).trans X29).transR X43.fr) (by (first | omega | (intro s hs; omega) | (dsimp only; omega) | (intro s hs; dsimp only at hs; omega) | (simp only [blk_nils, blk_sl]; omega) | (intro s hs; simp only [blk_nils, blk_sl] at hs ⊢; omega) | (simp; done))))
  obtain ⟨H46, e46, P46, X46, n46⟩ := F45.st 0 [AV.int IntKind.i64 0, AV.nils, AV.bool false] (by simp) (ones_cons rfl (ones_cons rfl (ones_cons rfl ones_nil)))
  refine Wo.val .undef H46 (by kernel_rfl) (iop_stP (a := { b := p2, g := 0, o := 0 }) (v := AV.agg [AV.int IntKind.i64 0, AV.nils, AV.bool false]) (vs := [AV.int IntKind.i64 0, AV.nils, AV.bool false]) (by kernel_rfl) (by kernel_rfl) rfl rfl e46) ?_
  have m47 := X46.1
  replace P46 : Pt H46 p2 (Blk.cells 0 24 [AV.int IntKind.i64 0, AV.nils, AV.bool false] 0 false) := P46
  refine Wo.pre 2 (by kernel_rfl) ?_
  refine Wo.nil ?_
  refine Wp.ret ?_
  refine ⟨.inr rfl, (.tup [AV.agg [AV.int IntKind.i64 0, AV.nils, AV.bool false], AV.int IntKind.i64 0, AV.int IntKind.i64 5]), (ret_many (res_cell (a := { b := p2, g := 0, o := 0 }) (by kernel_rfl) (P46.ld rfl (by kernel_rfl)) (res_tmp (by kernel_rfl) (res_tmp (by kernel_rfl) res_nil))) rfl), ?_⟩
  dsimp only
  exact ⟨(((((((hE.fr.trans0 X14).transL X16).transR Xs).trans X29).transR X43.fr).trans X46).ext (by intro s hs; first | omega | (dsimp only at hs; omega) | (simp only [blk_nils, blk_sl] at hs ⊢; omega))), rfl⟩

set_option maxHeartbeats 8000000 in
theorem tail_long_form_t {h0 h : H} {a : AA} {q : Cp} {l : List UInt8} {at_ k st p2 : Nat} (hb : Bs h (.sl a l.length q) l) (cx : Cok (.sl a l.length q)) (hl : l.length ≤ 140737488351232) (hat : at_ + k ≤ l.length) (P2 : Pt h p2 (.cells 0 24 [.int .i64 0, .nils, .bool false] 0 false)) (hp2 : h0.n ≤ p2) (hE : Ext h0 h) {d : List UInt8} (hT : (l.take (at_ + k)).drop at_ = d) (hd : ∀ c ∈ d, Re.isDig c = true) (hd0 : d ≠ []) (hk : k ≤ 8) (hdl : d.length = k) {n : Nat} (hn : n = Re.val d) (hn9 : n ≤ 1048576) (hcan : Re.dec n = d) (hcf : List.isPrefixOf [13, 10, 67] (List.drop (at_ + k) l) = true) (hs : ¬ (List.drop (at_ + k) l).length < 23) (hen : List.isPrefixOf [13, 10, 67, 111, 110, 110, 101, 99, 116, 105, 111, 110, 58, 32, 99, 108, 111, 115, 101, 13, 10, 13, 10] (List.drop (at_ + k) l) = false)
    {ts : List AV} (t0 : ts.length = 169) (g0 : getL ts 0 = some (.sl a l.length q)) (g2 : getL ts 2 = some (.ptr ⟨p2, 0, 0⟩)) (g5 : getL ts 5 = some (.int .i64 st)) (g6 : getL ts 6 = some (.int .i64 at_)) (g8 : getL ts 8 = some (.fn (.func 18) [] [])) (g9 : getL ts 9 = some (.int .i64 k)) :
    Wp TF tail8 (ts, h) (After h0 l .form) := by
  have hA : Runs TF 19 [.str (List.drop at_ (List.take (at_ + k) l))] h (.tup [.int .i64 ((n : Nat) : Int), .nili]) h := by rw [hT, hn]; exact atoi_run h hd hd0 (by omega)
  have hne : ¬ List.drop at_ (List.take (at_ + k) l) = [] := by rw [hT]; exact hd0
  have hI : Runs TF 20 [.int .i64 ((n : Nat) : Int)] h (.str (List.drop at_ (List.take (at_ + k) l))) h := by rw [hT, ← hcan]; exact itoa_run h (by omega)
  have hnn := hE.1
  clear hT hcan hd hd0 hn
  rw [laid_eq t0 [(0, .sl a l.length q), (2, .ptr ⟨p2, 0, 0⟩), (5, .int .i64 st), (6, .int .i64 at_), (8, .fn (.func 18) [] []), (9, .int .i64 k)] (by simp [g0, g2, g5, g6, g8, g9])]
  have m1 := hb.bq
  have k2 := hb.parts
  have m3 := P2.1
  have m4 := hE.1
  refine Wp.seq ?_
  refine Wp.draw ?_
  refine Wd.pure (by kernel_rfl) (by kernel_rfl) ?_
  refine Wd.pure (by kernel_rfl) (by kernel_rfl) ?_
  refine Wd.pure (by kernel_rfl) (by kernel_rfl) ?_
  refine Wd.pure (by kernel_rfl) (by kernel_rfl) ?_
  refine Wd.make (.int IntKind.i64 ((↑at_ : Int) + (↑k : Int))) h (by kernel_rfl) (by kernel_rfl) (iop_arith (op := .add) (a := ↑at_) (b := ↑k) (by kernel_rfl) (by kernel_rfl) (by simp) (bin_add IntKind.i64 (by simp only [min_i64]; omega) (by simp only [max_i64]; omega))) ?_
  obtain ⟨z5, e5, b5, o5⟩ := hb.subN cx (ei := (↑at_ : Int)) (ej := (↑at_ + ↑k : Int)) (at_) ((at_) + (k)) rfl (by omega) (by first | omega | simp; omega) (by first | omega | simp; omega)
  refine Wd.make z5 h (by kernel_rfl) (by kernel_rfl) (e5 (by kernel_rfl) (by kernel_rfl) (by kernel_rfl)) ?_
  clear e5
  have m6 := b5.bq
  have k7 := b5.parts
  refine Wd.read (.str (List.drop at_ (List.take (at_ + k) l))) (.cvBS (.c (z5))) (by kernel_rfl) (by kernel_rfl) (iop_cvBS (v := z5) (by kernel_rfl) b5) ?_
  refine Wd.pure (by kernel_rfl) (by kernel_rfl) ?_
  refine Wd.pure (by kernel_rfl) (by kernel_rfl) ?_
  refine Wd.pure (by kernel_rfl) (by kernel_rfl) ?_
  refine Wd.make (.int IntKind.i64 ((↑at_ : Int) + (↑k : Int))) h (by kernel_rfl) (by kernel_rfl) (iop_arith (op := .add) (a := ↑at_) (b := ↑k) (by kernel_rfl) (by kernel_rfl) (by simp) (bin_add IntKind.i64 (by simp only [min_i64]; omega) (by simp only [max_i64]; omega))) ?_
  obtain ⟨z8, e8, b8, o8⟩ := hb.fromN cx (ei := (↑at_ + ↑k : Int)) ((at_) + (k)) (by omega) (by first | omega | simp; omega)
  refine Wd.make z8 h (by kernel_rfl) (by kernel_rfl) (e8 (by kernel_rfl) (by kernel_rfl)) ?_
  clear e8
  have m9 := b8.bq
  have k10 := b8.parts
  refine Wd.pure (by kernel_rfl) (by kernel_rfl) ?_
  refine Wd.pure (by kernel_rfl) (by kernel_rfl) ?_
  refine Wd.done (holds_of [(IOp.cvBS (IX.c z5), AV.str (List.drop at_ (List.take (at_ + k) l)), 6)] (by kernel_rfl) (holds_and (rd_cvBS b5) rfl)) ?_
  refine Wp.seq ?_
  refine Wp.region ?_
  refine Wo.pre 1 (by kernel_rfl) ?_
  refine Wo.call (by kernel_rfl) (by kernel_rfl) hA ?_
  clear hA
  refine Wo.pre 5 (by kernel_rfl) ?_
  refine Wo.nil ?_
  refine Wp.seq ?_
  refine Wp.block ?_
  refine Wp.seq ?_
  refine Wp.region ?_
  refine Wo.pre 1 (by kernel_rfl) ?_
  refine Wo.cmpS (x := IX.t 79) (y := IX.c (AV.str [])) (a := List.drop at_ (List.take (at_ + k) l)) (b := []) (by kernel_rfl) (by kernel_rfl) (by kernel_rfl) (by kernel_rfl) (fun q11 => ?_) (fun q11 => ?_)
  · exact absurd (by with_reducible assumption) hne
  refine Wo.pre 1 (by kernel_rfl) ?_
  refine Wo.nil ?_
  refine Wp.cond false (by kernel_rfl) ?_
  refine Wp.seq ?_
  refine Wp.region ?_
  refine Wo.pre 1 (by kernel_rfl) ?_
  refine Wo.pre 3 (by kernel_rfl) ?_
  refine Wo.call (by kernel_rfl) (by kernel_rfl) hI ?_
  clear hI
  refine Wo.pre 1 (by kernel_rfl) ?_
  refine Wo.cmpSN (x := IX.t 94) (y := IX.t 95) (a := List.drop at_ (List.take (at_ + k) l)) (b := List.drop at_ (List.take (at_ + k) l)) (by kernel_rfl) (by kernel_rfl) (by kernel_rfl) (by kernel_rfl) (fun q12 => ?_) (fun q12 => ?_)
  rotate_left
  · exact absurd rfl (by with_reducible assumption)
  refine Wo.pre 3 (by kernel_rfl) ?_
  refine Wo.cmp (op := .gtr) (x := IX.t 99) (y := IX.c (AV.int IntKind.i64 1048576)) (k := IntKind.i64) (a := ↑n) (b := 1048576) ((↑n : Int) > (1048576 : Int)) (by kernel_rfl) (by kernel_rfl) (by kernel_rfl) (by kernel_rfl) (by simp) (by kernel_rfl) (fun q13 => ?_) (fun q13 => ?_)
  · (exfalso; omega)
  refine Wo.pre 2 (by kernel_rfl) ?_
  refine Wo.nil ?_
  refine Wp.cond false (by kernel_rfl) ?_
  refine Wp.skip ?_
  refine Wp.seq ?_
  refine Wp.region ?_
  refine Wo.pre 2 (by kernel_rfl) ?_
  obtain ⟨H14, e14, P14, X14, n14⟩ := pt_new h 24 [AV.int IntKind.i64 0, AV.nils, AV.bool false] (ones_cons rfl (ones_cons rfl (ones_cons rfl ones_nil)))
  refine Wo.val (.ptr ⟨H.n h, 0, 0⟩) H14 (by kernel_rfl) (e14 (v := AV.agg [AV.int IntKind.i64 0, AV.nils, AV.bool false]) (by kernel_rfl) rfl) ?_
  clear e14
  have m15 := X14.1
  obtain ⟨H16, e16, P16, X16, n16⟩ := P14.st 0 [AV.int IntKind.i64 ↑st, AV.nils, AV.bool false] (by simp) (ones_cons rfl (ones_cons rfl (ones_cons rfl ones_nil)))
  refine Wo.val .undef H16 (by kernel_rfl) (iop_stP (a := { b := h.n, g := 0, o := 0 }) (v := AV.agg [AV.int IntKind.i64 ↑st, AV.nils, AV.bool false]) (vs := [AV.int IntKind.i64 ↑st, AV.nils, AV.bool false]) (by kernel_rfl) (by kernel_rfl) rfl rfl e16) ?_
  have m17 := X16.1
  replace P16 : Pt H16 h.n (Blk.cells 0 24 [AV.int IntKind.i64 ↑st, AV.nils, AV.bool false] 0 false) := P16
  refine Wo.nil ?_
  refine Wp.seq ?_
  refine Wp.region ?_
  refine Wo.pre 1 (by kernel_rfl) ?_
  refine Wo.nil ?_
  refine Wp.seq ?_
  refine Wp.seq ?_
  refine Wp.region ?_
  refine Wo.pre 2 (by kernel_rfl) ?_
  (refine Wo.cvSB [13, 10, 67] rfl (by kernel_rfl) (by kernel_rfl) (by decide) (fun Hs Xs Os => ?_); have ns := Xs.1; have qs := Os.bq; have ps := Os.parts)
  have F18 := (b8.fr ((X14.transL X16).transR Xs) (by (first | omega | (intro s hs; omega) | (dsimp only; omega) | (intro s hs; dsimp only at hs; omega) | (simp only [blk_nils, blk_sl]; omega) | (intro s hs; simp only [blk_nils, blk_sl] at hs ⊢; omega) | (simp; done))))
  have c19 := bpre_run F18 o8 Os.bs
  refine Wo.call (by kernel_rfl) (by kernel_rfl) c19 ?_
  clear c19
  refine Wo.boolS (fun q20 => ?_) (fun q20 => ?_)
  rotate_left
  · exact absurd (hcf.symm.trans (by with_reducible assumption)) (by decide)
  have m21 := P14.1
  have m22 := P16.1
  have m23 := Os.bq
  have k24 := Os.parts
  have m25 := F18.bq
  have k26 := F18.parts
  have m27 := Xs.1
  refine Wo.pre 1 (by kernel_rfl) ?_
  have F28 := (P16.fr Xs id)
  obtain ⟨H29, e29, P29, X29, n29⟩ := F28.st 2 [AV.bool true] (by simp) (ones_cons rfl ones_nil)
  refine Wo.val .undef H29 (by kernel_rfl) (iop_stP (a := { b := h.n, g := 0, o := 2 }) (v := AV.bool true) (vs := [AV.bool true]) (by kernel_rfl) (by kernel_rfl) rfl rfl e29) ?_
  have m30 := X29.1
  replace P29 : Pt H29 h.n (Blk.cells 0 24 [AV.int IntKind.i64 ↑st, AV.nils, AV.bool true] 0 false) := P29
  refine Wo.nil ?_
  refine Wp.seq ?_
  refine Wp.region ?_
  refine Wo.pre 1 (by kernel_rfl) ?_
  refine Wo.val (AV.bool true) H29 (by kernel_rfl) (iop_ldP P29 (a := { b := h.n, g := 0, o := 2 }) (by kernel_rfl) rfl (by kernel_rfl)) ?_
  refine Wo.nil ?_
  refine Wp.cond true (by kernel_rfl) ?_
  refine Wp.region ?_
  refine Wo.pre 1 (by kernel_rfl) ?_
  refine Wo.nil ?_
  refine Wp.seq ?_
  refine Wp.seq ?_
  refine Wp.region ?_
  refine Wo.pre 1 (by kernel_rfl) ?_
  have F31 := (F18.fr X29 (by (first | omega | (intro s hs; omega) | (dsimp only; omega) | (intro s hs; dsimp only at hs; omega) | (simp only [blk_nils, blk_sl]; omega) | (intro s hs; simp only [blk_nils, blk_sl] at hs ⊢; omega) | (simp; done))))
  refine Wo.val (.int .i64 (List.length (List.drop (at_ + k) l) : Nat)) H29 (by kernel_rfl) (Bs.len F31 (by kernel_rfl)) ?_
  refine Wo.pre 2 (by kernel_rfl) ?_
  refine Wo.cmp (op := .lss) (x := IX.t 117) (y := IX.t 119) (k := IntKind.i64) (a := ↑(List.drop (at_ + k) l).length) (b := 23) ((↑(List.drop (at_ + k) l).length : Int) < (23 : Int)) (by kernel_rfl) (by kernel_rfl) (by kernel_rfl) (by kernel_rfl) (by simp) (by kernel_rfl) (fun q32 => ?_) (fun q32 => ?_)
  · (exfalso; omega)
  have m33 := F28.1
  have m34 := P29.1
  have m35 := F31.bq
  have k36 := F31.parts
  refine Wo.nil ?_
  refine Wp.cond false (by kernel_rfl) ?_
  refine Wp.skip ?_
  refine Wp.seq ?_
  refine Wp.seq ?_
  refine Wp.region ?_
  refine Wo.pre 2 (by kernel_rfl) ?_
  (refine Wo.cvSB [13, 10, 67, 111, 110, 110, 101, 99, 116, 105, 111, 110, 58, 32, 99, 108, 111, 115, 101, 13, 10, 13, 10] rfl (by kernel_rfl) (by kernel_rfl) (by decide) (fun Ht Xt Ot => ?_); have nt := Xt.1; have qt := Ot.bq; have pt := Ot.parts)
  have F37 := (F31.fr Xt (.inr id))
  have c38 := bpre_run F37 o8 Ot.bs
  refine Wo.call (by kernel_rfl) (by kernel_rfl) c38 ?_
  clear c38
  refine Wo.boolS (fun q39 => ?_) (fun q39 => ?_)
  · exact absurd (hen.symm.trans (by with_reducible assumption)) (by decide)
  have m40 := Ot.bq
  have k41 := Ot.parts
  have m42 := F37.bq
  have k43 := F37.parts
  have m44 := Xt.1
  refine Wo.pre 1 (by kernel_rfl) ?_
  refine Wo.nil ?_
  refine Wp.cond true (by kernel_rfl) ?_
  refine Wp.seq ?_
  refine Wp.region ?_
  refine Wo.pre 1 (by kernel_rfl) ?_
  obtain ⟨r45, H46, c47, rfl, X49⟩ := more_run (Ht) (false)
  have m50 := X49.1
  refine Wo.call (by kernel_rfl) (by kernel_rfl) c47 ?_
  clear c47
  refine Wo.pre 3 (by kernel_rfl) ?_
  have F51 := (P2.fr (((((X14.transL X16).transR Xs).trans X29).transR Xt).transR X49.fr) (by (first | omega | (intro s hs; omega) | (dsimp only; omega) | (intro s hs; dsimp only at hs; omega) | (simp only [blk_nils, blk_sl]; omega) | (intro s hs; simp only [blk_nils, blk_sl] at hs ⊢; omega) | (simp; done))))
  obtain ⟨H52, e52, P52, X52, n52⟩ := F51.st 0 [AV.int IntKind.i64 0, AV.nils, AV.bool false] (by simp) (ones_cons rfl (ones_cons rfl (ones_cons rfl ones_nil)))
  refine Wo.val .undef H52 (by kernel_rfl) (iop_stP (a := { b := p2, g := 0, o := 0 }) (v := AV.agg [AV.int IntKind.i64 0, AV.nils, AV.bool false]) (vs := [AV.int IntKind.i64 0, AV.nils, AV.bool false]) (by kernel_rfl) (by kernel_rfl) rfl rfl e52) ?_
  have m53 := X52.1
  replace P52 : Pt H52 p2 (Blk.cells 0 24 [AV.int IntKind.i64 0, AV.nils, AV.bool false] 0 false) := P52
  refine Wo.pre 2 (by kernel_rfl) ?_
  refine Wo.nil ?_
  refine Wp.ret ?_
  refine ⟨.inr rfl, (.tup [AV.agg [AV.int IntKind.i64 0, AV.nils, AV.bool false], AV.int IntKind.i64 0, AV.int IntKind.i64 5]), (ret_many (res_cell (a := { b := p2, g := 0, o := 0 }) (by kernel_rfl) (P52.ld rfl (by kernel_rfl)) (res_tmp (by kernel_rfl) (res_tmp (by kernel_rfl) res_nil))) rfl), ?_⟩
  dsimp only
  exact ⟨((((((((hE.fr.trans0 X14).transL X16).transR Xs).trans X29).transR Xt).transR X49.fr).trans X52).ext (by intro s hs; first | omega | (dsimp only at hs; omega) | (simp only [blk_nils, blk_sl] at hs ⊢; omega))), rfl⟩

set_option maxHeartbeats 8000000 in
theorem tail_long_more_t {h0 h : H} {a : AA} {q : Cp} {l : List UInt8} {at_ k st p2 : Nat} (hb : Bs h (.sl a l.length q) l) (cx : Cok (.sl a l.length q)) (hl : l.length ≤ 140737488351232) (hat : at_ + k ≤ l.length) (P2 : Pt h p2 (.cells 0 24 [.int .i64 0, .nils, .bool false] 0 false)) (hp2 : h0.n ≤ p2) (hE : Ext h0 h) {d : List UInt8} (hT : (l.take (at_ + k)).drop at_ = d) (hd : ∀ c ∈ d, Re.isDig c = true) (hd0 : d ≠ []) (hk : k ≤ 8) (hdl : d.length = k) {n : Nat} (hn : n = Re.val d) (hn9 : n ≤ 1048576) (hcan : Re.dec n = d) (hcf : List.isPrefixOf [13, 10, 67] (List.drop (at_ + k) l) = true) (hs : ¬ (List.drop (at_ + k) l).length < 23) (hen : List.isPrefixOf [13, 10, 67, 111, 110, 110, 101, 99, 116, 105, 111, 110, 58, 32, 99, 108, 111, 115, 101, 13, 10, 13, 10] (List.drop (at_ + k) l) = true) (hge : at_ + k + 23 ≤ l.length) (hsh : l.length - (at_ + k + 23) < n)
    {ts : List AV} (t0 : ts.length = 169) (g0 : getL ts 0 = some (.sl a l.length q)) (g2 : getL ts 2 = some (.ptr ⟨p2, 0, 0⟩)) (g5 : getL ts 5 = some (.int .i64 st)) (g6 : getL ts 6 = some (.int .i64 at_)) (g8 : getL ts 8 = some (.fn (.func 18) [] [])) (g9 : getL ts 9 = some (.int .i64 k)) :
    Wp TF tail8 (ts, h) (After h0 l .more) := by
  have hA : Runs TF 19 [.str (List.drop at_ (List.take (at_ + k) l))] h (.tup [.int .i64 ((n : Nat) : Int), .nili]) h := by rw [hT, hn]; exact atoi_run h hd hd0 (by omega)
  have hne : ¬ List.drop at_ (List.take (at_ + k) l) = [] := by rw [hT]; exact hd0
  have hI : Runs TF 20 [.int .i64 ((n : Nat) : Int)] h (.str (List.drop at_ (List.take (at_ + k) l))) h := by rw [hT, ← hcan]; exact itoa_run h (by omega)
  have hnn := hE.1
  clear hT hcan hd hd0 hn
  rw [laid_eq t0 [(0, .sl a l.length q), (2, .ptr ⟨p2, 0, 0⟩), (5, .int .i64 st), (6, .int .i64 at_), (8, .fn (.func 18) [] []), (9, .int .i64 k)] (by simp [g0, g2, g5, g6, g8, g9])]
  have m1 := hb.bq
  have k2 := hb.parts
  have m3 := P2.1
  have m4 := hE.1
  refine Wp.seq ?_
  refine Wp.draw ?_
  refine Wd.pure (by kernel_rfl) (by kernel_rfl) ?_
  refine Wd.pure (by kernel_rfl) (by kernel_rfl) ?_
  refine Wd.pure (by kernel_rfl) (by kernel_rfl) ?_
  refine Wd.pure (by kernel_rfl) (by kernel_rfl) ?_
  refine Wd.make (.int IntKind.i64 ((↑at_ : Int) + (↑k : Int))) h (by kernel_rfl) (by kernel_rfl) (iop_arith (op := .add) (a := ↑at_) (b := ↑k) (by kernel_rfl) (by kernel_rfl) (by simp) (bin_add IntKind.i64 (by simp only [min_i64]; omega) (by simp only [max_i64]; omega))) ?_
  obtain ⟨z5, e5, b5, o5⟩ := hb.subN cx (ei := (↑at_ : Int)) (ej := (↑at_ + ↑k : Int)) (at_) ((at_) + (k)) rfl (by omega) (by first | omega | simp; omega) (by first | omega | simp; omega)
  refine Wd.make z5 h (by kernel_rfl) (by kernel_rfl) (e5 (by kernel_rfl) (by kernel_rfl) (by kernel_rfl)) ?_
  clear e5
  have m6 := b5.bq
  have k7 := b5.parts
  refine Wd.read (.str (List.drop at_ (List.take (at_ + k) l))) (.cvBS (.c (z5))) (by kernel_rfl) (by kernel_rfl) (iop_cvBS (v := z5) (by kernel_rfl) b5) ?_
  refine Wd.pure (by kernel_rfl) (by kernel_rfl) ?_
  refine Wd.pure (by kernel_rfl) (by kernel_rfl) ?_
  refine Wd.pure (by kernel_rfl) (by kernel_rfl) ?_
  refine Wd.make (.int IntKind.i64 ((↑at_ : Int) + (↑k : Int))) h (by kernel_rfl) (by kernel_rfl) (iop_arith (op := .add) (a := ↑at_) (b := ↑k) (by kernel_rfl) (by kernel_rfl) (by simp) (bin_add IntKind.i64 (by simp only [min_i64]; omega) (by simp only [max_i64]; omega))) ?_
  obtain ⟨z8, e8, b8, o8⟩ := hb.fromN cx (ei := (↑at_ + ↑k : Int)) ((at_) + (k)) (by omega) (by first | omega | simp; omega)
  refine Wd.make z8 h (by kernel_rfl) (by kernel_rfl) (e8 (by kernel_rfl) (by kernel_rfl)) ?_
  clear e8
  have m9 := b8.bq
  have k10 := b8.parts
  refine Wd.pure (by kernel_rfl) (by kernel_rfl) ?_
  refine Wd.pure (by kernel_rfl) (by kernel_rfl) ?_
  refine Wd.done (holds_of [(IOp.cvBS (IX.c z5), AV.str (List.drop at_ (List.take (at_ + k) l)), 6)] (by kernel_rfl) (holds_and (rd_cvBS b5) rfl)) ?_
  refine Wp.seq ?_
  refine Wp.region ?_
  refine Wo.pre 1 (by kernel_rfl) ?_
  refine Wo.call (by kernel_rfl) (by kernel_rfl) hA ?_
  clear hA
  refine Wo.pre 5 (by kernel_rfl) ?_
  refine Wo.nil ?_
  refine Wp.seq ?_
  refine Wp.block ?_
  refine Wp.seq ?_
  refine Wp.region ?_
  refine Wo.pre 1 (by kernel_rfl) ?_
  refine Wo.cmpS (x := IX.t 79) (y := IX.c (AV.str [])) (a := List.drop at_ (List.take (at_ + k) l)) (b := []) (by kernel_rfl) (by kernel_rfl) (by kernel_rfl) (by kernel_rfl) (fun q11 => ?_) (fun q11 => ?_)
  · exact absurd (by with_reducible assumption) hne
  refine Wo.pre 1 (by kernel_rfl) ?_
  refine Wo.nil ?_
  refine Wp.cond false (by kernel_rfl) ?_
  refine Wp.seq ?_
  refine Wp.region ?_
  refine Wo.pre 1 (by kernel_rfl) ?_
  refine Wo.pre 3 (by kernel_rfl) ?_
  refine Wo.call (by kernel_rfl) (by kernel_rfl) hI ?_
  clear hI
  refine Wo.pre 1 (by kernel_rfl) ?_
  refine Wo.cmpSN (x := IX.t 94) (y := IX.t 95) (a := List.drop at_ (List.take (at_ + k) l)) (b := List.drop at_ (List.take (at_ + k) l)) (by kernel_rfl) (by kernel_rfl) (by kernel_rfl) (by kernel_rfl) (fun q12 => ?_) (fun q12 => ?_)
  rotate_left
  · exact absurd rfl (by with_reducible assumption)
  refine Wo.pre 3 (by kernel_rfl) ?_
  refine Wo.cmp (op := .gtr) (x := IX.t 99) (y := IX.c (AV.int IntKind.i64 1048576)) (k := IntKind.i64) (a := ↑n) (b := 1048576) ((↑n : Int) > (1048576 : Int)) (by kernel_rfl) (by kernel_rfl) (by kernel_rfl) (by kernel_rfl) (by simp) (by kernel_rfl) (fun q13 => ?_) (fun q13 => ?_)
  · (exfalso; omega)
  refine Wo.pre 2 (by kernel_rfl) ?_
  refine Wo.nil ?_
  refine Wp.cond false (by kernel_rfl) ?_
  refine Wp.skip ?_
  refine Wp.seq ?_
  refine Wp.region ?_
  refine Wo.pre 2 (by kernel_rfl) ?_
  obtain ⟨H14, e14, P14, X14, n14⟩ := pt_new h 24 [AV.int IntKind.i64 0, AV.nils, AV.bool false] (ones_cons rfl (ones_cons rfl (ones_cons rfl ones_nil)))
  refine Wo.val (.ptr ⟨H.n h, 0, 0⟩) H14 (by kernel_rfl) (e14 (v := AV.agg [AV.int IntKind.i64 0, AV.nils, AV.bool false]) (by kernel_rfl) rfl) ?_
  clear e14
  have m15 := X14.1
  obtain ⟨H16, e16, P16, X16, n16⟩ := P14.st 0 [AV.int IntKind.i64 ↑st, AV.nils, AV.bool false] (by simp) (ones_cons rfl (ones_cons rfl (ones_cons rfl ones_nil)))
  refine Wo.val .undef H16 (by kernel_rfl) (iop_stP (a := { b := h.n, g := 0, o := 0 }) (v := AV.agg [AV.int IntKind.i64 ↑st, AV.nils, AV.bool false]) (vs := [AV.int IntKind.i64 ↑st, AV.nils, AV.bool false]) (by kernel_rfl) (by kernel_rfl) rfl rfl e16) ?_
  have m17 := X16.1
  replace P16 : Pt H16 h.n (Blk.cells 0 24 [AV.int IntKind.i64 ↑st, AV.nils, AV.bool false] 0 false) := P16
  refine Wo.nil ?_
  refine Wp.seq ?_
  refine Wp.region ?_
  refine Wo.pre 1 (by kernel_rfl) ?_
  refine Wo.nil ?_
  refine Wp.seq ?_
  refine Wp.seq ?_
  refine Wp.region ?_
  refine Wo.pre 2 (by kernel_rfl) ?_
  (refine Wo.cvSB [13, 10, 67] rfl (by kernel_rfl) (by kernel_rfl) (by decide) (fun Hs Xs Os => ?_); have ns := Xs.1; have qs := Os.bq; have ps := Os.parts)
  have F18 := (b8.fr ((X14.transL X16).transR Xs) (by (first | omega | (intro s hs; omega) | (dsimp only; omega) | (intro s hs; dsimp only at hs; omega) | (simp only [blk_nils, blk_sl]; omega) | (intro s hs; simp only [blk_nils, blk_sl] at hs ⊢; omega) | (simp; done))))
  have c19 := bpre_run F18 o8 Os.bs
  refine Wo.call (by kernel_rfl) (by kernel_rfl) c19 ?_
  clear c19
  refine Wo.boolS (fun q20 => ?_) (fun q20 => ?_)
  rotate_left
  · exact absurd (hcf.symm.trans (by with_reducible assumption)) (by decide)
  have m21 := P14.1
  have m22 := P16.1
  have m23 := Os.bq
  have k24 := Os.parts
  have m25 := F18.bq
  have k26 := F18.parts
  have m27 := Xs.1
  refine Wo.pre 1 (by kernel_rfl) ?_
  have F28 := (P16.fr Xs id)
  obtain ⟨H29, e29, P29, X29, n29⟩ := F28.st 2 [AV.bool true] (by simp) (ones_cons rfl ones_nil)
  refine Wo.val .undef H29 (by kernel_rfl) (iop_stP (a := { b := h.n, g := 0, o := 2 }) (v := AV.bool true) (vs := [AV.bool true]) (by kernel_rfl) (by kernel_rfl) rfl rfl e29) ?_
  have m30 := X29.1
  replace P29 : Pt H29 h.n (Blk.cells 0 24 [AV.int IntKind.i64 ↑st, AV.nils, AV.bool true] 0 false) := P29
  refine Wo.nil ?_
  refine Wp.seq ?_
  refine Wp.region ?_
  refine Wo.pre 1 (by kernel_rfl) ?_
  refine Wo.val (AV.bool true) H29 (by kernel_rfl) (iop_ldP P29 (a := { b := h.n, g := 0, o := 2 }) (by kernel_rfl) rfl (by kernel_rfl)) ?_
  refine Wo.nil ?_
  refine Wp.cond true (by kernel_rfl) ?_
  refine Wp.region ?_
  refine Wo.pre 1 (by kernel_rfl) ?_
  refine Wo.nil ?_
  refine Wp.seq ?_
  refine Wp.seq ?_
  refine Wp.region ?_
  refine Wo.pre 1 (by kernel_rfl) ?_
  have F31 := (F18.fr X29 (by (first | omega | (intro s hs; omega) | (dsimp only; omega) | (intro s hs; dsimp only at hs; omega) | (simp only [blk_nils, blk_sl]; omega) | (intro s hs; simp only [blk_nils, blk_sl] at hs ⊢; omega) | (simp; done))))
  refine Wo.val (.int .i64 (List.length (List.drop (at_ + k) l) : Nat)) H29 (by kernel_rfl) (Bs.len F31 (by kernel_rfl)) ?_
  refine Wo.pre 2 (by kernel_rfl) ?_
  refine Wo.cmp (op := .lss) (x := IX.t 117) (y := IX.t 119) (k := IntKind.i64) (a := ↑(List.drop (at_ + k) l).length) (b := 23) ((↑(List.drop (at_ + k) l).length : Int) < (23 : Int)) (by kernel_rfl) (by kernel_rfl) (by kernel_rfl) (by kernel_rfl) (by simp) (by kernel_rfl) (fun q32 => ?_) (fun q32 => ?_)
  · (exfalso; omega)
  have m33 := F28.1
  have m34 := P29.1
  have m35 := F31.bq
  have k36 := F31.parts
  refine Wo.nil ?_
  refine Wp.cond false (by kernel_rfl) ?_
  refine Wp.skip ?_
  refine Wp.seq ?_
  refine Wp.seq ?_
  refine Wp.region ?_
  refine Wo.pre 2 (by kernel_rfl) ?_
  (refine Wo.cvSB [13, 10, 67, 111, 110, 110, 101, 99, 116, 105, 111, 110, 58, 32, 99, 108, 111, 115, 101, 13, 10, 13, 10] rfl (by kernel_rfl) (by kernel_rfl) (by decide) (fun Ht Xt Ot => ?_); have nt := Xt.1; have qt := Ot.bq; have pt := Ot.parts)
  have F37 := (F31.fr Xt (.inr id))
  have c38 := bpre_run F37 o8 Ot.bs
  refine Wo.call (by kernel_rfl) (by kernel_rfl) c38 ?_
  clear c38
  refine Wo.boolS (fun q39 => ?_) (fun q39 => ?_)
  rotate_left
  · exact absurd (hen.symm.trans (by with_reducible assumption)) (by decide)
  have m40 := Ot.bq
  have k41 := Ot.parts
  have m42 := F37.bq
  have k43 := F37.parts
  have m44 := Xt.1
  refine Wo.pre 1 (by kernel_rfl) ?_
  refine Wo.nil ?_
  refine Wp.cond false (by kernel_rfl) ?_
  refine Wp.skip ?_
  refine Wp.seq ?_
  refine Wp.region ?_
  refine Wo.pre 2 (by kernel_rfl) ?_
  refine Wo.val (.int IntKind.i64 ((↑at_ : Int) + (↑k : Int))) Ht (by kernel_rfl) (iop_arith (op := .add) (a := ↑at_) (b := ↑k) (by kernel_rfl) (by kernel_rfl) (by simp) (bin_add IntKind.i64 (by simp only [min_i64]; omega) (by simp only [max_i64]; omega))) ?_
  refine Wo.pre 2 (by kernel_rfl) ?_
  refine Wo.val (.int IntKind.i64 ((↑at_ + ↑k : Int) + (23 : Int))) Ht (by kernel_rfl) (iop_arith (op := .add) (a := ↑at_ + ↑k) (b := 23) (by kernel_rfl) (by kernel_rfl) (by simp) (bin_add IntKind.i64 (by simp only [min_i64]; omega) (by simp only [max_i64]; omega))) ?_
  refine Wo.pre 1 (by kernel_rfl) ?_
  refine Wo.nil ?_
  refine Wp.seq ?_
  refine Wp.seq ?_
  refine Wp.region ?_
  refine Wo.pre 3 (by kernel_rfl) ?_
  refine Wo.val (.int IntKind.i64 ((↑l.length : Int) - (↑at_ + ↑k + 23 : Int))) Ht (by kernel_rfl) (iop_arith (op := .sub) (a := ↑l.length) (b := ↑at_ + ↑k + 23) (by kernel_rfl) (by kernel_rfl) (by simp) (bin_sub IntKind.i64 (by simp only [min_i64]; omega) (by simp only [max_i64]; omega))) ?_
  refine Wo.pre 1 (by kernel_rfl) ?_
  refine Wo.cmp (op := .lss) (x := IX.t 149) (y := IX.t 150) (k := IntKind.i64) (a := ↑l.length - (↑at_ + ↑k + 23)) (b := ↑n) ((↑l.length - (↑at_ + ↑k + 23) : Int) < (↑n : Int)) (by kernel_rfl) (by kernel_rfl) (by kernel_rfl) (by kernel_rfl) (by simp) (by kernel_rfl) (fun q45 => ?_) (fun q45 => ?_)
  rotate_left
  · (exfalso; omega)
  refine Wo.nil ?_
  refine Wp.cond true (by kernel_rfl) ?_
  refine Wp.seq ?_
  refine Wp.region ?_
  refine Wo.pre 1 (by kernel_rfl) ?_
  obtain ⟨r46, H47, c48, rfl, X50⟩ := more_run (Ht) (true)
  have m51 := X50.1
  refine Wo.call (by kernel_rfl) (by kernel_rfl) c48 ?_
  clear c48
  refine Wo.pre 3 (by kernel_rfl) ?_
  have F52 := (P2.fr (((((X14.transL X16).transR Xs).trans X29).transR Xt).transR X50.fr) (by (first | omega | (intro s hs; omega) | (dsimp only; omega) | (intro s hs; dsimp only at hs; omega) | (simp only [blk_nils, blk_sl]; omega) | (intro s hs; simp only [blk_nils, blk_sl] at hs ⊢; omega) | (simp; done))))
  obtain ⟨H53, e53, P53, X53, n53⟩ := F52.st 0 [AV.int IntKind.i64 0, AV.nils, AV.bool false] (by simp) (ones_cons rfl (ones_cons rfl (ones_cons rfl ones_nil)))
  refine Wo.val .undef H53 (by kernel_rfl) (iop_stP (a := { b := p2, g := 0, o := 0 }) (v := AV.agg [AV.int IntKind.i64 0, AV.nils, AV.bool false]) (vs := [AV.int IntKind.i64 0, AV.nils, AV.bool false]) (by kernel_rfl) (by kernel_rfl) rfl rfl e53) ?_
  have m54 := X53.1
  replace P53 : Pt H53 p2 (Blk.cells 0 24 [AV.int IntKind.i64 0, AV.nils, AV.bool false] 0 false) := P53
  refine Wo.pre 2 (by kernel_rfl) ?_
  refine Wo.nil ?_
  refine Wp.ret ?_
  refine ⟨.inr rfl, (.tup [AV.agg [AV.int IntKind.i64 0, AV.nils, AV.bool false], AV.int IntKind.i64 0, AV.int IntKind.i64 44]), (ret_many (res_cell (a := { b := p2, g := 0, o := 0 }) (by kernel_rfl) (P53.ld rfl (by kernel_rfl)) (res_tmp (by kernel_rfl) (res_tmp (by kernel_rfl) res_nil))) rfl), ?_⟩
  dsimp only
  exact ⟨((((((((hE.fr.trans0 X14).transL X16).transR Xs).trans X29).transR Xt).transR X50.fr).trans X53).ext (by intro s hs; first | omega | (dsimp only at hs; omega) | (simp only [blk_nils, blk_sl] at hs ⊢; omega))), rfl⟩

set_option maxHeartbeats 8000000 in
theorem tail_long_ok_t {h0 h : H} {a : AA} {q : Cp} {l : List UInt8} {at_ k st p2 : Nat} (hb : Bs h (.sl a l.length q) l) (cx : Cok (.sl a l.length q)) (hl : l.length ≤ 140737488351232) (hat : at_ + k ≤ l.length) (P2 : Pt h p2 (.cells 0 24 [.int .i64 0, .nils, .bool false] 0 false)) (hp2 : h0.n ≤ p2) (hE : Ext h0 h) {d : List UInt8} (hT : (l.take (at_ + k)).drop at_ = d) (hd : ∀ c ∈ d, Re.isDig c = true) (hd0 : d ≠ []) (hk : k ≤ 8) (hdl : d.length = k) {n : Nat} (hn : n = Re.val d) (hn9 : n ≤ 1048576) (hcan : Re.dec n = d) (hcf : List.isPrefixOf [13, 10, 67] (List.drop (at_ + k) l) = true) (hs : ¬ (List.drop (at_ + k) l).length < 23) (hen : List.isPrefixOf [13, 10, 67, 111, 110, 110, 101, 99, 116, 105, 111, 110, 58, 32, 99, 108, 111, 115, 101, 13, 10, 13, 10] (List.drop (at_ + k) l) = true) (hge : at_ + k + 23 ≤ l.length) (hsh : ¬ l.length - (at_ + k + 23) < n) (hH : (Re.head st n true).length = at_ + k + 23)
    {ts : List AV} (t0 : ts.length = 169) (g0 : getL ts 0 = some (.sl a l.length q)) (g2 : getL ts 2 = some (.ptr ⟨p2, 0, 0⟩)) (g5 : getL ts 5 = some (.int .i64 st)) (g6 : getL ts 6 = some (.int .i64 at_)) (g8 : getL ts 8 = some (.fn (.func 18) [] [])) (g9 : getL ts 9 = some (.int .i64 k)) :
    Wp TF tail8 (ts, h) (After h0 l (.ok st n true)) := by
  have hA : Runs TF 19 [.str (List.drop at_ (List.take (at_ + k) l))] h (.tup [.int .i64 ((n : Nat) : Int), .nili]) h := by rw [hT, hn]; exact atoi_run h hd hd0 (by omega)
  have hne : ¬ List.drop at_ (List.take (at_ + k) l) = [] := by rw [hT]; exact hd0
  have hI : Runs TF 20 [.int .i64 ((n : Nat) : Int)] h (.str (List.drop at_ (List.take (at_ + k) l))) h := by rw [hT, ← hcan]; exact itoa_run h (by omega)
  have hnn := hE.1
  clear hT hcan hd hd0 hn
  rw [laid_eq t0 [(0, .sl a l.length q), (2, .ptr ⟨p2, 0, 0⟩), (5, .int .i64 st), (6, .int .i64 at_), (8, .fn (.func 18) [] []), (9, .int .i64 k)] (by simp [g0, g2, g5, g6, g8, g9])]
  have m1 := hb.bq
  have k2 := hb.parts
  have m3 := P2.1
  have m4 := hE.1
  refine Wp.seq ?_
  refine Wp.draw ?_
  refine Wd.pure (by kernel_rfl) (by kernel_rfl) ?_
  refine Wd.pure (by kernel_rfl) (by kernel_rfl) ?_
  refine Wd.pure (by kernel_rfl) (by kernel_rfl) ?_
  refine Wd.pure (by kernel_rfl) (by kernel_rfl) ?_
  refine Wd.make (.int IntKind.i64 ((↑at_ : Int) + (↑k : Int))) h (by kernel_rfl) (by kernel_rfl) (iop_arith (op := .add) (a := ↑at_) (b := ↑k) (by kernel_rfl) (by kernel_rfl) (by simp) (bin_add IntKind.i64 (by simp only [min_i64]; omega) (by simp only [max_i64]; omega))) ?_
  obtain ⟨z5, e5, b5, o5⟩ := hb.subN cx (ei := (↑at_ : Int)) (ej := (↑at_ + ↑k : Int)) (at_) ((at_) + (k)) rfl (by omega) (by first | omega | simp; omega) (by first | omega | simp; omega)
  refine Wd.make z5 h (by kernel_rfl) (by kernel_rfl) (e5 (by kernel_rfl) (by kernel_rfl) (by kernel_rfl)) ?_
  clear e5
  have m6 := b5.bq
  have k7 := b5.parts
  refine Wd.read (.str (List.drop at_ (List.take (at_ + k) l))) (.cvBS (.c (z5))) (by kernel_rfl) (by kernel_rfl) (iop_cvBS (v := z5) (by kernel_rfl) b5) ?_
  refine Wd.pure (by kernel_rfl) (by kernel_rfl) ?_
  refine Wd.pure (by kernel_rfl) (by kernel_rfl) ?_
  refine Wd.pure (by kernel_rfl) (by kernel_rfl) ?_
  refine Wd.make (.int IntKind.i64 ((↑at_ : Int) + (↑k : Int))) h (by kernel_rfl) (by kernel_rfl) (iop_arith (op := .add) (a := ↑at_) (b := ↑k) (by kernel_rfl) (by kernel_rfl) (by simp) (bin_add IntKind.i64 (by simp only [min_i64]; omega) (by simp only [max_i64]; omega))) ?_
  obtain ⟨z8, e8, b8, o8⟩ := hb.fromN cx (ei := (↑at_ + ↑k : Int)) ((at_) + (k)) (by omega) (by first | omega | simp; omega)
  refine Wd.make z8 h (by kernel_rfl) (by kernel_rfl) (e8 (by kernel_rfl) (by kernel_rfl)) ?_
  clear e8
  have m9 := b8.bq
  have k10 := b8.parts
  refine Wd.pure (by kernel_rfl) (by kernel_rfl) ?_
  refine Wd.pure (by kernel_rfl) (by kernel_rfl) ?_
  refine Wd.done (holds_of [(IOp.cvBS (IX.c z5), AV.str (List.drop at_ (List.take (at_ + k) l)), 6)] (by kernel_rfl) (holds_and (rd_cvBS b5) rfl)) ?_
  refine Wp.seq ?_
  refine Wp.region ?_
  refine Wo.pre 1 (by kernel_rfl) ?_
  refine Wo.call (by kernel_rfl) (by kernel_rfl) hA ?_
  clear hA
  refine Wo.pre 5 (by kernel_rfl) ?_
  refine Wo.nil ?_
  refine Wp.seq ?_
  refine Wp.block ?_
  refine Wp.seq ?_
  refine Wp.region ?_
  refine Wo.pre 1 (by kernel_rfl) ?_
  refine Wo.cmpS (x := IX.t 79) (y := IX.c (AV.str [])) (a := List.drop at_ (List.take (at_ + k) l)) (b := []) (by kernel_rfl) (by kernel_rfl) (by kernel_rfl) (by kernel_rfl) (fun q11 => ?_) (fun q11 => ?_)
  · exact absurd (by with_reducible assumption) hne
  refine Wo.pre 1 (by kernel_rfl) ?_
  refine Wo.nil ?_
  refine Wp.cond false (by kernel_rfl) ?_
  refine Wp.seq ?_
  refine Wp.region ?_
  refine Wo.pre 1 (by kernel_rfl) ?_
  refine Wo.pre 3 (by kernel_rfl) ?_
  refine Wo.call (by kernel_rfl) (by kernel_rfl) hI ?_
  clear hI
  refine Wo.pre 1 (by kernel_rfl) ?_
  refine Wo.cmpSN (x := IX.t 94) (y := IX.t 95) (a := List.drop at_ (List.take (at_ + k) l)) (b := List.drop at_ (List.take (at_ + k) l)) (by kernel_rfl) (by kernel_rfl) (by kernel_rfl) (by kernel_rfl) (fun q12 => ?_) (fun q12 => ?_)
  rotate_left
  · exact absurd rfl (by with_reducible assumption)
  refine Wo.pre 3 (by kernel_rfl) ?_
  refine Wo.cmp (op := .gtr) (x := IX.t 99) (y := IX.c (AV.int IntKind.i64 1048576)) (k := IntKind.i64) (a := ↑n) (b := 1048576) ((↑n : Int) > (1048576 : Int)) (by kernel_rfl) (by kernel_rfl) (by kernel_rfl) (by kernel_rfl) (by simp) (by kernel_rfl) (fun q13 => ?_) (fun q13 => ?_)
  · (exfalso; omega)
  refine Wo.pre 2 (by kernel_rfl) ?_
  refine Wo.nil ?_
  refine Wp.cond false (by kernel_rfl) ?_
  refine Wp.skip ?_
  refine Wp.seq ?_
  refine Wp.region ?_
  refine Wo.pre 2 (by kernel_rfl) ?_
  obtain ⟨H14, e14, P14, X14, n14⟩ := pt_new h 24 [AV.int IntKind.i64 0, AV.nils, AV.bool false] (ones_cons rfl (ones_cons rfl (ones_cons rfl ones_nil)))
  refine Wo.val (.ptr ⟨H.n h, 0, 0⟩) H14 (by kernel_rfl) (e14 (v := AV.agg [AV.int IntKind.i64 0, AV.nils, AV.bool false]) (by kernel_rfl) rfl) ?_
  clear e14
  have m15 := X14.1
  obtain ⟨H16, e16, P16, X16, n16⟩ := P14.st 0 [AV.int IntKind.i64 ↑st, AV.nils, AV.bool false] (by simp) (ones_cons rfl (ones_cons rfl (ones_cons rfl ones_nil)))
  refine Wo.val .undef H16 (by kernel_rfl) (iop_stP (a := { b := h.n, g := 0, o := 0 }) (v := AV.agg [AV.int IntKind.i64 ↑st, AV.nils, AV.bool false]) (vs := [AV.int IntKind.i64 ↑st, AV.nils, AV.bool false]) (by kernel_rfl) (by kernel_rfl) rfl rfl e16) ?_
  have m17 := X16.1
  replace P16 : Pt H16 h.n (Blk.cells 0 24 [AV.int IntKind.i64 ↑st, AV.nils, AV.bool false] 0 false) := P16
  refine Wo.nil ?_
  refine Wp.seq ?_
  refine Wp.region ?_
  refine Wo.pre 1 (by kernel_rfl) ?_
  refine Wo.nil ?_
  refine Wp.seq ?_
  refine Wp.seq ?_
  refine Wp.region ?_
  refine Wo.pre 2 (by kernel_rfl) ?_
  (refine Wo.cvSB [13, 10, 67] rfl (by kernel_rfl) (by kernel_rfl) (by decide) (fun Hs Xs Os => ?_); have ns := Xs.1; have qs := Os.bq; have ps := Os.parts)
  have F18 := (b8.fr ((X14.transL X16).transR Xs) (by (first | omega | (intro s hs; omega) | (dsimp only; omega) | (intro s hs; dsimp only at hs; omega) | (simp only [blk_nils, blk_sl]; omega) | (intro s hs; simp only [blk_nils, blk_sl] at hs ⊢; omega) | (simp; done))))
  have c19 := bpre_run F18 o8 Os.bs
  refine Wo.call (by kernel_rfl) (by kernel_rfl) c19 ?_
  clear c19
  refine Wo.boolS (fun q20 => ?_) (fun q20 => ?_)
  rotate_left
  · exact absurd (hcf.symm.trans (by with_reducible assumption)) (by decide)
  have m21 := P14.1
  have m22 := P16.1
  have m23 := Os.bq
  have k24 := Os.parts
  have m25 := F18.bq
  have k26 := F18.parts
  have m27 := Xs.1
  refine Wo.pre 1 (by kernel_rfl) ?_
  have F28 := (P16.fr Xs id)
  obtain ⟨H29, e29, P29, X29, n29⟩ := F28.st 2 [AV.bool true] (by simp) (ones_cons rfl ones_nil)
  refine Wo.val .undef H29 (by kernel_rfl) (iop_stP (a := { b := h.n, g := 0, o := 2 }) (v := AV.bool true) (vs := [AV.bool true]) (by kernel_rfl) (by kernel_rfl) rfl rfl e29) ?_
  have m30 := X29.1
  replace P29 : Pt H29 h.n (Blk.cells 0 24 [AV.int IntKind.i64 ↑st, AV.nils, AV.bool true] 0 false) := P29
  refine Wo.nil ?_
  refine Wp.seq ?_
  refine Wp.region ?_
  refine Wo.pre 1 (by kernel_rfl) ?_
  refine Wo.val (AV.bool true) H29 (by kernel_rfl) (iop_ldP P29 (a := { b := h.n, g := 0, o := 2 }) (by kernel_rfl) rfl (by kernel_rfl)) ?_
  refine Wo.nil ?_
  refine Wp.cond true (by kernel_rfl) ?_
  refine Wp.region ?_
  refine Wo.pre 1 (by kernel_rfl) ?_
  refine Wo.nil ?_
  refine Wp.seq ?_
  refine Wp.seq ?_
  refine Wp.region ?_
  refine Wo.pre 1 (by kernel_rfl) ?_
  have F31 := (F18.fr X29 (by (first | omega | (intro s hs; omega) | (dsimp only; omega) | (intro s hs; dsimp only at hs; omega) | (simp only [blk_nils, blk_sl]; omega) | (intro s hs; simp only [blk_nils, blk_sl] at hs ⊢; omega) | (simp; done))))
  refine Wo.val (.int .i64 (List.length (List.drop (at_ + k) l) : Nat)) H29 (by kernel_rfl) (Bs.len F31 (by kernel_rfl)) ?_
  refine Wo.pre 2 (by kernel_rfl) ?_
  refine Wo.cmp (op := .lss) (x := IX.t 117) (y := IX.t 119) (k := IntKind.i64) (a := ↑(List.drop (at_ + k) l).length) (b := 23) ((↑(List.drop (at_ + k) l).length : Int) < (23 : Int)) (by kernel_rfl) (by kernel_rfl) (by kernel_rfl) (by kernel_rfl) (by simp) (by kernel_rfl) (fun q32 => ?_) (fun q32 => ?_)
  · (exfalso; omega)
  have m33 := F28.1
  have m34 := P29.1
  have m35 := F31.bq
  have k36 := F31.parts
  refine Wo.nil ?_
  refine Wp.cond false (by kernel_rfl) ?_
  refine Wp.skip ?_
  refine Wp.seq ?_
  refine Wp.seq ?_
  refine Wp.region ?_
  refine Wo.pre 2 (by kernel_rfl) ?_
  (refine Wo.cvSB [13, 10, 67, 111, 110, 110, 101, 99, 116, 105, 111, 110, 58, 32, 99, 108, 111, 115, 101, 13, 10, 13, 10] rfl (by kernel_rfl) (by kernel_rfl) (by decide) (fun Ht Xt Ot => ?_); have nt := Xt.1; have qt := Ot.bq; have pt := Ot.parts)
  have F37 := (F31.fr Xt (.inr id))
  have c38 := bpre_run F37 o8 Ot.bs
  refine Wo.call (by kernel_rfl) (by kernel_rfl) c38 ?_
  clear c38
  refine Wo.boolS (fun q39 => ?_) (fun q39 => ?_)
  rotate_left
  · exact absurd (hen.symm.trans (by with_reducible assumption)) (by decide)
  have m40 := Ot.bq
  have k41 := Ot.parts
  have m42 := F37.bq
  have k43 := F37.parts
  have m44 := Xt.1
  refine Wo.pre 1 (by kernel_rfl) ?_
  refine Wo.nil ?_
  refine Wp.cond false (by kernel_rfl) ?_
  refine Wp.skip ?_
  refine Wp.seq ?_
  refine Wp.region ?_
  refine Wo.pre 2 (by kernel_rfl) ?_
  refine Wo.val (.int IntKind.i64 ((↑at_ : Int) + (↑k : Int))) Ht (by kernel_rfl) (iop_arith (op := .add) (a := ↑at_) (b := ↑k) (by kernel_rfl) (by kernel_rfl) (by simp) (bin_add IntKind.i64 (by simp only [min_i64]; omega) (by simp only [max_i64]; omega))) ?_
  refine Wo.pre 2 (by kernel_rfl) ?_
  refine Wo.val (.int IntKind.i64 ((↑at_ + ↑k : Int) + (23 : Int))) Ht (by kernel_rfl) (iop_arith (op := .add) (a := ↑at_ + ↑k) (b := 23) (by kernel_rfl) (by kernel_rfl) (by simp) (bin_add IntKind.i64 (by simp only [min_i64]; omega) (by simp only [max_i64]; omega))) ?_
  refine Wo.pre 1 (by kernel_rfl) ?_
  refine Wo.nil ?_
  refine Wp.seq ?_
  refine Wp.seq ?_
  refine Wp.region ?_
  refine Wo.pre 3 (by kernel_rfl) ?_
  refine Wo.val (.int IntKind.i64 ((↑l.length : Int) - (↑at_ + ↑k + 23 : Int))) Ht (by kernel_rfl) (iop_arith (op := .sub) (a := ↑l.length) (b := ↑at_ + ↑k + 23) (by kernel_rfl) (by kernel_rfl) (by simp) (bin_sub IntKind.i64 (by simp only [min_i64]; omega) (by simp only [max_i64]; omega))) ?_
  refine Wo.pre 1 (by kernel_rfl) ?_
  refine Wo.cmp (op := .lss) (x := IX.t 149) (y := IX.t 150) (k := IntKind.i64) (a := ↑l.length - (↑at_ + ↑k + 23)) (b := ↑n) ((↑l.length - (↑at_ + ↑k + 23) : Int) < (↑n : Int)) (by kernel_rfl) (by kernel_rfl) (by kernel_rfl) (by kernel_rfl) (by simp) (by kernel_rfl) (fun q45 => ?_) (fun q45 => ?_)
  · (exfalso; omega)
  refine Wo.nil ?_
  refine Wp.cond false (by kernel_rfl) ?_
  refine Wp.skip ?_
  refine Wp.seq ?_
  refine Wp.region ?_
  refine Wo.pre 4 (by kernel_rfl) ?_
  refine Wo.val (.int IntKind.i64 ((↑at_ + ↑k + 23 : Int) + (↑n : Int))) Ht (by kernel_rfl) (iop_arith (op := .add) (a := ↑at_ + ↑k + 23) (b := ↑n) (by kernel_rfl) (by kernel_rfl) (by simp) (bin_add IntKind.i64 (by simp only [min_i64]; omega) (by simp only [max_i64]; omega))) ?_
  have F46 := (hb.fr ((((X14.transL X16).transR Xs).trans X29).transR Xt) (by (first | omega | (intro s hs; omega) | (dsimp only; omega) | (intro s hs; dsimp only at hs; omega) | (simp only [blk_nils, blk_sl]; omega) | (intro s hs; simp only [blk_nils, blk_sl] at hs ⊢; omega) | (simp; done))))
  obtain ⟨z47, e47, b47, o47⟩ := F46.subN cx (ei := (↑at_ + ↑k + 23 : Int)) (ej := (↑at_ + ↑k + 23 + ↑n : Int)) (((at_) + (k)) + 23) ((((at_) + (k)) + 23) + (n)) (by omega) (by omega) (by first | omega | simp; omega) (by first | omega | simp; omega)
  refine Wo.val z47 Ht (by kernel_rfl) (e47 (by kernel_rfl) (by kernel_rfl) (by kernel_rfl)) ?_
  clear e47
  have m48 := b47.bq
  have k49 := b47.parts
  obtain ⟨r50, H51, c52, X53, q54⟩ := clone_run b47 (by first | omega | (simp; omega) | (simp; done) | assumption)
  have m55 := X53.1
  have m56 := q54.bq
  have k57 := q54.parts
  refine Wo.call (by kernel_rfl) (by kernel_rfl) c52 ?_
  clear c52
  refine Wo.pre 1 (by kernel_rfl) ?_
  have F58 := (P29.fr (Xt.trans0 X53.fr) id)
  obtain ⟨H59, e59, P59, X59, n59⟩ := F58.st 1 [r50] (by simp) (ones_cons k57.2.1 ones_nil)
  refine Wo.val .undef H59 (by kernel_rfl) (iop_stP (a := { b := h.n, g := 0, o := 1 }) (v := r50) (vs := [r50]) (by kernel_rfl) (by kernel_rfl) k57.1 rfl e59) ?_
  have m60 := X59.1
  replace P59 : Pt H59 h.n (Blk.cells 0 24 [AV.int IntKind.i64 ↑st, r50, AV.bool true] 0 false) := P59
  refine Wo.nil ?_
  refine Wp.seq ?_
  refine Wp.region ?_
  refine Wo.val (AV.agg [AV.int IntKind.i64 ↑st, r50, AV.bool true]) H59 (by kernel_rfl) (iop_ldP P59 (a := { b := h.n, g := 0, o := 0 }) (by kernel_rfl) rfl (by kernel_rfl)) ?_
  refine Wo.pre 2 (by kernel_rfl) ?_
  refine Wo.val (.int IntKind.i64 ((↑at_ + ↑k + 23 : Int) + (↑n : Int))) H59 (by kernel_rfl) (iop_arith (op := .add) (a := ↑at_ + ↑k + 23) (b := ↑n) (by kernel_rfl) (by kernel_rfl) (by simp) (bin_add IntKind.i64 (by simp only [min_i64]; omega) (by simp only [max_i64]; omega))) ?_
  have F61 := (P2.fr ((((((X14.transL X16).transR Xs).trans X29).transR Xt).transR X53.fr).trans X59) (by (first | omega | (intro s hs; omega) | (dsimp only; omega) | (intro s hs; dsimp only at hs; omega) | (simp only [blk_nils, blk_sl]; omega) | (intro s hs; simp only [blk_nils, blk_sl] at hs ⊢; omega) | (simp; done))))
  obtain ⟨H62, e62, P62, X62, n62⟩ := F61.st 0 [AV.int IntKind.i64 ↑st, r50, AV.bool true] (by simp) (ones_cons rfl (ones_cons k57.2.1 (ones_cons rfl ones_nil)))
  refine Wo.val .undef H62 (by kernel_rfl) (iop_stP (a := { b := p2, g := 0, o := 0 }) (v := AV.agg [AV.int IntKind.i64 ↑st, r50, AV.bool true]) (vs := [AV.int IntKind.i64 ↑st, r50, AV.bool true]) (by kernel_rfl) (by kernel_rfl) rfl rfl e62) ?_
  have m63 := X62.1
  replace P62 : Pt H62 p2 (Blk.cells 0 24 [AV.int IntKind.i64 ↑st, r50, AV.bool true] 0 false) := P62
  refine Wo.pre 2 (by kernel_rfl) ?_
  refine Wo.nil ?_
  refine Wp.ret ?_
  refine ⟨.inr rfl, (.tup [AV.agg [AV.int IntKind.i64 ↑st, r50, AV.bool true], AV.int IntKind.i64 (↑at_ + ↑k + 23 + ↑n), AV.int IntKind.i64 0]), (ret_many (res_cell (a := { b := p2, g := 0, o := 0 }) (by kernel_rfl) (P62.ld rfl (by kernel_rfl)) (res_tmp (by kernel_rfl) (res_tmp (by kernel_rfl) res_nil))) rfl), ?_⟩
  dsimp only
  exact ⟨(((((((((hE.fr.trans0 X14).transL X16).transR Xs).trans X29).transR Xt).transR X53.fr).trans X59).trans X62).ext (by intro s hs; first | omega | (dsimp only at hs; omega) | (simp only [blk_nils, blk_sl] at hs ⊢; omega))), _, _, _, rfl, (by rw [hH]; omega), ((q54.fr (X59.trans X62) (by have d0 := m56.1.e; (first | omega | (intro s hs; omega) | (dsimp only; omega) | (intro s hs; dsimp only at hs; omega) | (simp only [blk_nils, blk_sl]; omega) | (intro s hs; simp only [blk_nils, blk_sl] at hs ⊢; omega) | (simp; done)))).mono (by omega)), (by (rw [hH]; exact cut_eq (by omega)))⟩

set_option maxHeartbeats 8000000 in
theorem tail_short_more_f {h0 h : H} {a : AA} {q : Cp} {l : List UInt8} {at_ k st p2 : Nat} (hb : Bs h (.sl a l.length q) l) (cx : Cok (.sl a l.length q)) (hl : l.length ≤ 140737488351232) (hat : at_ + k ≤ l.length) (P2 : Pt h p2 (.cells 0 24 [.int .i64 0, .nils, .bool false] 0 false)) (hp2 : h0.n ≤ p2) (hE : Ext h0 h) {d : List UInt8} (hT : (l.take (at_ + k)).drop at_ = d) (hd : ∀ c ∈ d, Re.isDig c = true) (hd0 : d ≠ []) (hk : k ≤ 8) (hdl : d.length = k) {n : Nat} (hn : n = Re.val d) (hn9 : n ≤ 1048576) (hcan : Re.dec n = d) (hcf : List.isPrefixOf [13, 10, 67] (List.drop (at_ + k) l) = false) (hs : (List.drop (at_ + k) l).length < 4) (hp : List.isPrefixOf (List.drop (at_ + k) l) [13, 10, 13, 10] = true)
    {ts : List AV} (t0 : ts.length = 169) (g0 : getL ts 0 = some (.sl a l.length q)) (g2 : getL ts 2 = some (.ptr ⟨p2, 0, 0⟩)) (g5 : getL ts 5 = some (.int .i64 st)) (g6 : getL ts 6 = some (.int .i64 at_)) (g8 : getL ts 8 = some (.fn (.func 18) [] [])) (g9 : getL ts 9 = some (.int .i64 k)) :
    Wp TF tail8 (ts, h) (After h0 l .more) := by
  have hA : Runs TF 19 [.str (List.drop at_ (List.take (at_ + k) l))] h (.tup [.int .i64 ((n : Nat) : Int), .nili]) h := by rw [hT, hn]; exact atoi_run h hd hd0 (by omega)
  have hne : ¬ List.drop at_ (List.take (at_ + k) l) = [] := by rw [hT]; exact hd0
  have hI : Runs TF 20 [.int .i64 ((n : Nat) : Int)] h (.str (List.drop at_ (List.take (at_ + k) l))) h := by rw [hT, ← hcan]; exact itoa_run h (by omega)
  have hnn := hE.1
  clear hT hcan hd hd0 hn
  rw [laid_eq t0 [(0, .sl a l.length q), (2, .ptr ⟨p2, 0, 0⟩), (5, .int .i64 st), (6, .int .i64 at_), (8, .fn (.func 18) [] []), (9, .int .i64 k)] (by simp [g0, g2, g5, g6, g8, g9])]
  have m1 := hb.bq
  have k2 := hb.parts
  have m3 := P2.1
  have m4 := hE.1
  refine Wp.seq ?_
  refine Wp.draw ?_
  refine Wd.pure (by kernel_rfl) (by kernel_rfl) ?_
  refine Wd.pure (by kernel_rfl) (by kernel_rfl) ?_
  refine Wd.pure (by kernel_rfl) (by kernel_rfl) ?_
  refine Wd.pure (by kernel_rfl) (by kernel_rfl) ?_
  refine Wd.make (.int IntKind.i64 ((↑at_ : Int) + (↑k : Int))) h (by kernel_rfl) (by kernel_rfl) (iop_arith (op := .add) (a := ↑at_) (b := ↑k) (by kernel_rfl) (by kernel_rfl) (by simp) (bin_add IntKind.i64 (by simp only [min_i64]; omega) (by simp only [max_i64]; omega))) ?_
  obtain ⟨z5, e5, b5, o5⟩ := hb.subN cx (ei := (↑at_ : Int)) (ej := (↑at_ + ↑k : Int)) (at_) ((at_) + (k)) rfl (by omega) (by first | omega | simp; omega) (by first | omega | simp; omega)
  refine Wd.make z5 h (by kernel_rfl) (by kernel_rfl) (e5 (by kernel_rfl) (by kernel_rfl) (by kernel_rfl)) ?_
  clear e5
  have m6 := b5.bq
  have k7 := b5.parts
  refine Wd.read (.str (List.drop at_ (List.take (at_ + k) l))) (.cvBS (.c (z5))) (by kernel_rfl) (by kernel_rfl) (iop_cvBS (v := z5) (by kernel_rfl) b5) ?_
  refine Wd.pure (by kernel_rfl) (by kernel_rfl) ?_
  refine Wd.pure (by kernel_rfl) (by kernel_rfl) ?_
  refine Wd.pure (by kernel_rfl) (by kernel_rfl) ?_
  refine Wd.make (.int IntKind.i64 ((↑at_ : Int) + (↑k : Int))) h (by kernel_rfl) (by kernel_rfl) (iop_arith (op := .add) (a := ↑at_) (b := ↑k) (by kernel_rfl) (by kernel_rfl) (by simp) (bin_add IntKind.i64 (by simp only [min_i64]; omega) (by simp only [max_i64]; omega))) ?_
  obtain ⟨z8, e8, b8, o8⟩ := hb.fromN cx (ei := (↑at_ + ↑k : Int)) ((at_) + (k)) (by omega) (by first | omega | simp; omega)
  refine Wd.make z8 h (by kernel_rfl) (by kernel_rfl) (e8 (by kernel_rfl) (by kernel_rfl)) ?_
  clear e8
  have m9 := b8.bq
  have k10 := b8.parts
  refine Wd.pure (by kernel_rfl) (by kernel_rfl) ?_
  refine Wd.pure (by kernel_rfl) (by kernel_rfl) ?_
  refine Wd.done (holds_of [(IOp.cvBS (IX.c z5), AV.str (List.drop at_ (List.take (at_ + k) l)), 6)] (by kernel_rfl) (holds_and (rd_cvBS b5) rfl)) ?_
  refine Wp.seq ?_
  refine Wp.region ?_
  refine Wo.pre 1 (by kernel_rfl) ?_
  refine Wo.call (by kernel_rfl) (by kernel_rfl) hA ?_
  clear hA
  refine Wo.pre 5 (by kernel_rfl) ?_
  refine Wo.nil ?_
  refine Wp.seq ?_
  refine Wp.block ?_
  refine Wp.seq ?_
  refine Wp.region ?_
  refine Wo.pre 1 (by kernel_rfl) ?_
  refine Wo.cmpS (x := IX.t 79) (y := IX.c (AV.str [])) (a := List.drop at_ (List.take (at_ + k) l)) (b := []) (by kernel_rfl) (by kernel_rfl) (by kernel_rfl) (by kernel_rfl) (fun q11 => ?_) (fun q11 => ?_)
  · exact absurd (by with_reducible assumption) hne
  refine Wo.pre 1 (by kernel_rfl) ?_
  refine Wo.nil ?_
  refine Wp.cond false (by kernel_rfl) ?_
  refine Wp.seq ?_
  refine Wp.region ?_
  refine Wo.pre 1 (by kernel_rfl) ?_
  refine Wo.pre 3 (by kernel_rfl) ?_
  refine Wo.call (by kernel_rfl) (by kernel_rfl) hI ?_
  clear hI
  refine Wo.pre 1 (by kernel_rfl) ?_
  refine Wo.cmpSN (x := IX.t 94) (y := IX.t 95) (a := List.drop at_ (List.take (at_ + k) l)) (b := List.drop at_ (List.take (at_ + k) l)) (by kernel_rfl) (by kernel_rfl) (by kernel_rfl) (by kernel_rfl) (fun q12 => ?_) (fun q12 => ?_)
  rotate_left
  · exact absurd rfl (by with_reducible assumption)
  refine Wo.pre 3 (by kernel_rfl) ?_
  refine Wo.cmp (op := .gtr) (x := IX.t 99) (y := IX.c (AV.int IntKind.i64 1048576)) (k := IntKind.i64) (a := ↑n) (b := 1048576) ((↑n : Int) > (1048576 : Int)) (by kernel_rfl) (by kernel_rfl) (by kernel_rfl) (by kernel_rfl) (by simp) (by kernel_rfl) (fun q13 => ?_) (fun q13 => ?_)
  · (exfalso; omega)
  refine Wo.pre 2 (by kernel_rfl) ?_
  refine Wo.nil ?_
  refine Wp.cond false (by kernel_rfl) ?_
  refine Wp.skip ?_
  refine Wp.seq ?_
  refine Wp.region ?_
  refine Wo.pre 2 (by kernel_rfl) ?_
  obtain ⟨H14, e14, P14, X14, n14⟩ := pt_new h 24 [AV.int IntKind.i64 0, AV.nils, AV.bool false] (ones_cons rfl (ones_cons rfl (ones_cons rfl ones_nil)))
  refine Wo.val (.ptr ⟨H.n h, 0, 0⟩) H14 (by kernel_rfl) (e14 (v := AV.agg [AV.int IntKind.i64 0, AV.nils, AV.bool false]) (by kernel_rfl) rfl) ?_
  clear e14
  have m15 := X14.1
  obtain ⟨H16, e16, P16, X16, n16⟩ := P14.st 0 [AV.int IntKind.i64 ↑st, AV.nils, AV.bool false] (by simp) (ones_cons rfl (ones_cons rfl (ones_cons rfl ones_nil)))
  refine Wo.val .undef H16 (by kernel_rfl) (iop_stP (a := { b := h.n, g := 0, o := 0 }) (v := AV.agg [AV.int IntKind.i64 ↑st, AV.nils, AV.bool false]) (vs := [AV.int IntKind.i64 ↑st, AV.nils, AV.bool false]) (by kernel_rfl) (by kernel_rfl) rfl rfl e16) ?_
  have m17 := X16.1
  replace P16 : Pt H16 h.n (Blk.cells 0 24 [AV.int IntKind.i64 ↑st, AV.nils, AV.bool false] 0 false) := P16
  refine Wo.nil ?_
  refine Wp.seq ?_
  refine Wp.region ?_
  refine Wo.pre 1 (by kernel_rfl) ?_
  refine Wo.nil ?_
  refine Wp.seq ?_
  refine Wp.seq ?_
  refine Wp.region ?_
  refine Wo.pre 2 (by kernel_rfl) ?_
  (refine Wo.cvSB [13, 10, 67] rfl (by kernel_rfl) (by kernel_rfl) (by decide) (fun Hs Xs Os => ?_); have ns := Xs.1; have qs := Os.bq; have ps := Os.parts)
  have F18 := (b8.fr ((X14.transL X16).transR Xs) (by (first | omega | (intro s hs; omega) | (dsimp only; omega) | (intro s hs; dsimp only at hs; omega) | (simp only [blk_nils, blk_sl]; omega) | (intro s hs; simp only [blk_nils, blk_sl] at hs ⊢; omega) | (simp; done))))
  have c19 := bpre_run F18 o8 Os.bs
  refine Wo.call (by kernel_rfl) (by kernel_rfl) c19 ?_
  clear c19
  refine Wo.boolS (fun q20 => ?_) (fun q20 => ?_)
  · exact absurd (hcf.symm.trans (by with_reducible assumption)) (by decide)
  have m21 := P14.1
  have m22 := P16.1
  have m23 := Os.bq
  have k24 := Os.parts
  have m25 := F18.bq
  have k26 := F18.parts
  have m27 := Xs.1
  refine Wo.pre 1 (by kernel_rfl) ?_
  have F28 := (P16.fr Xs id)
  obtain ⟨H29, e29, P29, X29, n29⟩ := F28.st 2 [AV.bool false] (by simp) (ones_cons rfl ones_nil)
  refine Wo.val .undef H29 (by kernel_rfl) (iop_stP (a := { b := h.n, g := 0, o := 2 }) (v := AV.bool false) (vs := [AV.bool false]) (by kernel_rfl) (by kernel_rfl) rfl rfl e29) ?_
  have m30 := X29.1
  replace P29 : Pt H29 h.n (Blk.cells 0 24 [AV.int IntKind.i64 ↑st, AV.nils, AV.bool false] 0 false) := P29
  refine Wo.nil ?_
  refine Wp.seq ?_
  refine Wp.region ?_
  refine Wo.pre 1 (by kernel_rfl) ?_
  refine Wo.val (AV.bool false) H29 (by kernel_rfl) (iop_ldP P29 (a := { b := h.n, g := 0, o := 2 }) (by kernel_rfl) rfl (by kernel_rfl)) ?_
  refine Wo.nil ?_
  refine Wp.cond false (by kernel_rfl) ?_
  refine Wp.skip ?_
  refine Wp.seq ?_
  refine Wp.seq ?_
  refine Wp.region ?_
  refine Wo.pre 1 (by kernel_rfl) ?_
  have F31 := (F18.fr X29 (by (first | omega | (intro s hs; omega) | (dsimp only; omega) | (intro s hs; dsimp only at hs; omega) | (simp only [blk_nils, blk_sl]; omega) | (intro s hs; simp only [blk_nils, blk_sl] at hs ⊢; omega) | (simp; done))))
  refine Wo.val (.int .i64 (List.length (List.drop (at_ + k) l) : Nat)) H29 (by kernel_rfl) (Bs.len F31 (by kernel_rfl)) ?_
  refine Wo.pre 2 (by kernel_rfl) ?_
  refine Wo.cmp (op := .lss) (x := IX.t 117) (y := IX.t 119) (k := IntKind.i64) (a := ↑(List.drop (at_ + k) l).length) (b := 4) ((↑(List.drop (at_ + k) l).length : Int) < (4 : Int)) (by kernel_rfl) (by kernel_rfl) (by kernel_rfl) (by kernel_rfl) (by simp) (by kernel_rfl) (fun q32 => ?_) (fun q32 => ?_)
  rotate_left
  · (exfalso; omega)
  have m33 := F28.1
  have m34 := P29.1
  have m35 := F31.bq
  have k36 := F31.parts
  refine Wo.nil ?_
  refine Wp.cond true (by kernel_rfl) ?_
  refine Wp.seq ?_
  refine Wp.region ?_
  refine Wo.pre 3 (by kernel_rfl) ?_
  refine Wo.val (.str (List.drop (at_ + k) l)) H29 (by kernel_rfl) (iop_cvBS (v := z8) (by kernel_rfl) F31) ?_
  have c37 := pre_run (H29) ([13, 10, 13, 10]) (List.drop (at_ + k) l)
  refine Wo.call (by kernel_rfl) (by kernel_rfl) c37 ?_
  clear c37
  refine Wo.boolS (fun q38 => ?_) (fun q38 => ?_)
  rotate_left
  · exact absurd (hp.symm.trans (by with_reducible assumption)) (by decide)
  obtain ⟨r39, H40, c41, rfl, X43⟩ := more_run (H29) (true)
  have m44 := X43.1
  refine Wo.call (by kernel_rfl) (by kernel_rfl) c41 ?_
  clear c41
  refine Wo.pre 3 (by kernel_rfl) ?_
  have F45 := (P2.fr ((((X14.transL X16).transR Xs).trans X29).transR X43.fr) (by (first | omega | (intro s hs; omega) | (dsimp only; omega) | (intro s hs; dsimp only at hs; omega) | (simp only [blk_nils, blk_sl]; omega) | (intro s hs; simp only [blk_nils, blk_sl] at hs ⊢; omega) | (simp; done))))
  obtain ⟨H46, e46, P46, X46, n46⟩ := F45.st 0 [AV.int IntKind.i64 0, AV.nils, AV.bool false] (by simp) (ones_cons rfl (ones_cons rfl (ones_cons rfl ones_nil)))
  refine Wo.val .undef H46 (by kernel_rfl) (iop_stP (a := { b := p2, g := 0, o := 0 }) (v := AV.agg [AV.int IntKind.i64 0, AV.nils, AV.bool false]) (vs := [AV.int IntKind.i64 0, AV.nils, AV.bool false]) (by kernel_rfl) (by kernel_rfl) rfl rfl e46) ?_
  have m47 := X46.1
  replace P46 : Pt H46 p2 (Blk.cells 0 24 [AV.int IntKind.i64 0, AV.nils, AV.bool false] 0 false) := P46
  refine Wo.pre 2 (by kernel_rfl) ?_
  refine Wo.nil ?_
  refine Wp.ret ?_
  refine ⟨.inr rfl, (.tup [AV.agg [AV.int IntKind.i64 0, AV.nils, AV.bool false], AV.int IntKind.i64 0, AV.int IntKind.i64 44]), (ret_many (res_cell (a := { b := p2, g := 0, o := 0 }) (by kernel_rfl) (P46.ld rfl (by kernel_rfl)) (res_tmp (by kernel_rfl) (res_tmp (by kernel_rfl) res_nil))) rfl), ?_⟩
  dsimp only
  exact ⟨(((((((hE.fr.trans0 X14).transL X16).transR Xs).trans X29).transR X43.fr).trans X46).ext (by intro s hs; first | omega | (dsimp only at hs; omega) | (simp only [blk_nils, blk_sl] at hs ⊢; omega))), rfl⟩

set_option maxHeartbeats 8000000 in
theorem tail_short_form_f {h0 h : H} {a : AA} {q : Cp} {l : List UInt8} {at_ k st p2 : Nat} (hb : Bs h (.sl a l.length q) l) (cx : Cok (.sl a l.length q)) (hl : l.length ≤ 140737488351232) (hat : at_ + k ≤ l.length) (P2 : Pt h p2 (.cells 0 24 [.int .i64 0, .nils, .bool false] 0 false)) (hp2 : h0.n ≤ p2) (hE : Ext h0 h) {d : List UInt8} (hT : (l.take (at_ + k)).drop at_ = d) (hd : ∀ c ∈ d, Re.isDig c = true) (hd0 : d ≠ []) (hk : k ≤ 8) (hdl : d.length = k) {n : Nat} (hn : n = Re.val d) (hn9 : n ≤ 1048576) (hcan : Re.dec n = d) (hcf : List.isPrefixOf [13, 10, 67] (List.drop (at_ + k) l) = false) (hs : (List.drop (at_ + k) l).length < 4) (hp : List.isPrefixOf (List.drop (at_ + k) l) [13, 10, 13, 10] = false)
    {ts : List AV} (t0 : ts.length = 169) (g0 : getL ts 0 = some (.sl a l.length q)) (g2 : getL ts 2 = some (.ptr ⟨p2, 0, 0⟩)) (g5 : getL ts 5 = some (.int .i64 st)) (g6 : getL ts 6 = some (.int .i64 at_)) (g8 : getL ts 8 = some (.fn (.func 18) [] [])) (g9 : getL ts 9 = some (.int .i64 k)) :
    Wp TF tail8 (ts, h) (After h0 l .form) := by
  have hA : Runs TF 19 [.str (List.drop at_ (List.take (at_ + k) l))] h (.tup [.int .i64 ((n : Nat) : Int), .nili]) h := by rw [hT, hn]; exact atoi_run h hd hd0 (by omega)
  have hne : ¬ List.drop at_ (List.take (at_ + k) l) = [] := by rw [hT]; exact hd0
  have hI : Runs TF 20 [.int .i64 ((n : Nat) : Int)] h (.str (List.drop at_ (List.take (at_ + k) l))) h := by rw [hT, ← hcan]; exact itoa_run h (by omega)
  have hnn := hE.1
  clear hT hcan hd hd0 hn
  rw [laid_eq t0 [(0, .sl a l.length q), (2, .ptr ⟨p2, 0, 0⟩), (5, .int .i64 st), (6, .int .i64 at_), (8, .fn (.func 18) [] []), (9, .int .i64 k)] (by simp [g0, g2, g5, g6, g8, g9])]
  have m1 := hb.bq
  have k2 := hb.parts
  have m3 := P2.1
  have m4 := hE.1
  refine Wp.seq ?_
  refine Wp.draw ?_
  refine Wd.pure (by kernel_rfl) (by kernel_rfl) ?_
  refine Wd.pure (by kernel_rfl) (by kernel_rfl) ?_
  refine Wd.pure (by kernel_rfl) (by kernel_rfl) ?_
  refine Wd.pure (by kernel_rfl) (by kernel_rfl) ?_
  refine Wd.make (.int IntKind.i64 ((↑at_ : Int) + (↑k : Int))) h (by kernel_rfl) (by kernel_rfl) (iop_arith (op := .add) (a := ↑at_) (b := ↑k) (by kernel_rfl) (by kernel_rfl) (by simp) (bin_add IntKind.i64 (by simp only [min_i64]; omega) (by simp only [max_i64]; omega))) ?_
  obtain ⟨z5, e5, b5, o5⟩ := hb.subN cx (ei := (↑at_ : Int)) (ej := (↑at_ + ↑k : Int)) (at_) ((at_) + (k)) rfl (by omega) (by first | omega | simp; omega) (by first | omega | simp; omega)
  refine Wd.make z5 h (by kernel_rfl) (by kernel_rfl) (e5 (by kernel_rfl) (by kernel_rfl) (by kernel_rfl)) ?_
  clear e5
  have m6 := b5.bq
  have k7 := b5.parts
  refine Wd.read (.str (List.drop at_ (List.take (at_ + k) l))) (.cvBS (.c (z5))) (by kernel_rfl) (by kernel_rfl) (iop_cvBS (v := z5) (by kernel_rfl) b5) ?_
  refine Wd.pure (by kernel_rfl) (by kernel_rfl) ?_
  refine Wd.pure (by kernel_rfl) (by kernel_rfl) ?_
  refine Wd.pure (by kernel_rfl) (by kernel_rfl) ?_
  refine Wd.make (.int IntKind.i64 ((↑at_ : Int) + (↑k : Int))) h (by kernel_rfl) (by kernel_rfl) (iop_arith (op := .add) (a := ↑at_) (b := ↑k) (by kernel_rfl) (by kernel_rfl) (by simp) (bin_add IntKind.i64 (by simp only [min_i64]; omega) (by simp only [max_i64]; omega))) ?_
  obtain ⟨z8, e8, b8, o8⟩ := hb.fromN cx (ei := (↑at_ + ↑k : Int)) ((at_) + (k)) (by omega) (by first | omega | simp; omega)
  refine Wd.make z8 h (by kernel_rfl) (by kernel_rfl) (e8 (by kernel_rfl) (by kernel_rfl)) ?_
  clear e8
  have m9 := b8.bq
  have k10 := b8.parts
  refine Wd.pure (by kernel_rfl) (by kernel_rfl) ?_
  refine Wd.pure (by kernel_rfl) (by kernel_rfl) ?_
  refine Wd.done (holds_of [(IOp.cvBS (IX.c z5), AV.str (List.drop at_ (List.take (at_ + k) l)), 6)] (by kernel_rfl) (holds_and (rd_cvBS b5) rfl)) ?_
  refine Wp.seq ?_
  refine Wp.region ?_
  refine Wo.pre 1 (by kernel_rfl) ?_
  refine Wo.call (by kernel_rfl) (by kernel_rfl) hA ?_
  clear hA
  refine Wo.pre 5 (by kernel_rfl) ?_
  refine Wo.nil ?_
  refine Wp.seq ?_
  refine Wp.block ?_
  refine Wp.seq ?_
  refine Wp.region ?_
  refine Wo.pre 1 (by kernel_rfl) ?_
  refine Wo.cmpS (x := IX.t 79) (y := IX.c (AV.str [])) (a := List.drop at_ (List.take (at_ + k) l)) (b := []) (by kernel_rfl) (by kernel_rfl) (by kernel_rfl) (by kernel_rfl) (fun q11 => ?_) (fun q11 => ?_)
  · exact absurd (by with_reducible assumption) hne
  refine Wo.pre 1 (by kernel_rfl) ?_
  refine Wo.nil ?_
  refine Wp.cond false (by kernel_rfl) ?_
  refine Wp.seq ?_
  refine Wp.region ?_
  refine Wo.pre 1 (by kernel_rfl) ?_
  refine Wo.pre 3 (by kernel_rfl) ?_
  refine Wo.call (by kernel_rfl) (by kernel_rfl) hI ?_
  clear hI
  refine Wo.pre 1 (by kernel_rfl) ?_
  refine Wo.cmpSN (x := IX.t 94) (y := IX.t 95) (a := List.drop at_ (List.take (at_ + k) l)) (b := List.drop at_ (List.take (at_ + k) l)) (by kernel_rfl) (by kernel_rfl) (by kernel_rfl) (by kernel_rfl) (fun q12 => ?_) (fun q12 => ?_)
  rotate_left
  · exact absurd rfl (by with_reducible assumption)
  refine Wo.pre 3 (by kernel_rfl) ?_
  refine Wo.cmp (op := .gtr) (x := IX.t 99) (y := IX.c (AV.int IntKind.i64 1048576)) (k := IntKind.i64) (a := ↑n) (b := 1048576) ((↑n : Int) > (1048576 : Int)) (by kernel_rfl) (by kernel_rfl) (by kernel_rfl) (by kernel_rfl) (by simp) (by kernel_rfl) (fun q13 => ?_) (fun q13 => ?_)
  · (exfalso; omega)
  refine Wo.pre 2 (by kernel_rfl) ?_
  refine Wo.nil ?_
  refine Wp.cond false (by kernel_rfl) ?_
  refine Wp.skip ?_
  refine Wp.seq ?_
  refine Wp.region ?_
  refine Wo.pre 2 (by kernel_rfl) ?_
  obtain ⟨H14, e14, P14, X14, n14⟩ := pt_new h 24 [AV.int IntKind.i64 0, AV.nils, AV.bool false] (ones_cons rfl (ones_cons rfl (ones_cons rfl ones_nil)))
  refine Wo.val (.ptr ⟨H.n h, 0, 0⟩) H14 (by kernel_rfl) (e14 (v := AV.agg [AV.int IntKind.i64 0, AV.nils, AV.bool false]) (by kernel_rfl) rfl) ?_
  clear e14
  have m15 := X14.1
  obtain ⟨H16, e16, P16, X16, n16⟩ := P14.st 0 [AV.int IntKind.i64 ↑st, AV.nils, AV.bool false] (by simp) (ones_cons rfl (ones_cons rfl (ones_cons rfl ones_nil)))
  refine Wo.val .undef H16 (by kernel_rfl) (iop_stP (a := { b := h.n, g := 0, o := 0 }) (v := AV.agg [AV.int IntKind.i64 ↑st, AV.nils, AV.bool false]) (vs := [AV.int IntKind.i64 ↑st, AV.nils, AV.bool false]) (by kernel_rfl) (by kernel_rfl) rfl rfl e16) ?_
  have m17 := X16.1
  replace P16 : Pt H16 h.n (Blk.cells 0 24 [AV.int IntKind.i64 ↑st, AV.nils, AV.bool false] 0 false) := P16
  refine Wo.nil ?_
  refine Wp.seq ?_
  refine Wp.region ?_
  refine Wo.pre 1 (by kernel_rfl) ?_
  refine Wo.nil ?_
  refine Wp.seq ?_
  refine Wp.seq ?_
  refine Wp.region ?_
  refine Wo.pre 2 (by kernel_rfl) ?_
  (refine Wo.cvSB [13, 10, 67] rfl (by kernel_rfl) (by kernel_rfl) (by decide) (fun Hs Xs Os => ?_); have ns := Xs.1; have qs := Os.bq; have ps := Os.parts)
  have F18 := (b8.fr ((X14.transL X16).transR Xs) (by (first | omega | (intro s hs; omega) | (dsimp only; omega) | (intro s hs; dsimp only at hs; omega) | (simp only [blk_nils, blk_sl]; omega) | (intro s hs; simp only [blk_nils, blk_sl] at hs ⊢; omega) | (simp; done))))
  have c19 := bpre_run F18 o8 Os.bs
  refine Wo.call (by kernel_rfl) (by kernel_rfl) c19 ?_
  clear c19
  refine Wo.boolS (fun q20 => ?_) (fun q20 => ?_)
  · exact absurd (hcf.symm.trans (by with_reducible assumption)) (by decide)
  have m21 := P14.1
  have m22 := P16.1
  have m23 := Os.bq
  have k24 := Os.parts
  have m25 := F18.bq
  have k26 := F18.parts
  have m27 := Xs.1
  refine Wo.pre 1 (by kernel_rfl) ?_
  have F28 := (P16.fr Xs id)
  obtain ⟨H29, e29, P29, X29, n29⟩ := F28.st 2 [AV.bool false] (by simp) (ones_cons rfl ones_nil)
  refine Wo.val .undef H29 (by kernel_rfl) (iop_stP (a := { b := h.n, g := 0, o := 2 }) (v := AV.bool false) (vs := [AV.bool false]) (by kernel_rfl) (by kernel_rfl) rfl rfl e29) ?_
  have m30 := X29.1
  replace P29 : Pt H29 h.n (Blk.cells 0 24 [AV.int IntKind.i64 ↑st, AV.nils, AV.bool false] 0 false) := P29
  refine Wo.nil ?_
  refine Wp.seq ?_
  refine Wp.region ?_
  refine Wo.pre 1 (by kernel_rfl) ?_
  refine Wo.val (AV.bool false) H29 (by kernel_rfl) (iop_ldP P29 (a := { b := h.n, g := 0, o := 2 }) (by kernel_rfl) rfl (by kernel_rfl)) ?_
  refine Wo.nil ?_
  refine Wp.cond false (by kernel_rfl) ?_
  refine Wp.skip ?_
  refine Wp.seq ?_
  refine Wp.seq ?_
  refine Wp.region ?_
  refine Wo.pre 1 (by kernel_rfl) ?_
  have F31 := (F18.fr X29 (by (first | omega | (intro s hs; omega) | (dsimp only; omega) | (intro s hs; dsimp only at hs; omega) | (simp only [blk_nils, blk_sl]; omega) | (intro s hs; simp only [blk_nils, blk_sl] at hs ⊢; omega) | (simp; done))))
  refine Wo.val (.int .i64 (List.length (List.drop (at_ + k) l) : Nat)) H29 (by kernel_rfl) (Bs.len F31 (by kernel_rfl)) ?_
  refine Wo.pre 2 (by kernel_rfl) ?_
  refine Wo.cmp (op := .lss) (x := IX.t 117) (y := IX.t 119) (k := IntKind.i64) (a := ↑(List.drop (at_ + k) l).length) (b := 4) ((↑(List.drop (at_ + k) l).length : Int) < (4 : Int)) (by kernel_rfl) (by kernel_rfl) (by kernel_rfl) (by kernel_rfl) (by simp) (by kernel_rfl) (fun q32 => ?_) (fun q32 => ?_)
  rotate_left
  · (exfalso; omega)
  have m33 := F28.1
  have m34 := P29.1
  have m35 := F31.bq
  have k36 := F31.parts
  refine Wo.nil ?_
  refine Wp.cond true (by kernel_rfl) ?_
  refine Wp.seq ?_
  refine Wp.region ?_
  refine Wo.pre 3 (by kernel_rfl) ?_
  refine Wo.val (.str (List.drop (at_ + k) l)) H29 (by kernel_rfl) (iop_cvBS (v := z8) (by kernel_rfl) F31) ?_
  have c37 := pre_run (H29) ([13, 10, 13, 10]) (List.drop (at_ + k) l)
  refine Wo.call (by kernel_rfl) (by kernel_rfl) c37 ?_
  clear c37
  refine Wo.boolS (fun q38 => ?_) (fun q38 => ?_)
  · exact absurd (hp.symm.trans (by with_reducible assumption)) (by decide)
  obtain ⟨r39, H40, c41, rfl, X43⟩ := more_run (H29) (false)
  have m44 := X43.1
  refine Wo.call (by kernel_rfl) (by kernel_rfl) c41 ?_
  clear c41
  refine Wo.pre 3 (by kernel_rfl) ?_
  have F45 := (P2.fr ((((X14.transL X16).transR Xs).trans X29).transR X43.fr) (by (first | omega | (intro s hs; omega) | (dsimp only; omega) | (intro s hs; dsimp only at hs; omega) | (simp only [blk_nils, blk_sl]; omega) | (intro s hs; simp only [blk_nils, blk_sl] at hs ⊢; omega) | (simp; done))))
  obtain ⟨H46, e46, P46, X46, n46⟩ := F45.st 0 [AV.int IntKind.i64 0, AV.nils, AV.bool false] (by simp) (ones_cons rfl (ones_cons rfl (ones_cons rfl ones_nil)))
  refine Wo.val .undef H46 (by kernel_rfl) (iop_stP (a := { b := p2, g := 0, o := 0 }) (v := AV.agg [AV.int IntKind.i64 0, AV.nils, AV.bool false]) (vs := [AV.int IntKind.i64 0, AV.nils, AV.bool false]) (by kernel_rfl) (by kernel_rfl) rfl rfl e46) ?_
  have m47 := X46.1
  replace P46 : Pt H46 p2 (Blk.cells 0 24 [AV.int IntKind.i64 0, AV.nils, AV.bool false] 0 false) := P46
  refine Wo.pre 2 (by kernel_rfl) ?_
  refine Wo.nil ?_
  refine Wp.ret ?_
  refine ⟨.inr rfl, (.tup [AV.agg [AV.int IntKind.i64 0, AV.nils, AV.bool false], AV.int IntKind.i64 0, AV.int IntKind.i64 5]), (ret_many (res_cell (a := { b := p2, g := 0, o := 0 }) (by kernel_rfl) (P46.ld rfl (by kernel_rfl)) (res_tmp (by kernel_rfl) (res_tmp (by kernel_rfl) res_nil))) rfl), ?_⟩
  dsimp only
  exact ⟨(((((((hE.fr.trans0 X14).transL X16).transR Xs).trans X29).transR X43.fr).trans X46).ext (by intro s hs; first | omega | (dsimp only at hs; omega) | (simp only [blk_nils, blk_sl] at hs ⊢; omega))), rfl⟩

set_option maxHeartbeats 8000000 in
theorem tail_long_form_f {h0 h : H} {a : AA} {q : Cp} {l : List UInt8} {at_ k st p2 : Nat} (hb : Bs h (.sl a l.length q) l) (cx : Cok (.sl a l.length q)) (hl : l.length ≤ 140737488351232) (hat : at_ + k ≤ l.length) (P2 : Pt h p2 (.cells 0 24 [.int .i64 0, .nils, .bool false] 0 false)) (hp2 : h0.n ≤ p2) (hE : Ext h0 h) {d : List UInt8} (hT : (l.take (at_ + k)).drop at_ = d) (hd : ∀ c ∈ d, Re.isDig c = true) (hd0 : d ≠ []) (hk : k ≤ 8) (hdl : d.length = k) {n : Nat} (hn : n = Re.val d) (hn9 : n ≤ 1048576) (hcan : Re.dec n = d) (hcf : List.isPrefixOf [13, 10, 67] (List.drop (at_ + k) l) = false) (hs : ¬ (List.drop (at_ + k) l).length < 4) (hen : List.isPrefixOf [13, 10, 13, 10] (List.drop (at_ + k) l) = false)
    {ts : List AV} (t0 : ts.length = 169) (g0 : getL ts 0 = some (.sl a l.length q)) (g2 : getL ts 2 = some (.ptr ⟨p2, 0, 0⟩)) (g5 : getL ts 5 = some (.int .i64 st)) (g6 : getL ts 6 = some (.int .i64 at_)) (g8 : getL ts 8 = some (.fn (.func 18) [] [])) (g9 : getL ts 9 = some (.int .i64 k)) :
    Wp TF tail8 (ts, h) (After h0 l .form) := by
  have hA : Runs TF 19 [.str (List.drop at_ (List.take (at_ + k) l))] h (.tup [.int .i64 ((n : Nat) : Int), .nili]) h := by rw [hT, hn]; exact atoi_run h hd hd0 (by omega)
  have hne : ¬ List.drop at_ (List.take (at_ + k) l) = [] := by rw [hT]; exact hd0
  have hI : Runs TF 20 [.int .i64 ((n : Nat) : Int)] h (.str (List.drop at_ (List.take (at_ + k) l))) h := by rw [hT, ← hcan]; exact itoa_run h (by omega)
  have hnn := hE.1
  clear hT hcan hd hd0 hn
  rw [laid_eq t0 [(0, .sl a l.length q), (2, .ptr ⟨p2, 0, 0⟩), (5, .int .i64 st), (6, .int .i64 at_), (8, .fn (.func 18) [] []), (9, .int .i64 k)] (by simp [g0, g2, g5, g6, g8, g9])]
  have m1 := hb.bq
  have k2 := hb.parts
  have m3 := P2.1
  have m4 := hE.1
  refine Wp.seq ?_
  refine Wp.draw ?_
  refine Wd.pure (by kernel_rfl) (by kernel_rfl) ?_
  refine Wd.pure (by kernel_rfl) (by kernel_rfl) ?_
  refine Wd.pure (by kernel_rfl) (by kernel_rfl) ?_
  refine Wd.pure (by kernel_rfl) (by kernel_rfl) ?_
  refine Wd.make (.int IntKind.i64 ((↑at_ : Int) + (↑k : Int))) h (by kernel_rfl) (by kernel_rfl) (iop_arith (op := .add) (a := ↑at_) (b := ↑k) (by kernel_rfl) (by kernel_rfl) (by simp) (bin_add IntKind.i64 (by simp only [min_i64]; omega) (by simp only [max_i64]; omega))) ?_
  obtain ⟨z5, e5, b5, o5⟩ := hb.subN cx (ei := (↑at_ : Int)) (ej := (↑at_ + ↑k : Int)) (at_) ((at_) + (k)) rfl (by omega) (by first | omega | simp; omega) (by first | omega | simp; omega)
  refine Wd.make z5 h (by kernel_rfl) (by kernel_rfl) (e5 (by kernel_rfl) (by kernel_rfl) (by kernel_rfl)) ?_
  clear e5
  have m6 := b5.bq
  have k7 := b5.parts
  refine Wd.read (.str (List.drop at_ (List.take (at_ + k) l))) (.cvBS (.c (z5))) (by kernel_rfl) (by kernel_rfl) (iop_cvBS (v := z5) (by kernel_rfl) b5) ?_
  refine Wd.pure (by kernel_rfl) (by kernel_rfl) ?_
  refine Wd.pure (by kernel_rfl) (by kernel_rfl) ?_
  refine Wd.pure (by kernel_rfl) (by kernel_rfl) ?_
  refine Wd.make (.int IntKind.i64 ((↑at_ : Int) + (↑k : Int))) h (by kernel_rfl) (by kernel_rfl) (iop_arith (op := .add) (a := ↑at_) (b := ↑k) (by kernel_rfl) (by kernel_rfl) (by simp) (bin_add IntKind.i64 (by simp only [min_i64]; omega) (by simp only [max_i64]; omega))) ?_
  obtain ⟨z8, e8, b8, o8⟩ := hb.fromN cx (ei := (↑at_ + ↑k : Int)) ((at_) + (k)) (by omega) (by first | omega | simp; omega)
  refine Wd.make z8 h (by kernel_rfl) (by kernel_rfl) (e8 (by kernel_rfl) (by kernel_rfl)) ?_
  clear e8
  have m9 := b8.bq
  have k10 := b8.parts
  refine Wd.pure (by kernel_rfl) (by kernel_rfl) ?_
  refine Wd.pure (by kernel_rfl) (by kernel_rfl) ?_
  refine Wd.done (holds_of [(IOp.cvBS (IX.c z5), AV.str (List.drop at_ (List.take (at_ + k) l)), 6)] (by kernel_rfl) (holds_and (rd_cvBS b5) rfl)) ?_
  refine Wp.seq ?_
  refine Wp.region ?_
  refine Wo.pre 1 (by kernel_rfl) ?_
  refine Wo.call (by kernel_rfl) (by kernel_rfl) hA ?_
  clear hA
  refine Wo.pre 5 (by kernel_rfl) ?_
  refine Wo.nil ?_
  refine Wp.seq ?_
  refine Wp.block ?_
  refine Wp.seq ?_
  refine Wp.region ?_
  refine Wo.pre 1 (by kernel_rfl) ?_
  refine Wo.cmpS (x := IX.t 79) (y := IX.c (AV.str [])) (a := List.drop at_ (List.take (at_ + k) l)) (b := []) (by kernel_rfl) (by kernel_rfl) (by kernel_rfl) (by kernel_rfl) (fun q11 => ?_) (fun q11 => ?_)
  · exact absurd (by with_reducible assumption) hne
  refine Wo.pre 1 (by kernel_rfl) ?_
  refine Wo.nil ?_
  refine Wp.cond false (by kernel_rfl) ?_
  refine Wp.seq ?_
  refine Wp.region ?_
  refine Wo.pre 1 (by kernel_rfl) ?_
  refine Wo.pre 3 (by kernel_rfl) ?_
  refine Wo.call (by kernel_rfl) (by kernel_rfl) hI ?_
  clear hI
  refine Wo.pre 1 (by kernel_rfl) ?_
  refine Wo.cmpSN (x := IX.t 94) (y := IX.t 95) (a := List.drop at_ (List.take (at_ + k) l)) (b := List.drop at_ (List.take (at_ + k) l)) (by kernel_rfl) (by kernel_rfl) (by kernel_rfl) (by kernel_rfl) (fun q12 => ?_) (fun q12 => ?_)
  rotate_left
  · exact absurd rfl (by with_reducible assumption)
  refine Wo.pre 3 (by kernel_rfl) ?_
  refine Wo.cmp (op := .gtr) (x := IX.t 99) (y := IX.c (AV.int IntKind.i64 1048576)) (k := IntKind.i64) (a := ↑n) (b := 1048576) ((↑n : Int) > (1048576 : Int)) (by kernel_rfl) (by kernel_rfl) (by kernel_rfl) (by kernel_rfl) (by simp) (by kernel_rfl) (fun q13 => ?_) (fun q13 => ?_)
  · (exfalso; omega)
  refine Wo.pre 2 (by kernel_rfl) ?_
  refine Wo.nil ?_
  refine Wp.cond false (by kernel_rfl) ?_
  refine Wp.skip ?_
  refine Wp.seq ?_
  refine Wp.region ?_
  refine Wo.pre 2 (by kernel_rfl) ?_
  obtain ⟨H14, e14, P14, X14, n14⟩ := pt_new h 24 [AV.int IntKind.i64 0, AV.nils, AV.bool false] (ones_cons rfl (ones_cons rfl (ones_cons rfl ones_nil)))
  refine Wo.val (.ptr ⟨H.n h, 0, 0⟩) H14 (by kernel_rfl) (e14 (v := AV.agg [AV.int IntKind.i64 0, AV.nils, AV.bool false]) (by kernel_rfl) rfl) ?_
  clear e14
  have m15 := X14.1
  obtain ⟨H16, e16, P16, X16, n16⟩ := P14.st 0 [AV.int IntKind.i64 ↑st, AV.nils, AV.bool false] (by simp) (ones_cons rfl (ones_cons rfl (ones_cons rfl ones_nil)))
  refine Wo.val .undef H16 (by kernel_rfl) (iop_stP (a := { b := h.n, g := 0, o := 0 }) (v := AV.agg [AV.int IntKind.i64 ↑st, AV.nils, AV.bool false]) (vs := [AV.int IntKind.i64 ↑st, AV.nils, AV.bool false]) (by kernel_rfl) (by kernel_rfl) rfl rfl e16) ?_
  have m17 := X16.1
  replace P16 : Pt H16 h.n (Blk.cells 0 24 [AV.int IntKind.i64 ↑st, AV.nils, AV.bool false] 0 false) := P16
  refine Wo.nil ?_
  refine Wp.seq ?_
  refine Wp.region ?_
  refine Wo.pre 1 (by kernel_rfl) ?_
  refine Wo.nil ?_
  refine Wp.seq ?_
  refine Wp.seq ?_
  refine Wp.region ?_
  refine Wo.pre 2 (by kernel_rfl) ?_
  (refine Wo.cvSB [13, 10, 67] rfl (by kernel_rfl) (by kernel_rfl) (by decide) (fun Hs Xs Os => ?_); have ns := Xs.1; have qs := Os.bq; have ps := Os.parts)
  have F18 := (b8.fr ((X14.transL X16).transR Xs) (by (first | omega | (intro s hs; omega) | (dsimp only; omega) | (intro s hs; dsimp only at hs; omega) | (simp only [blk_nils, blk_sl]; omega) | (intro s hs; simp only [blk_nils, blk_sl] at hs ⊢; omega) | (simp; done))))
  have c19 := bpre_run F18 o8 Os.bs
  refine Wo.call (by kernel_rfl) (by kernel_rfl) c19 ?_
  clear c19
  refine Wo.boolS (fun q20 => ?_) (fun q20 => ?_)
  · exact absurd (hcf.symm.trans (by with_reducible assumption)) (by decide)
  have m21 := P14.1
  have m22 := P16.1
  have m23 := Os.bq
  have k24 := Os.parts
  have m25 := F18.bq
  have k26 := F18.parts
  have m27 := Xs.1
  refine Wo.pre 1 (by kernel_rfl) ?_
  have F28 := (P16.fr Xs id)
  obtain ⟨H29, e29, P29, X29, n29⟩ := F28.st 2 [AV.bool false] (by simp) (ones_cons rfl ones_nil)
  refine Wo.val .undef H29 (by kernel_rfl) (iop_stP (a := { b := h.n, g := 0, o := 2 }) (v := AV.bool false) (vs := [AV.bool false]) (by kernel_rfl) (by kernel_rfl) rfl rfl e29) ?_
  have m30 := X29.1
  replace P29 : Pt H29 h.n (Blk.cells 0 24 [AV.int IntKind.i64 ↑st, AV.nils, AV.bool false] 0 false) := P29
  refine Wo.nil ?_
  refine Wp.seq ?_
  refine Wp.region ?_
  refine Wo.pre 1 (by kernel_rfl) ?_
  refine Wo.val (AV.bool false) H29 (by kernel_rfl) (iop_ldP P29 (a := { b := h.n, g := 0, o := 2 }) (by kernel_rfl) rfl (by kernel_rfl)) ?_
  refine Wo.nil ?_
  refine Wp.cond false (by kernel_rfl) ?_
  refine Wp.skip ?_
  refine Wp.seq ?_
  refine Wp.seq ?_
  refine Wp.region ?_
  refine Wo.pre 1 (by kernel_rfl) ?_
  have F31 := (F18.fr X29 (by (first | omega | (intro s hs; omega) | (dsimp only; omega) | (intro s hs; dsimp only at hs; omega) | (simp only [blk_nils, blk_sl]; omega) | (intro s hs; simp only [blk_nils, blk_sl] at hs ⊢; omega) | (simp; done))))
  refine Wo.val (.int .i64 (List.length (List.drop (at_ + k) l) : Nat)) H29 (by kernel_rfl) (Bs.len F31 (by kernel_rfl)) ?_
  refine Wo.pre 2 (by kernel_rfl) ?_
  refine Wo.cmp (op := .lss) (x := IX.t 117) (y := IX.t 119) (k := IntKind.i64) (a := ↑(List.drop (at_ + k) l).length) (b := 4) ((↑(List.drop (at_ + k) l).length : Int) < (4 : Int)) (by kernel_rfl) (by kernel_rfl) (by kernel_rfl) (by kernel_rfl) (by simp) (by kernel_rfl) (fun q32 => ?_) (fun q32 => ?_)
  · (exfalso; omega)
  have m33 := F28.1
  have m34 := P29.1
  have m35 := F31.bq
  have k36 := F31.parts
  refine Wo.nil ?_
  refine Wp.cond false (by kernel_rfl) ?_
  refine Wp.skip ?_
  refine Wp.seq ?_
  refine Wp.seq ?_
  refine Wp.region ?_
  refine Wo.pre 2 (by kernel_rfl) ?_
  (refine Wo.cvSB [13, 10, 13, 10] rfl (by kernel_rfl) (by kernel_rfl) (by decide) (fun Ht Xt Ot => ?_); have nt := Xt.1; have qt := Ot.bq; have pt := Ot.parts)
  have F37 := (F31.fr Xt (.inr id))
  have c38 := bpre_run F37 o8 Ot.bs
  refine Wo.call (by kernel_rfl) (by kernel_rfl) c38 ?_
  clear c38
  refine Wo.boolS (fun q39 => ?_) (fun q39 => ?_)
  · exact absurd (hen.symm.trans (by with_reducible assumption)) (by decide)
  have m40 := Ot.bq
  have k41 := Ot.parts
  have m42 := F37.bq
  have k43 := F37.parts
  have m44 := Xt.1
  refine Wo.pre 1 (by kernel_rfl) ?_
  refine Wo.nil ?_
  refine Wp.cond true (by kernel_rfl) ?_
  refine Wp.seq ?_
  refine Wp.region ?_
  refine Wo.pre 1 (by kernel_rfl) ?_
  obtain ⟨r45, H46, c47, rfl, X49⟩ := more_run (Ht) (false)
  have m50 := X49.1
  refine Wo.call (by kernel_rfl) (by kernel_rfl) c47 ?_
  clear c47
  refine Wo.pre 3 (by kernel_rfl) ?_
  have F51 := (P2.fr (((((X14.transL X16).transR Xs).trans X29).transR Xt).transR X49.fr) (by (first | omega | (intro s hs; omega) | (dsimp only; omega) | (intro s hs; dsimp only at hs; omega) | (simp only [blk_nils, blk_sl]; omega) | (intro s hs; simp only [blk_nils, blk_sl] at hs ⊢; omega) | (simp; done))))
  obtain ⟨H52, e52, P52, X52, n52⟩ := F51.st 0 [AV.int IntKind.i64 0, AV.nils, AV.bool false] (by simp) (ones_cons rfl (ones_cons rfl (ones_cons rfl ones_nil)))
  refine Wo.val .undef H52 (by kernel_rfl) (iop_stP (a := { b := p2, g := 0, o := 0 }) (v := AV.agg [AV.int IntKind.i64 0, AV.nils, AV.bool false]) (vs := [AV.int IntKind.i64 0, AV.nils, AV.bool false]) (by kernel_rfl) (by kernel_rfl) rfl rfl e52) ?_
  have m53 := X52.1
  replace P52 : Pt H52 p2 (Blk.cells 0 24 [AV.int IntKind.i64 0, AV.nils, AV.bool false] 0 false) := P52
  refine Wo.pre 2 (by kernel_rfl) ?_
  refine Wo.nil ?_
  refine Wp.ret ?_
  refine ⟨.inr rfl, (.tup [AV.agg [AV.int IntKind.i64 0, AV.nils, AV.bool false], AV.int IntKind.i64 0, AV.int IntKind.i64 5]), (ret_many (res_cell (a := { b := p2, g := 0, o := 0 }) (by kernel_rfl) (P52.ld rfl (by kernel_rfl)) (res_tmp (by kernel_rfl) (res_tmp (by kernel_rfl) res_nil))) rfl), ?_⟩
  dsimp only
  exact ⟨((((((((hE.fr.trans0 X14).transL X16).transR Xs).trans X29).transR Xt).transR X49.fr).trans X52).ext (by intro s hs; first | omega | (dsimp only at hs; omega) | (simp only [blk_nils, blk_sl] at hs ⊢; omega))), rfl⟩

set_option maxHeartbeats 8000000 in
theorem tail_long_more_f {h0 h : H} {a : AA} {q : Cp} {l : List UInt8} {at_ k st p2 : Nat} (hb : Bs h (.sl a l.length q) l) (cx : Cok (.sl a l.length q)) (hl : l.length ≤ 140737488351232) (hat : at_ + k ≤ l.length) (P2 : Pt h p2 (.cells 0 24 [.int .i64 0, .nils, .bool false] 0 false)) (hp2 : h0.n ≤ p2) (hE : Ext h0 h) {d : List UInt8} (hT : (l.take (at_ + k)).drop at_ = d) (hd : ∀ c ∈ d, Re.isDig c = true) (hd0 : d ≠ []) (hk : k ≤ 8) (hdl : d.length = k) {n : Nat} (hn : n = Re.val d) (hn9 : n ≤ 1048576) (hcan : Re.dec n = d) (hcf : List.isPrefixOf [13, 10, 67] (List.drop (at_ + k) l) = false) (hs : ¬ (List.drop (at_ + k) l).length < 4) (hen : List.isPrefixOf [13, 10, 13, 10] (List.drop (at_ + k) l) = true) (hge : at_ + k + 4 ≤ l.length) (hsh : l.length - (at_ + k + 4) < n)
    {ts : List AV} (t0 : ts.length = 169) (g0 : getL ts 0 = some (.sl a l.length q)) (g2 : getL ts 2 = some (.ptr ⟨p2, 0, 0⟩)) (g5 : getL ts 5 = some (.int .i64 st)) (g6 : getL ts 6 = some (.int .i64 at_)) (g8 : getL ts 8 = some (.fn (.func 18) [] [])) (g9 : getL ts 9 = some (.int .i64 k)) :
    Wp TF tail8 (ts, h) (After h0 l .more) := by
  have hA : Runs TF 19 [.str (List.drop at_ (List.take (at_ + k) l))] h (.tup [.int .i64 ((n : Nat) : Int), .nili]) h := by rw [hT, hn]; exact atoi_run h hd hd0 (by omega)
  have hne : ¬ List.drop at_ (List.take (at_ + k) l) = [] := by rw [hT]; exact hd0
  have hI : Runs TF 20 [.int .i64 ((n : Nat) : Int)] h (.str (List.drop at_ (List.take (at_ + k) l))) h := by rw [hT, ← hcan]; exact itoa_run h (by omega)
  have hnn := hE.1
  clear hT hcan hd hd0 hn
  rw [laid_eq t0 [(0, .sl a l.length q), (2, .ptr ⟨p2, 0, 0⟩), (5, .int .i64 st), (6, .int .i64 at_), (8, .fn (.func 18) [] []), (9, .int .i64 k)] (by simp [g0, g2, g5, g6, g8, g9])]
  have m1 := hb.bq
  have k2 := hb.parts
  have m3 := P2.1
  have m4 := hE.1
  refine Wp.seq ?_
  refine Wp.draw ?_
  refine Wd.pure (by kernel_rfl) (by kernel_rfl) ?_
  refine Wd.pure (by kernel_rfl) (by kernel_rfl) ?_
  refine Wd.pure (by kernel_rfl) (by kernel_rfl) ?_
  refine Wd.pure (by kernel_rfl) (by kernel_rfl) ?_
  refine Wd.make (.int IntKind.i64 ((↑at_ : Int) + (↑k : Int))) h (by kernel_rfl) (by kernel_rfl) (iop_arith (op := .add) (a := ↑at_) (b := ↑k) (by kernel_rfl) (by kernel_rfl) (by simp) (bin_add IntKind.i64 (by simp only [min_i64]; omega) (by simp only [max_i64]; omega))) ?_
  obtain ⟨z5, e5, b5, o5⟩ := hb.subN cx (ei := (↑at_ : Int)) (ej := (↑at_ + ↑k : Int)) (at_) ((at_) + (k)) rfl (by omega) (by first | omega | simp; omega) (by first | omega | simp; omega)
  refine Wd.make z5 h (by kernel_rfl) (by kernel_rfl) (e5 (by kernel_rfl) (by kernel_rfl) (by kernel_rfl)) ?_
  clear e5
  have m6 := b5.bq
  have k7 := b5.parts
  refine Wd.read (.str (List.drop at_ (List.take (at_ + k) l))) (.cvBS (.c (z5))) (by kernel_rfl) (by kernel_rfl) (iop_cvBS (v := z5) (by kernel_rfl) b5) ?_
  refine Wd.pure (by kernel_rfl) (by kernel_rfl) ?_
  refine Wd.pure (by kernel_rfl) (by kernel_rfl) ?_
  refine Wd.pure (by kernel_rfl) (by kernel_rfl) ?_
  refine Wd.make (.int IntKind.i64 ((↑at_ : Int) + (↑k : Int))) h (by kernel_rfl) (by kernel_rfl) (iop_arith (op := .add) (a := ↑at_) (b := ↑k) (by kernel_rfl) (by kernel_rfl) (by simp) (bin_add IntKind.i64 (by simp only [min_i64]; omega) (by simp only [max_i64]; omega))) ?_
  obtain ⟨z8, e8, b8, o8⟩ := hb.fromN cx (ei := (↑at_ + ↑k : Int)) ((at_) + (k)) (by omega) (by first | omega | simp; omega)
  refine Wd.make z8 h (by kernel_rfl) (by kernel_rfl) (e8 (by kernel_rfl) (by kernel_rfl)) ?_
  clear e8
  have m9 := b8.bq
  have k10 := b8.parts
  refine Wd.pure (by kernel_rfl) (by kernel_rfl) ?_
  refine Wd.pure (by kernel_rfl) (by kernel_rfl) ?_
  refine Wd.done (holds_of [(IOp.cvBS (IX.c z5), AV.str (List.drop at_ (List.take (at_ + k) l)), 6)] (by kernel_rfl) (holds_and (rd_cvBS b5) rfl)) ?_
  refine Wp.seq ?_
  refine Wp.region ?_
  refine Wo.pre 1 (by kernel_rfl) ?_
  refine Wo.call (by kernel_rfl) (by kernel_rfl) hA ?_
  clear hA
  refine Wo.pre 5 (by kernel_rfl) ?_
  refine Wo.nil ?_
  refine Wp.seq ?_
  refine Wp.block ?_
  refine Wp.seq ?_
  refine Wp.region ?_
  refine Wo.pre 1 (by kernel_rfl) ?_
  refine Wo.cmpS (x := IX.t 79) (y := IX.c (AV.str [])) (a := List.drop at_ (List.take (at_ + k) l)) (b := []) (by kernel_rfl) (by kernel_rfl) (by kernel_rfl) (by kernel_rfl) (fun q11 => ?_) (fun q11 => ?_)
  · exact absurd (by with_reducible assumption) hne
  refine Wo.pre 1 (by kernel_rfl) ?_
  refine Wo.nil ?_
  refine Wp.cond false (by kernel_rfl) ?_
  refine Wp.seq ?_
  refine Wp.region ?_
  refine Wo.pre 1 (by kernel_rfl) ?_
  refine Wo.pre 3 (by kernel_rfl) ?_
  refine Wo.call (by kernel_rfl) (by kernel_rfl) hI ?_
  clear hI
  refine Wo.pre 1 (by kernel_rfl) ?_
  refine Wo.cmpSN (x := IX.t 94) (y := IX.t 95) (a := List.drop at_ (List.take (at_ + k) l)) (b := List.drop at_ (List.take (at_ + k) l)) (by kernel_rfl) (by kernel_rfl) (by kernel_rfl) (by kernel_rfl) (fun q12 => ?_) (fun q12 => ?_)
  rotate_left
  · exact absurd rfl (by with_reducible assumption)
  refine Wo.pre 3 (by kernel_rfl) ?_
  refine Wo.cmp (op := .gtr) (x := IX.t 99) (y := IX.c (AV.int IntKind.i64 1048576)) (k := IntKind.i64) (a := ↑n) (b := 1048576) ((↑n : Int) > (1048576 : Int)) (by kernel_rfl) (by kernel_rfl) (by kernel_rfl) (by kernel_rfl) (by simp) (by kernel_rfl) (fun q13 => ?_) (fun q13 => ?_)
  · (exfalso; omega)
  refine Wo.pre 2 (by kernel_rfl) ?_
  refine Wo.nil ?_
  refine Wp.cond false (by kernel_rfl) ?_
  refine Wp.skip ?_
  refine Wp.seq ?_
  refine Wp.region ?_
  refine Wo.pre 2 (by kernel_rfl) ?_
  obtain ⟨H14, e14, P14, X14, n14⟩ := pt_new h 24 [AV.int IntKind.i64 0, AV.nils, AV.bool false] (ones_cons rfl (ones_cons rfl (ones_cons rfl ones_nil)))
  refine Wo.val (.ptr ⟨H.n h, 0, 0⟩) H14 (by kernel_rfl) (e14 (v := AV.agg [AV.int IntKind.i64 0, AV.nils, AV.bool false]) (by kernel_rfl) rfl) ?_
  clear e14
  have m15 := X14.1
  obtain ⟨H16, e16, P16, X16, n16⟩ := P14.st 0 [AV.int IntKind.i64 ↑st, AV.nils, AV.bool false] (by simp) (ones_cons rfl (ones_cons rfl (ones_cons rfl ones_nil)))
  refine Wo.val .undef H16 (by kernel_rfl) (iop_stP (a := { b := h.n, g := 0, o := 0 }) (v := AV.agg [AV.int IntKind.i64 ↑st, AV.nils, AV.bool false]) (vs := [AV.int IntKind.i64 ↑st, AV.nils, AV.bool false]) (by kernel_rfl) (by kernel_rfl) rfl rfl e16) ?_
  have m17 := X16.1
  replace P16 : Pt H16 h.n (Blk.cells 0 24 [AV.int IntKind.i64 ↑st, AV.nils, AV.bool false] 0 false) := P16
  refine Wo.nil ?_
  refine Wp.seq ?_
  refine Wp.region ?_
  refine Wo.pre 1 (by kernel_rfl) ?_
  refine Wo.nil ?_
  refine Wp.seq ?_
  refine Wp.seq ?_
  refine Wp.region ?_
  refine Wo.pre 2 (by kernel_rfl) ?_
  (refine Wo.cvSB [13, 10, 67] rfl (by kernel_rfl) (by kernel_rfl) (by decide) (fun Hs Xs Os => ?_); have ns := Xs.1; have qs := Os.bq; have ps := Os.parts)
  have F18 := (b8.fr ((X14.transL X16).transR Xs) (by (first | omega | (intro s hs; omega) | (dsimp only; omega) | (intro s hs; dsimp only at hs; omega) | (simp only [blk_nils, blk_sl]; omega) | (intro s hs; simp only [blk_nils, blk_sl] at hs ⊢; omega) | (simp; done))))
  have c19 := bpre_run F18 o8 Os.bs
  refine Wo.call (by kernel_rfl) (by kernel_rfl) c19 ?_
  clear c19
  refine Wo.boolS (fun q20 => ?_) (fun q20 => ?_)
  · exact absurd (hcf.symm.trans (by with_reducible assumption)) (by decide)
  have m21 := P14.1
  have m22 := P16.1
  have m23 := Os.bq
  have k24 := Os.parts
  have m25 := F18.bq
  have k26 := F18.parts
  have m27 := Xs.1
  refine Wo.pre 1 (by kernel_rfl) ?_
  have F28 := (P16.fr Xs id)
  obtain ⟨H29, e29, P29, X29, n29⟩ := F28.st 2 [AV.bool false] (by simp) (ones_cons rfl ones_nil)
  refine Wo.val .undef H29 (by kernel_rfl) (iop_stP (a := { b := h.n, g := 0, o := 2 }) (v := AV.bool false) (vs := [AV.bool false]) (by kernel_rfl) (by kernel_rfl) rfl rfl e29) ?_
  have m30 := X29.1
  replace P29 : Pt H29 h.n (Blk.cells 0 24 [AV.int IntKind.i64 ↑st, AV.nils, AV.bool false] 0 false) := P29
  refine Wo.nil ?_
  refine Wp.seq ?_
  refine Wp.region ?_
  refine Wo.pre 1 (by kernel_rfl) ?_
  refine Wo.val (AV.bool false) H29 (by kernel_rfl) (iop_ldP P29 (a := { b := h.n, g := 0, o := 2 }) (by kernel_rfl) rfl (by kernel_rfl)) ?_
  refine Wo.nil ?_
  refine Wp.cond false (by kernel_rfl) ?_
  refine Wp.skip ?_
  refine Wp.seq ?_
  refine Wp.seq ?_
  refine Wp.region ?_
  refine Wo.pre 1 (by kernel_rfl) ?_
  have F31 := (F18.fr X29 (by (first | omega | (intro s hs; omega) | (dsimp only; omega) | (intro s hs; dsimp only at hs; omega) | (simp only [blk_nils, blk_sl]; omega) | (intro s hs; simp only [blk_nils, blk_sl] at hs ⊢; omega) | (simp; done))))
  refine Wo.val (.int .i64 (List.length (List.drop (at_ + k) l) : Nat)) H29 (by kernel_rfl) (Bs.len F31 (by kernel_rfl)) ?_
  refine Wo.pre 2 (by kernel_rfl) ?_
  refine Wo.cmp (op := .lss) (x := IX.t 117) (y := IX.t 119) (k := IntKind.i64) (a := ↑(List.drop (at_ + k) l).length) (b := 4) ((↑(List.drop (at_ + k) l).length : Int) < (4 : Int)) (by kernel_rfl) (by kernel_rfl) (by kernel_rfl) (by kernel_rfl) (by simp) (by kernel_rfl) (fun q32 => ?_) (fun q32 => ?_)
  · (exfalso; omega)
  have m33 := F28.1
  have m34 := P29.1
  have m35 := F31.bq
  have k36 := F31.parts
  refine Wo.nil ?_
  refine Wp.cond false (by kernel_rfl) ?_
  refine Wp.skip ?_
  refine Wp.seq ?_
  refine Wp.seq ?_
  refine Wp.region ?_
  refine Wo.pre 2 (by kernel_rfl) ?_
  (refine Wo.cvSB [13, 10, 13, 10] rfl (by kernel_rfl) (by kernel_rfl) (by decide) (fun Ht Xt Ot => ?_); have nt := Xt.1; have qt := Ot.bq; have pt := Ot.parts)
  have F37 := (F31.fr Xt (.inr id))
  have c38 := bpre_run F37 o8 Ot.bs
  refine Wo.call (by kernel_rfl) (by kernel_rfl) c38 ?_
  clear c38
  refine Wo.boolS (fun q39 => ?_) (fun q39 => ?_)
  rotate_left
  · exact absurd (hen.symm.trans (by with_reducible assumption)) (by decide)
  have m40 := Ot.bq
  have k41 := Ot.parts
  have m42 := F37.bq
  have k43 := F37.parts
  have m44 := Xt.1
  refine Wo.pre 1 (by kernel_rfl) ?_
  refine Wo.nil ?_
  refine Wp.cond false (by kernel_rfl) ?_
  refine Wp.skip ?_
  refine Wp.seq ?_
  refine Wp.region ?_
  refine Wo.pre 2 (by kernel_rfl) ?_
  refine Wo.val (.int IntKind.i64 ((↑at_ : Int) + (↑k : Int))) Ht (by kernel_rfl) (iop_arith (op := .add) (a := ↑at_) (b := ↑k) (by kernel_rfl) (by kernel_rfl) (by simp) (bin_add IntKind.i64 (by simp only [min_i64]; omega) (by simp only [max_i64]; omega))) ?_
  refine Wo.pre 2 (by kernel_rfl) ?_
  refine Wo.val (.int IntKind.i64 ((↑at_ + ↑k : Int) + (4 : Int))) Ht (by kernel_rfl) (iop_arith (op := .add) (a := ↑at_ + ↑k) (b := 4) (by kernel_rfl) (by kernel_rfl) (by simp) (bin_add IntKind.i64 (by simp only [min_i64]; omega) (by simp only [max_i64]; omega))) ?_
  refine Wo.pre 1 (by kernel_rfl) ?_
  refine Wo.nil ?_
  refine Wp.seq ?_
  refine Wp.seq ?_
  refine Wp.region ?_
  refine Wo.pre 3 (by kernel_rfl) ?_
  refine Wo.val (.int IntKind.i64 ((↑l.length : Int) - (↑at_ + ↑k + 4 : Int))) Ht (by kernel_rfl) (iop_arith (op := .sub) (a := ↑l.length) (b := ↑at_ + ↑k + 4) (by kernel_rfl) (by kernel_rfl) (by simp) (bin_sub IntKind.i64 (by simp only [min_i64]; omega) (by simp only [max_i64]; omega))) ?_
  refine Wo.pre 1 (by kernel_rfl) ?_
  refine Wo.cmp (op := .lss) (x := IX.t 149) (y := IX.t 150) (k := IntKind.i64) (a := ↑l.length - (↑at_ + ↑k + 4)) (b := ↑n) ((↑l.length - (↑at_ + ↑k + 4) : Int) < (↑n : Int)) (by kernel_rfl) (by kernel_rfl) (by kernel_rfl) (by kernel_rfl) (by simp) (by kernel_rfl) (fun q45 => ?_) (fun q45 => ?_)
  rotate_left
  · (exfalso; omega)
  refine Wo.nil ?_
  refine Wp.cond true (by kernel_rfl) ?_
  refine Wp.seq ?_
  refine Wp.region ?_
  refine Wo.pre 1 (by kernel_rfl) ?_
  obtain ⟨r46, H47, c48, rfl, X50⟩ := more_run (Ht) (true)
  have m51 := X50.1
  refine Wo.call (by kernel_rfl) (by kernel_rfl) c48 ?_
  clear c48
  refine Wo.pre 3 (by kernel_rfl) ?_
  have F52 := (P2.fr (((((X14.transL X16).transR Xs).trans X29).transR Xt).transR X50.fr) (by (first | omega | (intro s hs; omega) | (dsimp only; omega) | (intro s hs; dsimp only at hs; omega) | (simp only [blk_nils, blk_sl]; omega) | (intro s hs; simp only [blk_nils, blk_sl] at hs ⊢; omega) | (simp; done))))
  obtain ⟨H53, e53, P53, X53, n53⟩ := F52.st 0 [AV.int IntKind.i64 0, AV.nils, AV.bool false] (by simp) (ones_cons rfl (ones_cons rfl (ones_cons rfl ones_nil)))
  refine Wo.val .undef H53 (by kernel_rfl) (iop_stP (a := { b := p2, g := 0, o := 0 }) (v := AV.agg [AV.int IntKind.i64 0, AV.nils, AV.bool false]) (vs := [AV.int IntKind.i64 0, AV.nils, AV.bool false]) (by kernel_rfl) (by kernel_rfl) rfl rfl e53) ?_
  have m54 := X53.1
  replace P53 : Pt H53 p2 (Blk.cells 0 24 [AV.int IntKind.i64 0, AV.nils, AV.bool false] 0 false) := P53
  refine Wo.pre 2 (by kernel_rfl) ?_
  refine Wo.nil ?_
  refine Wp.ret ?_
  refine ⟨.inr rfl, (.tup [AV.agg [AV.int IntKind.i64 0, AV.nils, AV.bool false], AV.int IntKind.i64 0, AV.int IntKind.i64 44]), (ret_many (res_cell (a := { b := p2, g := 0, o := 0 }) (by kernel_rfl) (P53.ld rfl (by kernel_rfl)) (res_tmp (by kernel_rfl) (res_tmp (by kernel_rfl) res_nil))) rfl), ?_⟩
  dsimp only
  exact ⟨((((((((hE.fr.trans0 X14).transL X16).transR Xs).trans X29).transR Xt).transR X50.fr).trans X53).ext (by intro s hs; first | omega | (dsimp only at hs; omega) | (simp only [blk_nils, blk_sl] at hs ⊢; omega))), rfl⟩

set_option maxHeartbeats 8000000 in
theorem tail_long_ok_f {h0 h : H} {a : AA} {q : Cp} {l : List UInt8} {at_ k st p2 : Nat} (hb : Bs h (.sl a l.length q) l) (cx : Cok (.sl a l.length q)) (hl : l.length ≤ 140737488351232) (hat : at_ + k ≤ l.length) (P2 : Pt h p2 (.cells 0 24 [.int .i64 0, .nils, .bool false] 0 false)) (hp2 : h0.n ≤ p2) (hE : Ext h0 h) {d : List UInt8} (hT : (l.take (at_ + k)).drop at_ = d) (hd : ∀ c ∈ d, Re.isDig c = true) (hd0 : d ≠ []) (hk : k ≤ 8) (hdl : d.length = k) {n : Nat} (hn : n = Re.val d) (hn9 : n ≤ 1048576) (hcan : Re.dec n = d) (hcf : List.isPrefixOf [13, 10, 67] (List.drop (at_ + k) l) = false) (hs : ¬ (List.drop (at_ + k) l).length < 4) (hen : List.isPrefixOf [13, 10, 13, 10] (List.drop (at_ + k) l) = true) (hge : at_ + k + 4 ≤ l.length) (hsh : ¬ l.length - (at_ + k + 4) < n) (hH : (Re.head st n false).length = at_ + k + 4)
    {ts : List AV} (t0 : ts.length = 169) (g0 : getL ts 0 = some (.sl a l.length q)) (g2 : getL ts 2 = some (.ptr ⟨p2, 0, 0⟩)) (g5 : getL ts 5 = some (.int .i64 st)) (g6 : getL ts 6 = some (.int .i64 at_)) (g8 : getL ts 8 = some (.fn (.func 18) [] [])) (g9 : getL ts 9 = some (.int .i64 k)) :
    Wp TF tail8 (ts, h) (After h0 l (.ok st n false)) := by
  have hA : Runs TF 19 [.str (List.drop at_ (List.take (at_ + k) l))] h (.tup [.int .i64 ((n : Nat) : Int), .nili]) h := by rw [hT, hn]; exact atoi_run h hd hd0 (by omega)
  have hne : ¬ List.drop at_ (List.take (at_ + k) l) = [] := by rw [hT]; exact hd0
  have hI : Runs TF 20 [.int .i64 ((n : Nat) : Int)] h (.str (List.drop at_ (List.take (at_ + k) l))) h := by rw [hT, ← hcan]; exact itoa_run h (by omega)
  have hnn := hE.1
  clear hT hcan hd hd0 hn
  rw [laid_eq t0 [(0, .sl a l.length q), (2, .ptr ⟨p2, 0, 0⟩), (5, .int .i64 st), (6, .int .i64 at_), (8, .fn (.func 18) [] []), (9, .int .i64 k)] (by simp [g0, g2, g5, g6, g8, g9])]
  have m1 := hb.bq
  have k2 := hb.parts
  have m3 := P2.1
  have m4 := hE.1
  refine Wp.seq ?_
  refine Wp.draw ?_
  refine Wd.pure (by kernel_rfl) (by kernel_rfl) ?_
  refine Wd.pure (by kernel_rfl) (by kernel_rfl) ?_
  refine Wd.pure (by kernel_rfl) (by kernel_rfl) ?_
  refine Wd.pure (by kernel_rfl) (by kernel_rfl) ?_
  refine Wd.make (.int IntKind.i64 ((↑at_ : Int) + (↑k : Int))) h (by kernel_rfl) (by kernel_rfl) (iop_arith (op := .add) (a := ↑at_) (b := ↑k) (by kernel_rfl) (by kernel_rfl) (by simp) (bin_add IntKind.i64 (by simp only [min_i64]; omega) (by simp only [max_i64]; omega))) ?_
  obtain ⟨z5, e5, b5, o5⟩ := hb.subN cx (ei := (↑at_ : Int)) (ej := (↑at_ + ↑k : Int)) (at_) ((at_) + (k)) rfl (by omega) (by first | omega | simp; omega) (by first | omega | simp; omega)
  refine Wd.make z5 h (by kernel_rfl) (by kernel_rfl) (e5 (by kernel_rfl) (by kernel_rfl) (by kernel_rfl)) ?_
  clear e5
  have m6 := b5.bq
  have k7 := b5.parts
  refine Wd.read (.str (List.drop at_ (List.take (at_ + k) l))) (.cvBS (.c (z5))) (by kernel_rfl) (by kernel_rfl) (iop_cvBS (v := z5) (by kernel_rfl) b5) ?_
  refine Wd.pure (by kernel_rfl) (by kernel_rfl) ?_
  refine Wd.pure (by kernel_rfl) (by kernel_rfl) ?_
  refine Wd.pure (by kernel_rfl) (by kernel_rfl) ?_
  refine Wd.make (.int IntKind.i64 ((↑at_ : Int) + (↑k : Int))) h (by kernel_rfl) (by kernel_rfl) (iop_arith (op := .add) (a := ↑at_) (b := ↑k) (by kernel_rfl) (by kernel_rfl) (by simp) (bin_add IntKind.i64 (by simp only [min_i64]; omega) (by simp only [max_i64]; omega))) ?_
  obtain ⟨z8, e8, b8, o8⟩ := hb.fromN cx (ei := (↑at_ + ↑k : Int)) ((at_) + (k)) (by omega) (by first | omega | simp; omega)
  refine Wd.make z8 h (by kernel_rfl) (by kernel_rfl) (e8 (by kernel_rfl) (by kernel_rfl)) ?_
  clear e8
  have m9 := b8.bq
  have k10 := b8.parts
  refine Wd.pure (by kernel_rfl) (by kernel_rfl) ?_
  refine Wd.pure (by kernel_rfl) (by kernel_rfl) ?_
  refine Wd.done (holds_of [(IOp.cvBS (IX.c z5), AV.str (List.drop at_ (List.take (at_ + k) l)), 6)] (by kernel_rfl) (holds_and (rd_cvBS b5) rfl)) ?_
  refine Wp.seq ?_
  refine Wp.region ?_
  refine Wo.pre 1 (by kernel_rfl) ?_
  refine Wo.call (by kernel_rfl) (by kernel_rfl) hA ?_
  clear hA
  refine Wo.pre 5 (by kernel_rfl) ?_
  refine Wo.nil ?_
  refine Wp.seq ?_
  refine Wp.block ?_
  refine Wp.seq ?_
  refine Wp.region ?_
  refine Wo.pre 1 (by kernel_rfl) ?_
  refine Wo.cmpS (x := IX.t 79) (y := IX.c (AV.str [])) (a := List.drop at_ (List.take (at_ + k) l)) (b := []) (by kernel_rfl) (by kernel_rfl) (by kernel_rfl) (by kernel_rfl) (fun q11 => ?_) (fun q11 => ?_)
  · exact absurd (by with_reducible assumption) hne
  refine Wo.pre 1 (by kernel_rfl) ?_
  refine Wo.nil ?_
  refine Wp.cond false (by kernel_rfl) ?_
  refine Wp.seq ?_
  refine Wp.region ?_
  refine Wo.pre 1 (by kernel_rfl) ?_
  refine Wo.pre 3 (by kernel_rfl) ?_
  refine Wo.call (by kernel_rfl) (by kernel_rfl) hI ?_
  clear hI
  refine Wo.pre 1 (by kernel_rfl) ?_
  refine Wo.cmpSN (x := IX.t 94) (y := IX.t 95) (a := List.drop at_ (List.take (at_ + k) l)) (b := List.drop at_ (List.take (at_ + k) l)) (by kernel_rfl) (by kernel_rfl) (by kernel_rfl) (by kernel_rfl) (fun q12 => ?_) (fun q12 => ?_)
  rotate_left
  · exact absurd rfl (by with_reducible assumption)
  refine Wo.pre 3 (by kernel_rfl) ?_
  refine Wo.cmp (op := .gtr) (x := IX.t 99) (y := IX.c (AV.int IntKind.i64 1048576)) (k := IntKind.i64) (a := ↑n) (b := 1048576) ((↑n : Int) > (1048576 : Int)) (by kernel_rfl) (by kernel_rfl) (by kernel_rfl) (by kernel_rfl) (by simp) (by kernel_rfl) (fun q13 => ?_) (fun q13 => ?_)
  · (exfalso; omega)
  refine Wo.pre 2 (by kernel_rfl) ?_
  refine Wo.nil ?_
  refine Wp.cond false (by kernel_rfl) ?_
  refine Wp.skip ?_
  refine Wp.seq ?_
  refine Wp.region ?_
  refine Wo.pre 2 (by kernel_rfl) ?_
  obtain ⟨H14, e14, P14, X14, n14⟩ := pt_new h 24 [AV.int IntKind.i64 0, AV.nils, AV.bool false] (ones_cons rfl (ones_cons rfl (ones_cons rfl ones_nil)))
  refine Wo.val (.ptr ⟨H.n h, 0, 0⟩) H14 (by kernel_rfl) (e14 (v := AV.agg [AV.int IntKind.i64 0, AV.nils, AV.bool false]) (by kernel_rfl) rfl) ?_
  clear e14
  have m15 := X14.1
  obtain ⟨H16, e16, P16, X16, n16⟩ := P14.st 0 [AV.int IntKind.i64 ↑st, AV.nils, AV.bool false] (by simp) (ones_cons rfl (ones_cons rfl (ones_cons rfl ones_nil)))
  refine Wo.val .undef H16 (by kernel_rfl) (iop_stP (a := { b := h.n, g := 0, o := 0 }) (v := AV.agg [AV.int IntKind.i64 ↑st, AV.nils, AV.bool false]) (vs := [AV.int IntKind.i64 ↑st, AV.nils, AV.bool false]) (by kernel_rfl) (by kernel_rfl) rfl rfl e16) ?_
  have m17 := X16.1
  replace P16 : Pt H16 h.n (Blk.cells 0 24 [AV.int IntKind.i64 ↑st, AV.nils, AV.bool false] 0 false) := P16
  refine Wo.nil ?_
  refine Wp.seq ?_
  refine Wp.region ?_
  refine Wo.pre 1 (by kernel_rfl) ?_
  refine Wo.nil ?_
  refine Wp.seq ?_
  refine Wp.seq ?_
  refine Wp.region ?_
  refine Wo.pre 2 (by kernel_rfl) ?_
  (refine Wo.cvSB [13, 10, 67] rfl (by kernel_rfl) (by kernel_rfl) (by decide) (fun Hs Xs Os => ?_); have ns := Xs.1; have qs := Os.bq; have ps := Os.parts)
  have F18 := (b8.fr ((X14.transL X16).transR Xs) (by (first | omega | (intro s hs; omega) | (dsimp only; omega) | (intro s hs; dsimp only at hs; omega) | (simp only [blk_nils, blk_sl]; omega) | (intro s hs; simp only [blk_nils, blk_sl] at hs ⊢; omega) | (simp; done))))
  have c19 := bpre_run F18 o8 Os.bs
  refine Wo.call (by kernel_rfl) (by kernel_rfl) c19 ?_
  clear c19
  refine Wo.boolS (fun q20 => ?_) (fun q20 => ?_)
  · exact absurd (hcf.symm.trans (by with_reducible assumption)) (by decide)
  have m21 := P14.1
  have m22 := P16.1
  have m23 := Os.bq
  have k24 := Os.parts
  have m25 := F18.bq
  have k26 := F18.parts
  have m27 := Xs.1
  refine Wo.pre 1 (by kernel_rfl) ?_
  have F28 := (P16.fr Xs id)
  obtain ⟨H29, e29, P29, X29, n29⟩ := F28.st 2 [AV.bool false] (by simp) (ones_cons rfl ones_nil)
  refine Wo.val .undef H29 (by kernel_rfl) (iop_stP (a := { b := h.n, g := 0, o := 2 }) (v := AV.bool false) (vs := [AV.bool false]) (by kernel_rfl) (by kernel_rfl) rfl rfl e29) ?_
  have m30 := X29.1
  replace P29 : Pt H29 h.n (Blk.cells 0 24 [AV.int IntKind.i64 ↑st, AV.nils, AV.bool false] 0 false) := P29
  refine Wo.nil ?_
  refine Wp.seq ?_
  refine Wp.region ?_
  refine Wo.pre 1 (by kernel_rfl) ?_
  refine Wo.val (AV.bool false) H29 (by kernel_rfl) (iop_ldP P29 (a := { b := h.n, g := 0, o := 2 }) (by kernel_rfl) rfl (by kernel_rfl)) ?_
  refine Wo.nil ?_
  refine Wp.cond false (by kernel_rfl) ?_
  refine Wp.skip ?_
  refine Wp.seq ?_
  refine Wp.seq ?_
  refine Wp.region ?_
  refine Wo.pre 1 (by kernel_rfl) ?_
  have F31 := (F18.fr X29 (by (first | omega | (intro s hs; omega) | (dsimp only; omega) | (intro s hs; dsimp only at hs; omega) | (simp only [blk_nils, blk_sl]; omega) | (intro s hs; simp only [blk_nils, blk_sl] at hs ⊢; omega) | (simp; done))))
  refine Wo.val (.int .i64 (List.length (List.drop (at_ + k) l) : Nat)) H29 (by kernel_rfl) (Bs.len F31 (by kernel_rfl)) ?_
  refine Wo.pre 2 (by kernel_rfl) ?_
  refine Wo.cmp (op := .lss) (x := IX.t 117) (y := IX.t 119) (k := IntKind.i64) (a := ↑(List.drop (at_ + k) l).length) (b := 4) ((↑(List.drop (at_ + k) l).length : Int) < (4 : Int)) (by kernel_rfl) (by kernel_rfl) (by kernel_rfl) (by kernel_rfl) (by simp) (by kernel_rfl) (fun q32 => ?_) (fun q32 => ?_)
  · (exfalso; omega)
  have m33 := F28.1
  have m34 := P29.1
  have m35 := F31.bq
  have k36 := F31.parts
  refine Wo.nil ?_
  refine Wp.cond false (by kernel_rfl) ?_
  refine Wp.skip ?_
  refine Wp.seq ?_
  refine Wp.seq ?_
  refine Wp.region ?_
  refine Wo.pre 2 (by kernel_rfl) ?_
  (refine Wo.cvSB [13, 10, 13, 10] rfl (by kernel_rfl) (by kernel_rfl) (by decide) (fun Ht Xt Ot => ?_); have nt := Xt.1; have qt := Ot.bq; have pt := Ot.parts)
  have F37 := (F31.fr Xt (.inr id))
  have c38 := bpre_run F37 o8 Ot.bs
  refine Wo.call (by kernel_rfl) (by kernel_rfl) c38 ?_
  clear c38
  refine Wo.boolS (fun q39 => ?_) (fun q39 => ?_)
  rotate_left
  · exact absurd (hen.symm.trans (by with_reducible assumption)) (by decide)
  have m40 := Ot.bq
  have k41 := Ot.parts
  have m42 := F37.bq
  have k43 := F37.parts
  have m44 := Xt.1
  refine Wo.pre 1 (by kernel_rfl) ?_
  refine Wo.nil ?_
  refine Wp.cond false (by kernel_rfl) ?_
  refine Wp.skip ?_
  refine Wp.seq ?_
  refine Wp.region ?_
  refine Wo.pre 2 (by kernel_rfl) ?_
  refine Wo.val (.int IntKind.i64 ((↑at_ : Int) + (↑k : Int))) Ht (by kernel_rfl) (iop_arith (op := .add) (a := ↑at_) (b := ↑k) (by kernel_rfl) (by kernel_rfl) (by simp) (bin_add IntKind.i64 (by simp only [min_i64]; omega) (by simp only [max_i64]; omega))) ?_
  refine Wo.pre 2 (by kernel_rfl) ?_
  refine Wo.val (.int IntKind.i64 ((↑at_ + ↑k : Int) + (4 : Int))) Ht (by kernel_rfl) (iop_arith (op := .add) (a := ↑at_ + ↑k) (b := 4) (by kernel_rfl) (by kernel_rfl) (by simp) (bin_add IntKind.i64 (by simp only [min_i64]; omega) (by simp only [max_i64]; omega))) ?_
  refine Wo.pre 1 (by kernel_rfl) ?_
  refine Wo.nil ?_
  refine Wp.seq ?_
  refine Wp.seq ?_
  refine Wp.region ?_
  refine Wo.pre 3 (by kernel_rfl) ?_
  refine Wo.val (.int IntKind.i64 ((↑l.length : Int) - (↑at_ + ↑k + 4 : Int))) Ht (by kernel_rfl) (iop_arith (op := .sub) (a := ↑l.length) (b := ↑at_ + ↑k + 4) (by kernel_rfl) (by kernel_rfl) (by simp) (bin_sub IntKind.i64 (by simp only [min_i64]; omega) (by simp only [max_i64]; omega))) ?_
  refine Wo.pre 1 (by kernel_rfl) ?_
  refine Wo.cmp (op := .lss) (x := IX.t 149) (y := IX.t 150) (k := IntKind.i64) (a := ↑l.length - (↑at_ + ↑k + 4)) (b := ↑n) ((↑l.length - (↑at_ + ↑k + 4) : Int) < (↑n : Int)) (by kernel_rfl) (by kernel_rfl) (by kernel_rfl) (by kernel_rfl) (by simp) (by kernel_rfl) (fun q45 => ?_) (fun q45 => ?_)
  · (exfalso; omega)
  refine Wo.nil ?_
  refine Wp.cond false (by kernel_rfl) ?_
  refine Wp.skip ?_
  refine Wp.seq ?_
  refine Wp.region ?_
  refine Wo.pre 4 (by kernel_rfl) ?_
  refine Wo.val (.int IntKind.i64 ((↑at_ + ↑k + 4 : Int) + (↑n : Int))) Ht (by kernel_rfl) (iop_arith (op := .add) (a := ↑at_ + ↑k + 4) (b := ↑n) (by kernel_rfl) (by kernel_rfl) (by simp) (bin_add IntKind.i64 (by simp only [min_i64]; omega) (by simp only [max_i64]; omega))) ?_
  have F46 := (hb.fr ((((X14.transL X16).transR Xs).trans X29).transR Xt) (by (first | omega | (intro s hs; omega) | (dsimp only; omega) | (intro s hs; dsimp only at hs; omega) | (simp only [blk_nils, blk_sl]; omega) | (intro s hs; simp only [blk_nils, blk_sl] at hs ⊢; omega) | (simp; done))))
  obtain ⟨z47, e47, b47, o47⟩ := F46.subN cx (ei := (↑at_ + ↑k + 4 : Int)) (ej := (↑at_ + ↑k + 4 + ↑n : Int)) (((at_) + (k)) + 4) ((((at_) + (k)) + 4) + (n)) (by omega) (by omega) (by first | omega | simp; omega) (by first | omega | simp; omega)
  refine Wo.val z47 Ht (by kernel_rfl) (e47 (by kernel_rfl) (by kernel_rfl) (by kernel_rfl)) ?_
  clear e47
  have m48 := b47.bq
  have k49 := b47.parts
  obtain ⟨r50, H51, c52, X53, q54⟩ := clone_run b47 (by first | omega | (simp; omega) | (simp; done) | assumption)
  have m55 := X53.1
  have m56 := q54.bq
  have k57 := q54.parts
  refine Wo.call (by kernel_rfl) (by kernel_rfl) c52 ?_
  clear c52
  refine Wo.pre 1 (by kernel_rfl) ?_
  have F58 := (P29.fr (Xt.trans0 X53.fr) id)
  obtain ⟨H59, e59, P59, X59, n59⟩ := F58.st 1 [r50] (by simp) (ones_cons k57.2.1 ones_nil)
  refine Wo.val .undef H59 (by kernel_rfl) (iop_stP (a := { b := h.n, g := 0, o := 1 }) (v := r50) (vs := [r50]) (by kernel_rfl) (by kernel_rfl) k57.1 rfl e59) ?_
  have m60 := X59.1
  replace P59 : Pt H59 h.n (Blk.cells 0 24 [AV.int IntKind.i64 ↑st, r50, AV.bool false] 0 false) := P59
  refine Wo.nil ?_
  refine Wp.seq ?_
  refine Wp.region ?_
  refine Wo.val (AV.agg [AV.int IntKind.i64 ↑st, r50, AV.bool false]) H59 (by kernel_rfl) (iop_ldP P59 (a := { b := h.n, g := 0, o := 0 }) (by kernel_rfl) rfl (by kernel_rfl)) ?_
  refine Wo.pre 2 (by kernel_rfl) ?_
  refine Wo.val (.int IntKind.i64 ((↑at_ + ↑k + 4 : Int) + (↑n : Int))) H59 (by kernel_rfl) (iop_arith (op := .add) (a := ↑at_ + ↑k + 4) (b := ↑n) (by kernel_rfl) (by kernel_rfl) (by simp) (bin_add IntKind.i64 (by simp only [min_i64]; omega) (by simp only [max_i64]; omega))) ?_
  have F61 := (P2.fr ((((((X14.transL X16).transR Xs).trans X29).transR Xt).transR X53.fr).trans X59) (by (first | omega | (intro s hs; omega) | (dsimp only; omega) | (intro s hs; dsimp only at hs; omega) | (simp only [blk_nils, blk_sl]; omega) | (intro s hs; simp only [blk_nils, blk_sl] at hs ⊢; omega) | (simp; done))))
  obtain ⟨H62, e62, P62, X62, n62⟩ := F61.st 0 [AV.int IntKind.i64 ↑st, r50, AV.bool false] (by simp) (ones_cons rfl (ones_cons k57.2.1 (ones_cons rfl ones_nil)))
  refine Wo.val .undef H62 (by kernel_rfl) (iop_stP (a := { b := p2, g := 0, o := 0 }) (v := AV.agg [AV.int IntKind.i64 ↑st, r50, AV.bool false]) (vs := [AV.int IntKind.i64 ↑st, r50, AV.bool false]) (by kernel_rfl) (by kernel_rfl) rfl rfl e62) ?_
  have m63 := X62.1
  replace P62 : Pt H62 p2 (Blk.cells 0 24 [AV.int IntKind.i64 ↑st, r50, AV.bool false] 0 false) := P62
  refine Wo.pre 2 (by kernel_rfl) ?_
  refine Wo.nil ?_
  refine Wp.ret ?_
  refine ⟨.inr rfl, (.tup [AV.agg [AV.int IntKind.i64 ↑st, r50, AV.bool false], AV.int IntKind.i64 (↑at_ + ↑k + 4 + ↑n), AV.int IntKind.i64 0]), (ret_many (res_cell (a := { b := p2, g := 0, o := 0 }) (by kernel_rfl) (P62.ld rfl (by kernel_rfl)) (res_tmp (by kernel_rfl) (res_tmp (by kernel_rfl) res_nil))) rfl), ?_⟩
  dsimp only
  exact ⟨(((((((((hE.fr.trans0 X14).transL X16).transR Xs).trans X29).transR Xt).transR X53.fr).trans X59).trans X62).ext (by intro s hs; first | omega | (dsimp only at hs; omega) | (simp only [blk_nils, blk_sl] at hs ⊢; omega))), _, _, _, rfl, (by rw [hH]; omega), ((q54.fr (X59.trans X62) (by have d0 := m56.1.e; (first | omega | (intro s hs; omega) | (dsimp only; omega) | (intro s hs; dsimp only at hs; omega) | (simp only [blk_nils, blk_sl]; omega) | (intro s hs; simp only [blk_nils, blk_sl] at hs ⊢; omega) | (simp; done)))).mono (by omega)), (by (rw [hH]; exact cut_eq (by omega)))⟩
end Go.Det
