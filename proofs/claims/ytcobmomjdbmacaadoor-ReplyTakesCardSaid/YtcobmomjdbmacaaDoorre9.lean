/- Reply: Take: the walks. -/
import Derived.Test.YtcobmomjdbmacaaDoorre8
set_option linter.unusedVariables false
set_option linter.unusedSimpArgs false
set_option linter.unusedSectionVars false
namespace Go.Det
open Go.Proofs
theorem rd_cvBS {h : H} {v : AV} {l : List UInt8} (hb : Bs h v l) : readsAs (.cvBS (.c v)) (.str l) h = true := reads_ok (h' := h) (iop_cvBS (v := v) (by kernel_rfl) hb)
attribute [local irreducible] Wp Wo Wd iop ev slots quiets wanted put

/-- What Take hands back. -/
def TakeIs (h h' : H) (l : List UInt8) (r : AV) : Re.Res → Prop
  | .more => r = .tup [.agg [.int .i64 0, .nils, .bool false], .int .i64 0, .int .i64 44]
  | .form => r = .tup [.agg [.int .i64 0, .nils, .bool false], .int .i64 0, .int .i64 5]
  | .ok st n c => ∃ v body N, r = .tup [.agg [.int .i64 ((st : Nat) : Int), v, .bool c], .int .i64 N, .int .i64 0] ∧ N = (((Re.head st n c).length + n : Nat) : Int) ∧ Ow h.n h' v body ∧ body = (l.drop (Re.head st n c).length).take n
def sndC : IC → IC
  | .seq _ b => b
  | c => c
/-- What stands behind the digits. -/
def tail8 : IC := sndC (sndC (sndC (sndC (sndC (sndC ir8.body)))))
abbrev After (h0 : H) (l : List UInt8) (R : Re.Res) (e : Ex) (s : St) : Prop := (e = .normal ∨ e = .ret) ∧ ∃ v, retV s.2 s.1 [(2, some (some 3)), (3, none), (4, none)] = some v ∧ (Ext h0 s.2 ∧ TakeIs h0 s.2 l v R)

set_option maxHeartbeats 8000000 in
/-- No digits. -/
theorem tail_none {h0 h : H} {a : AA} {q : Cp} {l : List UInt8} {at_ st p2 : Nat} (hb : Bs h (.sl a l.length q) l) (cx : Cok (.sl a l.length q)) (hl : l.length ≤ 140737488351232) (hat : at_ ≤ l.length) (P2 : Pt h p2 (.cells 0 24 [.int .i64 0, .nils, .bool false] 0 false)) (hp2 : h0.n ≤ p2) (hE : Ext h0 h)
    {ts : List AV} (t0 : ts.length = 169) (g0 : getL ts 0 = some (.sl a l.length q)) (g2 : getL ts 2 = some (.ptr ⟨p2, 0, 0⟩)) (g5 : getL ts 5 = some (.int .i64 st)) (g6 : getL ts 6 = some (.int .i64 at_)) (g8 : getL ts 8 = some (.fn (.func 18) [] [])) (g9 : getL ts 9 = some (.int .i64 0)) :
    Wp TF tail8 (ts, h) (After h0 l (if l.length = at_ then .more else .form)) := by
  have hT : (l.take (at_ + 0)).drop at_ = [] := by rw [List.drop_eq_nil_iff, List.length_take]; omega
  have hA : Runs TF 19 [.str (List.drop at_ (List.take (at_ + 0) l))] h (.tup [.int .i64 0, .any]) h := by rw [hT]; exact atoi_nil h
  have hlr : (List.drop (at_ + 0) l).length = l.length - at_ := by rw [List.length_drop]; rfl
  have hn := hE.1
  rw [laid_eq t0 [(0, .sl a l.length q), (2, .ptr ⟨p2, 0, 0⟩), (5, .int .i64 st), (6, .int .i64 at_), (8, .fn (.func 18) [] []), (9, .int .i64 0)] (by simp [g0, g2, g5, g6, g8, g9])]
  by_cases hr : l.length = at_
  · rw [if_pos hr]
    have m1 := hb.bq
    have k2 := hb.parts
    have m3 := P2.1
    have m4 := hE.1
    refine Wp.seq ?_
    refine Wp.draw ?_
    refine Wd.pure (by kernel_rfl) (by kernel_rfl) ?_
    refine Wd.pure (by kernel_rfl) (by kernel_rfl) ?_
    refine Wd.pure (by kernel_rfl) (by kernel_rfl) ?_
    refine Wd.pure (by kernel_rfl) (by kernel_rfl) ?_
    refine Wd.make (.int IntKind.i64 ((↑at_ : Int) + (0 : Int))) h (by kernel_rfl) (by kernel_rfl) (iop_arith (op := .add) (a := ↑at_) (b := 0) (by kernel_rfl) (by kernel_rfl) (by simp) (bin_add IntKind.i64 (by simp only [min_i64]; omega) (by simp only [max_i64]; omega))) ?_
    obtain ⟨z5, e5, b5, o5⟩ := hb.subN cx (ei := (↑at_ : Int)) (ej := (↑at_ + 0 : Int)) (at_) ((at_) + 0) rfl (by omega) (by first | omega | simp; omega) (by first | omega | simp; omega)
    refine Wd.make z5 h (by kernel_rfl) (by kernel_rfl) (e5 (by kernel_rfl) (by kernel_rfl) (by kernel_rfl)) ?_
    clear e5
    have m6 := b5.bq
    have k7 := b5.parts
    refine Wd.read (.str (List.drop at_ (List.take (at_ + 0) l))) (.cvBS (.c (z5))) (by kernel_rfl) (by kernel_rfl) (iop_cvBS (v := z5) (by kernel_rfl) b5) ?_
    refine Wd.pure (by kernel_rfl) (by kernel_rfl) ?_
    refine Wd.pure (by kernel_rfl) (by kernel_rfl) ?_
    refine Wd.pure (by kernel_rfl) (by kernel_rfl) ?_
    refine Wd.make (.int IntKind.i64 ((↑at_ : Int) + (0 : Int))) h (by kernel_rfl) (by kernel_rfl) (iop_arith (op := .add) (a := ↑at_) (b := 0) (by kernel_rfl) (by kernel_rfl) (by simp) (bin_add IntKind.i64 (by simp only [min_i64]; omega) (by simp only [max_i64]; omega))) ?_
    obtain ⟨z8, e8, b8, o8⟩ := hb.fromN cx (ei := (↑at_ + 0 : Int)) ((at_) + 0) (by omega) (by first | omega | simp; omega)
    refine Wd.make z8 h (by kernel_rfl) (by kernel_rfl) (e8 (by kernel_rfl) (by kernel_rfl)) ?_
    clear e8
    have m9 := b8.bq
    have k10 := b8.parts
    refine Wd.pure (by kernel_rfl) (by kernel_rfl) ?_
    refine Wd.pure (by kernel_rfl) (by kernel_rfl) ?_
    refine Wd.done (holds_of [(IOp.cvBS (IX.c z5), AV.str (List.drop at_ (List.take (at_ + 0) l)), 6)] (by kernel_rfl) (holds_and (rd_cvBS b5) rfl)) ?_
    refine Wp.seq ?_
    refine Wp.region ?_
    refine Wo.pre 1 (by kernel_rfl) ?_
    refine Wo.call (by kernel_rfl) (by kernel_rfl) hA ?_
    clear hA
    refine Wo.pre 5 (by kernel_rfl) ?_
    refine Wo.nil ?_
    refine Wp.seq ?_
    refine Wp.block ?_
    refine Wp.seq ?_
    refine Wp.region ?_
    refine Wo.pre 1 (by kernel_rfl) ?_
    refine Wo.cmpS (x := IX.t 79) (y := IX.c (AV.str [])) (a := List.drop at_ (List.take (at_ + 0) l)) (b := []) (by kernel_rfl) (by kernel_rfl) (by kernel_rfl) (by kernel_rfl) (fun q11 => ?_) (fun q11 => ?_)
    rotate_left
    · exact absurd hT (by with_reducible assumption)
    refine Wo.pre 1 (by kernel_rfl) ?_
    refine Wo.nil ?_
    refine Wp.cond true (by kernel_rfl) ?_
    refine Wp.seq ?_
    refine Wp.region ?_
    refine Wo.pre 2 (by kernel_rfl) ?_
    refine Wo.val (.int .i64 (List.length (List.drop (at_ + 0) l) : Nat)) h (by kernel_rfl) (Bs.len b8 (by kernel_rfl)) ?_
    refine Wo.cmp (op := .eql) (x := IX.t 83) (y := IX.c (AV.int IntKind.i64 0)) (k := IntKind.i64) (a := ↑(List.drop (at_ + 0) l).length) (b := 0) ((↑(List.drop (at_ + 0) l).length : Int) = (0 : Int)) (by kernel_rfl) (by kernel_rfl) (by kernel_rfl) (by kernel_rfl) (by simp) (by kernel_rfl) (fun q12 => ?_) (fun q12 => ?_)
    rotate_left
    · (exfalso; omega)
    obtain ⟨r13, H14, c15, rfl, X17⟩ := more_run (h) (true)
    have m18 := X17.1
    refine Wo.call (by kernel_rfl) (by kernel_rfl) c15 ?_
    clear c15
    refine Wo.pre 3 (by kernel_rfl) ?_
    have F19 := (P2.fr X17.fr id)
    obtain ⟨H20, e20, P20, X20, n20⟩ := F19.st 0 [AV.int IntKind.i64 0, AV.nils, AV.bool false] (by simp) (ones_cons rfl (ones_cons rfl (ones_cons rfl ones_nil)))
    refine Wo.val .undef H20 (by kernel_rfl) (iop_stP (a := { b := p2, g := 0, o := 0 }) (v := AV.agg [AV.int IntKind.i64 0, AV.nils, AV.bool false]) (vs := [AV.int IntKind.i64 0, AV.nils, AV.bool false]) (by kernel_rfl) (by kernel_rfl) rfl rfl e20) ?_
    have m21 := X20.1
    replace P20 : Pt H20 p2 (Blk.cells 0 24 [AV.int IntKind.i64 0, AV.nils, AV.bool false] 0 false) := P20
    refine Wo.pre 2 (by kernel_rfl) ?_
    refine Wo.nil ?_
    refine Wp.ret ?_
    refine ⟨.inr rfl, (.tup [AV.agg [AV.int IntKind.i64 0, AV.nils, AV.bool false], AV.int IntKind.i64 0, AV.int IntKind.i64 44]), (ret_many (res_cell (a := { b := p2, g := 0, o := 0 }) (by kernel_rfl) (P20.ld rfl (by kernel_rfl)) (res_tmp (by kernel_rfl) (res_tmp (by kernel_rfl) res_nil))) rfl), ?_⟩
    dsimp only
    exact ⟨(((hE.fr.trans0 X17.fr).transL X20).ext (by intro s hs; first | omega | (dsimp only at hs; omega) | (simp only [blk_nils, blk_sl] at hs ⊢; omega))), rfl⟩
  · rw [if_neg hr]
    have m1 := hb.bq
    have k2 := hb.parts
    have m3 := P2.1
    have m4 := hE.1
    refine Wp.seq ?_
    refine Wp.draw ?_
    refine Wd.pure (by kernel_rfl) (by kernel_rfl) ?_
    refine Wd.pure (by kernel_rfl) (by kernel_rfl) ?_
    refine Wd.pure (by kernel_rfl) (by kernel_rfl) ?_
    refine Wd.pure (by kernel_rfl) (by kernel_rfl) ?_
    refine Wd.make (.int IntKind.i64 ((↑at_ : Int) + (0 : Int))) h (by kernel_rfl) (by kernel_rfl) (iop_arith (op := .add) (a := ↑at_) (b := 0) (by kernel_rfl) (by kernel_rfl) (by simp) (bin_add IntKind.i64 (by simp only [min_i64]; omega) (by simp only [max_i64]; omega))) ?_
    obtain ⟨z5, e5, b5, o5⟩ := hb.subN cx (ei := (↑at_ : Int)) (ej := (↑at_ + 0 : Int)) (at_) ((at_) + 0) rfl (by omega) (by first | omega | simp; omega) (by first | omega | simp; omega)
    refine Wd.make z5 h (by kernel_rfl) (by kernel_rfl) (e5 (by kernel_rfl) (by kernel_rfl) (by kernel_rfl)) ?_
    clear e5
    have m6 := b5.bq
    have k7 := b5.parts
    refine Wd.read (.str (List.drop at_ (List.take (at_ + 0) l))) (.cvBS (.c (z5))) (by kernel_rfl) (by kernel_rfl) (iop_cvBS (v := z5) (by kernel_rfl) b5) ?_
    refine Wd.pure (by kernel_rfl) (by kernel_rfl) ?_
    refine Wd.pure (by kernel_rfl) (by kernel_rfl) ?_
    refine Wd.pure (by kernel_rfl) (by kernel_rfl) ?_
    refine Wd.make (.int IntKind.i64 ((↑at_ : Int) + (0 : Int))) h (by kernel_rfl) (by kernel_rfl) (iop_arith (op := .add) (a := ↑at_) (b := 0) (by kernel_rfl) (by kernel_rfl) (by simp) (bin_add IntKind.i64 (by simp only [min_i64]; omega) (by simp only [max_i64]; omega))) ?_
    obtain ⟨z8, e8, b8, o8⟩ := hb.fromN cx (ei := (↑at_ + 0 : Int)) ((at_) + 0) (by omega) (by first | omega | simp; omega)
    refine Wd.make z8 h (by kernel_rfl) (by kernel_rfl) (e8 (by kernel_rfl) (by kernel_rfl)) ?_
    clear e8
    have m9 := b8.bq
    have k10 := b8.parts
    refine Wd.pure (by kernel_rfl) (by kernel_rfl) ?_
    refine Wd.pure (by kernel_rfl) (by kernel_rfl) ?_
    refine Wd.done (holds_of [(IOp.cvBS (IX.c z5), AV.str (List.drop at_ (List.take (at_ + 0) l)), 6)] (by kernel_rfl) (holds_and (rd_cvBS b5) rfl)) ?_
    refine Wp.seq ?_
    refine Wp.region ?_
    refine Wo.pre 1 (by kernel_rfl) ?_
    refine Wo.call (by kernel_rfl) (by kernel_rfl) hA ?_
    clear hA
    refine Wo.pre 5 (by kernel_rfl) ?_
    refine Wo.nil ?_
    refine Wp.seq ?_
    refine Wp.block ?_
    refine Wp.seq ?_
    refine Wp.region ?_
    refine Wo.pre 1 (by kernel_rfl) ?_
    refine Wo.cmpS (x := IX.t 79) (y := IX.c (AV.str [])) (a := List.drop at_ (List.take (at_ + 0) l)) (b := []) (by kernel_rfl) (by kernel_rfl) (by kernel_rfl) (by kernel_rfl) (fun q11 => ?_) (fun q11 => ?_)
    rotate_left
    · exact absurd hT (by with_reducible assumption)
    refine Wo.pre 1 (by kernel_rfl) ?_
    refine Wo.nil ?_
    refine Wp.cond true (by kernel_rfl) ?_
    refine Wp.seq ?_
    refine Wp.region ?_
    refine Wo.pre 2 (by kernel_rfl) ?_
    refine Wo.val (.int .i64 (List.length (List.drop (at_ + 0) l) : Nat)) h (by kernel_rfl) (Bs.len b8 (by kernel_rfl)) ?_
    refine Wo.cmp (op := .eql) (x := IX.t 83) (y := IX.c (AV.int IntKind.i64 0)) (k := IntKind.i64) (a := ↑(List.drop (at_ + 0) l).length) (b := 0) ((↑(List.drop (at_ + 0) l).length : Int) = (0 : Int)) (by kernel_rfl) (by kernel_rfl) (by kernel_rfl) (by kernel_rfl) (by simp) (by kernel_rfl) (fun q12 => ?_) (fun q12 => ?_)
    · (exfalso; omega)
    obtain ⟨r13, H14, c15, rfl, X17⟩ := more_run (h) (false)
    have m18 := X17.1
    refine Wo.call (by kernel_rfl) (by kernel_rfl) c15 ?_
    clear c15
    refine Wo.pre 3 (by kernel_rfl) ?_
    have F19 := (P2.fr X17.fr id)
    obtain ⟨H20, e20, P20, X20, n20⟩ := F19.st 0 [AV.int IntKind.i64 0, AV.nils, AV.bool false] (by simp) (ones_cons rfl (ones_cons rfl (ones_cons rfl ones_nil)))
    refine Wo.val .undef H20 (by kernel_rfl) (iop_stP (a := { b := p2, g := 0, o := 0 }) (v := AV.agg [AV.int IntKind.i64 0, AV.nils, AV.bool false]) (vs := [AV.int IntKind.i64 0, AV.nils, AV.bool false]) (by kernel_rfl) (by kernel_rfl) rfl rfl e20) ?_
    have m21 := X20.1
    replace P20 : Pt H20 p2 (Blk.cells 0 24 [AV.int IntKind.i64 0, AV.nils, AV.bool false] 0 false) := P20
    refine Wo.pre 2 (by kernel_rfl) ?_
    refine Wo.nil ?_
    refine Wp.ret ?_
    refine ⟨.inr rfl, (.tup [AV.agg [AV.int IntKind.i64 0, AV.nils, AV.bool false], AV.int IntKind.i64 0, AV.int IntKind.i64 5]), (ret_many (res_cell (a := { b := p2, g := 0, o := 0 }) (by kernel_rfl) (P20.ld rfl (by kernel_rfl)) (res_tmp (by kernel_rfl) (res_tmp (by kernel_rfl) res_nil))) rfl), ?_⟩
    dsimp only
    exact ⟨(((hE.fr.trans0 X17.fr).transL X20).ext (by intro s hs; first | omega | (dsimp only at hs; omega) | (simp only [blk_nils, blk_sl] at hs ⊢; omega))), rfl⟩

set_option maxHeartbeats 8000000 in
/-- Digits that are no numeral, or too great a number. -/
theorem tail_bad {h0 h : H} {a : AA} {q : Cp} {l : List UInt8} {at_ k st p2 : Nat} (hb : Bs h (.sl a l.length q) l) (cx : Cok (.sl a l.length q)) (hl : l.length ≤ 140737488351232) (hat : at_ + k ≤ l.length) (P2 : Pt h p2 (.cells 0 24 [.int .i64 0, .nils, .bool false] 0 false)) (hp2 : h0.n ≤ p2) (hE : Ext h0 h) {d : List UInt8} (hT : (l.take (at_ + k)).drop at_ = d) (hd : ∀ c ∈ d, Re.isDig c = true) (hd0 : d ≠ []) (hk : k ≤ 8) (hdl : d.length = k) {n : Nat} (hn : n = Re.val d) (hn9 : n < 100000000) (hbad : Re.dec n ≠ d ∨ n > 1048576)
    {ts : List AV} (t0 : ts.length = 169) (g0 : getL ts 0 = some (.sl a l.length q)) (g2 : getL ts 2 = some (.ptr ⟨p2, 0, 0⟩)) (g5 : getL ts 5 = some (.int .i64 st)) (g6 : getL ts 6 = some (.int .i64 at_)) (g8 : getL ts 8 = some (.fn (.func 18) [] [])) (g9 : getL ts 9 = some (.int .i64 k)) :
    Wp TF tail8 (ts, h) (After h0 l .form) := by
  have hA : Runs TF 19 [.str (List.drop at_ (List.take (at_ + k) l))] h (.tup [.int .i64 ((n : Nat) : Int), .nili]) h := by rw [hT, hn]; exact atoi_run h hd hd0 (by omega)
  have hne : ¬ List.drop at_ (List.take (at_ + k) l) = [] := by rw [hT]; exact hd0
  have hI : Runs TF 20 [.int .i64 ((n : Nat) : Int)] h (.str (Re.dec n)) h := itoa_run h (by omega)
  have hnn := hE.1
  rw [laid_eq t0 [(0, .sl a l.length q), (2, .ptr ⟨p2, 0, 0⟩), (5, .int .i64 st), (6, .int .i64 at_), (8, .fn (.func 18) [] []), (9, .int .i64 k)] (by simp [g0, g2, g5, g6, g8, g9])]
  rcases Decidable.em (Re.dec n = List.drop at_ (List.take (at_ + k) l)) with hq | hq
  · have hbig : n > 1048576 := hbad.resolve_left (fun e => e (hq.trans hT))
    have m1 := hb.bq
    have k2 := hb.parts
    have m3 := P2.1
    have m4 := hE.1
    refine Wp.seq ?_
    refine Wp.draw ?_
    refine Wd.pure (by kernel_rfl) (by kernel_rfl) ?_
    refine Wd.pure (by kernel_rfl) (by kernel_rfl) ?_
    refine Wd.pure (by kernel_rfl) (by kernel_rfl) ?_
    refine Wd.pure (by kernel_rfl) (by kernel_rfl) ?_
    refine Wd.make (.int IntKind.i64 ((↑at_ : Int) + (↑k : Int))) h (by kernel_rfl) (by kernel_rfl) (iop_arith (op := .add) (a := ↑at_) (b := ↑k) (by kernel_rfl) (by kernel_rfl) (by simp) (bin_add IntKind.i64 (by simp only [min_i64]; omega) (by simp only [max_i64]; omega))) ?_
    obtain ⟨z5, e5, b5, o5⟩ := hb.subN cx (ei := (↑at_ : Int)) (ej := (↑at_ + ↑k : Int)) (at_) ((at_) + (k)) rfl (by omega) (by first | omega | simp; omega) (by first | omega | simp; omega)
    refine Wd.make z5 h (by kernel_rfl) (by kernel_rfl) (e5 (by kernel_rfl) (by kernel_rfl) (by kernel_rfl)) ?_
    clear e5
    have m6 := b5.bq
    have k7 := b5.parts
    refine Wd.read (.str (List.drop at_ (List.take (at_ + k) l))) (.cvBS (.c (z5))) (by kernel_rfl) (by kernel_rfl) (iop_cvBS (v := z5) (by kernel_rfl) b5) ?_
    refine Wd.pure (by kernel_rfl) (by kernel_rfl) ?_
    refine Wd.pure (by kernel_rfl) (by kernel_rfl) ?_
    refine Wd.pure (by kernel_rfl) (by kernel_rfl) ?_
    refine Wd.make (.int IntKind.i64 ((↑at_ : Int) + (↑k : Int))) h (by kernel_rfl) (by kernel_rfl) (iop_arith (op := .add) (a := ↑at_) (b := ↑k) (by kernel_rfl) (by kernel_rfl) (by simp) (bin_add IntKind.i64 (by simp only [min_i64]; omega) (by simp only [max_i64]; omega))) ?_
    obtain ⟨z8, e8, b8, o8⟩ := hb.fromN cx (ei := (↑at_ + ↑k : Int)) ((at_) + (k)) (by omega) (by first | omega | simp; omega)
    refine Wd.make z8 h (by kernel_rfl) (by kernel_rfl) (e8 (by kernel_rfl) (by kernel_rfl)) ?_
    clear e8
    have m9 := b8.bq
    have k10 := b8.parts
    refine Wd.pure (by kernel_rfl) (by kernel_rfl) ?_
    refine Wd.pure (by kernel_rfl) (by kernel_rfl) ?_
    refine Wd.done (holds_of [(IOp.cvBS (IX.c z5), AV.str (List.drop at_ (List.take (at_ + k) l)), 6)] (by kernel_rfl) (holds_and (rd_cvBS b5) rfl)) ?_
    refine Wp.seq ?_
    refine Wp.region ?_
    refine Wo.pre 1 (by kernel_rfl) ?_
    refine Wo.call (by kernel_rfl) (by kernel_rfl) hA ?_
    clear hA
    refine Wo.pre 5 (by kernel_rfl) ?_
    refine Wo.nil ?_
    refine Wp.seq ?_
    refine Wp.block ?_
    refine Wp.seq ?_
    refine Wp.region ?_
    refine Wo.pre 1 (by kernel_rfl) ?_
    refine Wo.cmpS (x := IX.t 79) (y := IX.c (AV.str [])) (a := List.drop at_ (List.take (at_ + k) l)) (b := []) (by kernel_rfl) (by kernel_rfl) (by kernel_rfl) (by kernel_rfl) (fun q11 => ?_) (fun q11 => ?_)
    · exact absurd (by with_reducible assumption) hne
    refine Wo.pre 1 (by kernel_rfl) ?_
    refine Wo.nil ?_
    refine Wp.cond false (by kernel_rfl) ?_
    refine Wp.seq ?_
    refine Wp.region ?_
    refine Wo.pre 1 (by kernel_rfl) ?_
    refine Wo.pre 3 (by kernel_rfl) ?_
    refine Wo.call (by kernel_rfl) (by kernel_rfl) hI ?_
    clear hI
    refine Wo.pre 1 (by kernel_rfl) ?_
    refine Wo.cmpSN (x := IX.t 94) (y := IX.t 95) (a := Re.dec n) (b := List.drop at_ (List.take (at_ + k) l)) (by kernel_rfl) (by kernel_rfl) (by kernel_rfl) (by kernel_rfl) (fun q12 => ?_) (fun q12 => ?_)
    rotate_left
    · exact absurd hq (by with_reducible assumption)
    refine Wo.pre 3 (by kernel_rfl) ?_
    refine Wo.cmp (op := .gtr) (x := IX.t 99) (y := IX.c (AV.int IntKind.i64 1048576)) (k := IntKind.i64) (a := ↑n) (b := 1048576) ((↑n : Int) > (1048576 : Int)) (by kernel_rfl) (by kernel_rfl) (by kernel_rfl) (by kernel_rfl) (by simp) (by kernel_rfl) (fun q13 => ?_) (fun q13 => ?_)
    rotate_left
    · (exfalso; omega)
    refine Wo.pre 2 (by kernel_rfl) ?_
    refine Wo.nil ?_
    refine Wp.cond true (by kernel_rfl) ?_
    refine Wp.seq ?_
    refine Wp.region ?_
    refine Wo.pre 1 (by kernel_rfl) ?_
    obtain ⟨r14, H15, c16, rfl, X18⟩ := more_run (h) (false)
    have m19 := X18.1
    refine Wo.call (by kernel_rfl) (by kernel_rfl) c16 ?_
    clear c16
    refine Wo.pre 3 (by kernel_rfl) ?_
    have F20 := (P2.fr X18.fr id)
    obtain ⟨H21, e21, P21, X21, n21⟩ := F20.st 0 [AV.int IntKind.i64 0, AV.nils, AV.bool false] (by simp) (ones_cons rfl (ones_cons rfl (ones_cons rfl ones_nil)))
    refine Wo.val .undef H21 (by kernel_rfl) (iop_stP (a := { b := p2, g := 0, o := 0 }) (v := AV.agg [AV.int IntKind.i64 0, AV.nils, AV.bool false]) (vs := [AV.int IntKind.i64 0, AV.nils, AV.bool false]) (by kernel_rfl) (by kernel_rfl) rfl rfl e21) ?_
    have m22 := X21.1
    replace P21 : Pt H21 p2 (Blk.cells 0 24 [AV.int IntKind.i64 0, AV.nils, AV.bool false] 0 false) := P21
    refine Wo.pre 2 (by kernel_rfl) ?_
    refine Wo.nil ?_
    refine Wp.ret ?_
    refine ⟨.inr rfl, (.tup [AV.agg [AV.int IntKind.i64 0, AV.nils, AV.bool false], AV.int IntKind.i64 0, AV.int IntKind.i64 5]), (ret_many (res_cell (a := { b := p2, g := 0, o := 0 }) (by kernel_rfl) (P21.ld rfl (by kernel_rfl)) (res_tmp (by kernel_rfl) (res_tmp (by kernel_rfl) res_nil))) rfl), ?_⟩
    dsimp only
    exact ⟨(((hE.fr.trans0 X18.fr).transL X21).ext (by intro s hs; first | omega | (dsimp only at hs; omega) | (simp only [blk_nils, blk_sl] at hs ⊢; omega))), rfl⟩
  · have m1 := hb.bq
    have k2 := hb.parts
    have m3 := P2.1
    have m4 := hE.1
    refine Wp.seq ?_
    refine Wp.draw ?_
    refine Wd.pure (by kernel_rfl) (by kernel_rfl) ?_
    refine Wd.pure (by kernel_rfl) (by kernel_rfl) ?_
    refine Wd.pure (by kernel_rfl) (by kernel_rfl) ?_
    refine Wd.pure (by kernel_rfl) (by kernel_rfl) ?_
    refine Wd.make (.int IntKind.i64 ((↑at_ : Int) + (↑k : Int))) h (by kernel_rfl) (by kernel_rfl) (iop_arith (op := .add) (a := ↑at_) (b := ↑k) (by kernel_rfl) (by kernel_rfl) (by simp) (bin_add IntKind.i64 (by simp only [min_i64]; omega) (by simp only [max_i64]; omega))) ?_
    obtain ⟨z5, e5, b5, o5⟩ := hb.subN cx (ei := (↑at_ : Int)) (ej := (↑at_ + ↑k : Int)) (at_) ((at_) + (k)) rfl (by omega) (by first | omega | simp; omega) (by first | omega | simp; omega)
    refine Wd.make z5 h (by kernel_rfl) (by kernel_rfl) (e5 (by kernel_rfl) (by kernel_rfl) (by kernel_rfl)) ?_
    clear e5
    have m6 := b5.bq
    have k7 := b5.parts
    refine Wd.read (.str (List.drop at_ (List.take (at_ + k) l))) (.cvBS (.c (z5))) (by kernel_rfl) (by kernel_rfl) (iop_cvBS (v := z5) (by kernel_rfl) b5) ?_
    refine Wd.pure (by kernel_rfl) (by kernel_rfl) ?_
    refine Wd.pure (by kernel_rfl) (by kernel_rfl) ?_
    refine Wd.pure (by kernel_rfl) (by kernel_rfl) ?_
    refine Wd.make (.int IntKind.i64 ((↑at_ : Int) + (↑k : Int))) h (by kernel_rfl) (by kernel_rfl) (iop_arith (op := .add) (a := ↑at_) (b := ↑k) (by kernel_rfl) (by kernel_rfl) (by simp) (bin_add IntKind.i64 (by simp only [min_i64]; omega) (by simp only [max_i64]; omega))) ?_
    obtain ⟨z8, e8, b8, o8⟩ := hb.fromN cx (ei := (↑at_ + ↑k : Int)) ((at_) + (k)) (by omega) (by first | omega | simp; omega)
    refine Wd.make z8 h (by kernel_rfl) (by kernel_rfl) (e8 (by kernel_rfl) (by kernel_rfl)) ?_
    clear e8
    have m9 := b8.bq
    have k10 := b8.parts
    refine Wd.pure (by kernel_rfl) (by kernel_rfl) ?_
    refine Wd.pure (by kernel_rfl) (by kernel_rfl) ?_
    refine Wd.done (holds_of [(IOp.cvBS (IX.c z5), AV.str (List.drop at_ (List.take (at_ + k) l)), 6)] (by kernel_rfl) (holds_and (rd_cvBS b5) rfl)) ?_
    refine Wp.seq ?_
    refine Wp.region ?_
    refine Wo.pre 1 (by kernel_rfl) ?_
    refine Wo.call (by kernel_rfl) (by kernel_rfl) hA ?_
    clear hA
    refine Wo.pre 5 (by kernel_rfl) ?_
    refine Wo.nil ?_
    refine Wp.seq ?_
    refine Wp.block ?_
    refine Wp.seq ?_
    refine Wp.region ?_
    refine Wo.pre 1 (by kernel_rfl) ?_
    refine Wo.cmpS (x := IX.t 79) (y := IX.c (AV.str [])) (a := List.drop at_ (List.take (at_ + k) l)) (b := []) (by kernel_rfl) (by kernel_rfl) (by kernel_rfl) (by kernel_rfl) (fun q11 => ?_) (fun q11 => ?_)
    · exact absurd (by with_reducible assumption) hne
    refine Wo.pre 1 (by kernel_rfl) ?_
    refine Wo.nil ?_
    refine Wp.cond false (by kernel_rfl) ?_
    refine Wp.seq ?_
    refine Wp.region ?_
    refine Wo.pre 1 (by kernel_rfl) ?_
    refine Wo.pre 3 (by kernel_rfl) ?_
    refine Wo.call (by kernel_rfl) (by kernel_rfl) hI ?_
    clear hI
    refine Wo.pre 1 (by kernel_rfl) ?_
    refine Wo.cmpSN (x := IX.t 94) (y := IX.t 95) (a := Re.dec n) (b := List.drop at_ (List.take (at_ + k) l)) (by kernel_rfl) (by kernel_rfl) (by kernel_rfl) (by kernel_rfl) (fun q12 => ?_) (fun q12 => ?_)
    · exact absurd (by with_reducible assumption) hq
    refine Wo.pre 3 (by kernel_rfl) ?_
    refine Wo.pre 1 (by kernel_rfl) ?_
    refine Wo.pre 2 (by kernel_rfl) ?_
    refine Wo.nil ?_
    refine Wp.cond true (by kernel_rfl) ?_
    refine Wp.seq ?_
    refine Wp.region ?_
    refine Wo.pre 1 (by kernel_rfl) ?_
    obtain ⟨r13, H14, c15, rfl, X17⟩ := more_run (h) (false)
    have m18 := X17.1
    refine Wo.call (by kernel_rfl) (by kernel_rfl) c15 ?_
    clear c15
    refine Wo.pre 3 (by kernel_rfl) ?_
    have F19 := (P2.fr X17.fr id)
    obtain ⟨H20, e20, P20, X20, n20⟩ := F19.st 0 [AV.int IntKind.i64 0, AV.nils, AV.bool false] (by simp) (ones_cons rfl (ones_cons rfl (ones_cons rfl ones_nil)))
    refine Wo.val .undef H20 (by kernel_rfl) (iop_stP (a := { b := p2, g := 0, o := 0 }) (v := AV.agg [AV.int IntKind.i64 0, AV.nils, AV.bool false]) (vs := [AV.int IntKind.i64 0, AV.nils, AV.bool false]) (by kernel_rfl) (by kernel_rfl) rfl rfl e20) ?_
    have m21 := X20.1
    replace P20 : Pt H20 p2 (Blk.cells 0 24 [AV.int IntKind.i64 0, AV.nils, AV.bool false] 0 false) := P20
    refine Wo.pre 2 (by kernel_rfl) ?_
    refine Wo.nil ?_
    refine Wp.ret ?_
    refine ⟨.inr rfl, (.tup [AV.agg [AV.int IntKind.i64 0, AV.nils, AV.bool false], AV.int IntKind.i64 0, AV.int IntKind.i64 5]), (ret_many (res_cell (a := { b := p2, g := 0, o := 0 }) (by kernel_rfl) (P20.ld rfl (by kernel_rfl)) (res_tmp (by kernel_rfl) (res_tmp (by kernel_rfl) res_nil))) rfl), ?_⟩
    dsimp only
    exact ⟨(((hE.fr.trans0 X17.fr).transL X20).ext (by intro s hs; first | omega | (dsimp only at hs; omega) | (simp only [blk_nils, blk_sl] at hs ⊢; omega))), rfl⟩
end Go.Det
