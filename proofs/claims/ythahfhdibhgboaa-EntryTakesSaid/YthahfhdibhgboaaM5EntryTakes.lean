/- Texts of the proof, one behind the other (TakeItem, SpoilI, ChOf, TakesR). -/
import Derived.Test.YthahfhdibhgboaaM4EntryTakes
/- Items read: the walks. -/
set_option linter.unusedVariables false
set_option linter.unusedSimpArgs false
set_option linter.unusedSectionVars false
namespace Go.Det
open Go.Proofs
attribute [local irreducible] Wp Wo Wd iop ev slots quiets wanted put

set_option maxHeartbeats 4000000 in
theorem keep_run {h : H} {fb : Nat} {f : Int} (p : Pt h fb (.cells 0 26 [.int .i64 f] 0 false)) (e : Int) : ∃ r h', Runs TF 85 [.int .i64 e, .ptr ⟨fb, 0, 0⟩] h r h' ∧ r = .tup [] ∧ Pt h' fb (.cells 0 26 [.int .i64 (orI f e)] 0 false) ∧ Fr (fun s => s = fb + 1) h h' := by
  refine Runs.ofP f85 rfl ?_
  have m0 := p.1
  have m1 := p.1
  refine Wp.seq ?_
  refine Wp.region ?_
  refine Wo.val (AV.int IntKind.i64 f) h (by kernel_rfl) (iop_ldP p (a := { b := fb, g := 0, o := 0 }) (by kernel_rfl) rfl (by kernel_rfl)) ?_
  refine Wo.cmp (op := .eql) (x := IX.t 3) (y := IX.c (AV.int IntKind.i64 0)) (k := IntKind.i64) (a := f) (b := 0) ((f : Int) = (0 : Int)) (by kernel_rfl) (by kernel_rfl) (by kernel_rfl) (by kernel_rfl) (by simp) (by kernel_rfl) (fun q2 => ?_) (fun q2 => ?_)
  · skip
    refine Wo.nil ?_
    refine Wp.cond true (by kernel_rfl) ?_
    refine Wp.region ?_
    refine Wo.pre 1 (by kernel_rfl) ?_
    obtain ⟨H3, e3, P3, X3, n3⟩ := p.st 0 [AV.int IntKind.i64 e] (by simp) (ones_cons rfl ones_nil)
    refine Wo.val .undef H3 (by kernel_rfl) (iop_stP (a := { b := fb, g := 0, o := 0 }) (v := AV.int IntKind.i64 e) (vs := [AV.int IntKind.i64 e]) (by kernel_rfl) (by kernel_rfl) rfl rfl e3) ?_
    have m4 := X3.1
    replace P3 : Pt H3 fb (Blk.cells 0 26 [AV.int IntKind.i64 e] 0 false) := P3
    refine Wo.nil ?_
    refine ⟨.inl rfl, (.tup []), rfl, ?_⟩
    dsimp only
    exact ⟨rfl, (by rw [orI_fst (by assumption)]; exact P3), X3⟩
  · skip
    refine Wo.nil ?_
    refine Wp.cond false (by kernel_rfl) ?_
    refine Wp.skip ?_
    refine ⟨.inl rfl, (.tup []), rfl, ?_⟩
    dsimp only
    exact ⟨rfl, (by rw [orI_snd (by assumption)]; exact p), ((Fr.refl _).mono (by simp))⟩

set_option maxHeartbeats 16000000 in
theorem takeitem_run {h : H} {y x : AV} {lf ex : List UInt8} (hy : Bs h y lf) (hx : Bs h x ex) (hl : lf.length ≤ maxRow) (hl2 : ex.length ≤ maxRow) : ∃ r h', Runs TF 56 [itemV y x] h r h' ∧ ∃ t z ps E, r = .tup [entV t z, .int .i64 E] ∧ Ext h h' ∧ OwnK h.n h' z ps ∧ itemOf lf ex = (t, says ps, E) := by
  refine Runs.ofP f56 rfl ?_
  have hmx : 200000000000000 = maxRow := rfl
  have r1 := rdL_len lf 2
  have r2 := rdL_len (rdL lf 2) 8
  have r3 := rdL_len (rdL (rdL lf 2) 8) 2
  have r4 := vX_len (rdL (rdL (rdL lf 2) 8) 2) 3
  have rv := rdV8_lt (rdL lf 2)
  have m1 := hy.bd
  have k2 := hy.parts
  have m3 := hx.bd
  have k4 := hx.parts
  refine Wp.seq ?_
  refine Wp.region ?_
  obtain ⟨H5, e5, P5, X5, n5⟩ := pt_new h 78 [y, x] (ones_cons k2.2.1 (ones_cons k4.2.1 ones_nil))
  refine Wo.val (.ptr ⟨H.n h, 0, 0⟩) H5 (by kernel_rfl) (e5 (v := AV.agg [y, x]) (by kernel_rfl) rfl) ?_
  have m6 := X5.1
  obtain ⟨H7, e7, P7, X7, n7⟩ := pt_new H5 70 [AV.int IntKind.u64 0, AV.nils] (ones_cons rfl (ones_cons rfl ones_nil))
  refine Wo.val (.ptr ⟨H.n H5, 0, 0⟩) H7 (by kernel_rfl) (e7 (v := AV.agg [AV.int IntKind.u64 0, AV.nils]) (by kernel_rfl) rfl) ?_
  have m8 := X7.1
  refine Wo.pre 1 (by kernel_rfl) ?_
  refine Wo.nil ?_
  refine Wp.seq ?_
  refine Wp.region ?_
  obtain ⟨H9, e9, P9, X9, n9⟩ := pt_new H7 26 [AV.int IntKind.i64 0] (ones_cons rfl ones_nil)
  refine Wo.val (.ptr ⟨H.n H7, 0, 0⟩) H9 (by kernel_rfl) (e9 (v := AV.int IntKind.i64 0) (by kernel_rfl) rfl) ?_
  have m10 := X9.1
  refine Wo.nil ?_
  refine Wp.seq ?_
  refine Wp.draw ?_
  refine Wd.pure (by kernel_rfl) (by kernel_rfl) ?_
  have F11 := (P5.fr (X7.trans0 X9) id)
  refine Wd.read (y) (.ld none (.c (.ptr { b := h.n, g := 0, o := 0 }))) (by kernel_rfl) (by kernel_rfl) (iop_ldP F11 (a := { b := h.n, g := 0, o := 0 }) (by kernel_rfl) rfl (by kernel_rfl)) ?_
  refine Wd.pure (by kernel_rfl) (by kernel_rfl) ?_
  refine Wd.read (x) (.ld none (.c (.ptr { b := h.n, g := 0, o := 1 }))) (by kernel_rfl) (by kernel_rfl) (iop_ldP F11 (a := { b := h.n, g := 0, o := 1 }) (by kernel_rfl) rfl (by kernel_rfl)) ?_
  have F12 := (hy.fr ((X5.trans0 X7).trans0 X9) (.inr id))
  obtain ⟨p13, H14, c15, b16, u17, rfl, q19, q20, X21, q22, q23⟩ := new_run F12 hl
  have m24 := q20.bd
  have m25 := X21.1
  have m26 := q22.bd
  have k27 := q22.parts
  refine Wd.call (by kernel_rfl) (by kernel_rfl) c15 (holds_of [(IOp.ld none (IX.c (AV.ptr { b := h.n, g := 0, o := 1 })), x, 4), (IOp.ld none (IX.c (AV.ptr { b := h.n, g := 0, o := 0 })), y, 1)] (by kernel_rfl) (holds_and (rd_ldP F11 rfl (by kernel_rfl)) (holds_and (rd_ldP F11 rfl (by kernel_rfl)) rfl))) ?_
  have F28 := (F11.fr X21.fr id)
  have F29 := (hx.fr (((X5.trans0 X7).trans0 X9).trans0 X21.fr) (.inr id))
  obtain ⟨p30, H31, c32, b33, u34, rfl, q36, q37, X38, q39, q40⟩ := new_run F29 hl2
  have m41 := q37.bd
  have m42 := X38.1
  have m43 := q39.bd
  have k44 := q39.parts
  refine Wd.call (by kernel_rfl) (by kernel_rfl) c32 (holds_of [(IOp.ld none (IX.c (AV.ptr { b := h.n, g := 0, o := 1 })), x, 4)] (by kernel_rfl) (holds_and (rd_ldP F28 rfl (by kernel_rfl)) rfl)) ?_
  refine Wd.pure (by kernel_rfl) (by kernel_rfl) ?_
  refine Wd.pure (by kernel_rfl) (by kernel_rfl) ?_
  refine Wd.done (holds_of [] (by kernel_rfl) rfl) ?_
  refine Wp.seq ?_
  refine Wp.region ?_
  refine Wo.pre 2 (by kernel_rfl) ?_
  refine Wo.nil ?_
  refine Wp.seq ?_
  refine Wp.region ?_
  refine Wo.pre 1 (by kernel_rfl) ?_
  have F45 := (q20.fr X38.fr (fun _ e => e.elim))
  obtain ⟨H46, v47, c48, q49, X50, q51⟩ := rdnum_any F45 (2) hl
  have m52 := q49.bd
  have m53 := X50.1
  have m54 := q51.blk
  refine Wo.call (by kernel_rfl) (by kernel_rfl) c48 ?_
  refine Wo.pre 5 (by kernel_rfl) ?_
  refine Wo.nil ?_
  refine Wp.seq ?_
  refine Wp.region ?_
  refine Wo.pre 2 (by kernel_rfl) ?_
  have F55 := (P9.fr ((X21.fr.trans0 X38.fr).transL X50.fr) (by (first | omega | (intro s hs; omega) | (dsimp only; omega) | (intro s hs; dsimp only at hs; omega) | (simp; done))))
  obtain ⟨r56, H57, c58, rfl, q60, X61⟩ := keep_run F55 (rdE lf 2)
  have m62 := q60.1
  have m63 := X61.1
  refine Wo.call (by kernel_rfl) (by kernel_rfl) c58 ?_
  refine Wo.nil ?_
  refine Wp.seq ?_
  refine Wp.region ?_
  refine Wo.pre 1 (by kernel_rfl) ?_
  have F64 := (q49.fr X61 (by (first | omega | (intro s hs; omega) | (dsimp only; omega) | (intro s hs; dsimp only at hs; omega) | (simp; done))))
  obtain ⟨H65, v66, c67, q68, X69, q70⟩ := rdnum_any F64 (8) (by first | omega | (simp; omega) | (simp; done) | assumption | (have h := certP_few ‹certP _ = some _›; rw [says_len] at h; first | exact h | (simp only [List.length_cons]; omega)))
  have m71 := q68.bd
  have m72 := X69.1
  have m73 := q70.blk
  refine Wo.call (by kernel_rfl) (by kernel_rfl) c67 ?_
  refine Wo.pre 5 (by kernel_rfl) ?_
  refine Wo.nil ?_
  refine Wp.seq ?_
  refine Wp.region ?_
  refine Wo.pre 2 (by kernel_rfl) ?_
  have F74 := (q60.fr X69.fr (by (first | omega | (intro s hs; omega) | (dsimp only; omega) | (intro s hs; dsimp only at hs; omega) | (simp; done))))
  obtain ⟨r75, H76, c77, rfl, q79, X80⟩ := keep_run F74 (rdE (rdL lf 2) 8)
  have m81 := q79.1
  have m82 := X80.1
  refine Wo.call (by kernel_rfl) (by kernel_rfl) c77 ?_
  refine Wo.nil ?_
  refine Wp.seq ?_
  refine Wp.region ?_
  refine Wo.pre 1 (by kernel_rfl) ?_
  have F83 := (q68.fr X80 (by (first | omega | (intro s hs; omega) | (dsimp only; omega) | (intro s hs; dsimp only at hs; omega) | (simp; done))))
  obtain ⟨H84, v85, c86, q87, X88, q89⟩ := rdnum_any F83 (2) (by first | omega | (simp; omega) | (simp; done) | assumption | (have h := certP_few ‹certP _ = some _›; rw [says_len] at h; first | exact h | (simp only [List.length_cons]; omega)))
  have m90 := q87.bd
  have m91 := X88.1
  have m92 := q89.blk
  refine Wo.call (by kernel_rfl) (by kernel_rfl) c86 ?_
  refine Wo.pre 4 (by kernel_rfl) ?_
  refine Wo.nil ?_
  refine Wp.seq ?_
  refine Wp.region ?_
  refine Wo.pre 2 (by kernel_rfl) ?_
  have F93 := (q79.fr X88.fr (by (first | omega | (intro s hs; omega) | (dsimp only; omega) | (intro s hs; dsimp only at hs; omega) | (simp; done))))
  obtain ⟨r94, H95, c96, rfl, q98, X99⟩ := keep_run F93 (rdE (rdL (rdL lf 2) 8) 2)
  have m100 := q98.1
  have m101 := X99.1
  refine Wo.call (by kernel_rfl) (by kernel_rfl) c96 ?_
  refine Wo.nil ?_
  refine Wp.seq ?_
  refine Wp.region ?_
  refine Wo.pre 1 (by kernel_rfl) ?_
  have F102 := (q87.fr X99 (by (first | omega | (intro s hs; omega) | (dsimp only; omega) | (intro s hs; dsimp only at hs; omega) | (simp; done))))
  obtain ⟨H103, x104, v105, c106, q107, q108, X109, q110⟩ := vec_any F102 (3) (by first | omega | (simp; omega) | (simp; done) | assumption | (have h := certP_few ‹certP _ = some _›; rw [says_len] at h; first | exact h | (simp only [List.length_cons]; omega)))
  have m111 := q107.bd
  have m112 := q108.bd
  have k113 := q108.parts
  have m114 := X109.1
  have m115 := q110.blk
  refine Wo.call (by kernel_rfl) (by kernel_rfl) c106 ?_
  refine Wo.pre 5 (by kernel_rfl) ?_
  refine Wo.nil ?_
  refine Wp.seq ?_
  refine Wp.region ?_
  refine Wo.pre 2 (by kernel_rfl) ?_
  have F116 := (q98.fr X109.fr (by (first | omega | (intro s hs; omega) | (dsimp only; omega) | (intro s hs; dsimp only at hs; omega) | (simp; done))))
  obtain ⟨r117, H118, c119, rfl, q121, X122⟩ := keep_run F116 (vE (rdL (rdL (rdL lf 2) 8) 2) 3)
  have m123 := q121.1
  have m124 := X122.1
  refine Wo.call (by kernel_rfl) (by kernel_rfl) c119 ?_
  refine Wo.nil ?_
  refine Wp.seq ?_
  refine Wp.region ?_
  refine Wo.pre 1 (by kernel_rfl) ?_
  have F125 := (q37.fr (((((((X50.fr.trans X61).trans X69.fr).trans X80).trans X88.fr).trans X99).trans X109.fr).trans X122) (by (first | omega | (intro s hs; omega) | (dsimp only; omega) | (intro s hs; dsimp only at hs; omega) | (simp; done))))
  rcases certs_run F125 hl2 with ⟨r126, H127, c128, z129, E130, v131, rfl, q133, X134, q135, (⟨q137, rfl, rfl⟩ | ⟨ps140, q141, rfl, q143⟩)⟩
  · skip
    have m144 := P5.1
    have m145 := P7.1
    have m146 := P9.1
    have m147 := F11.1
    have m148 := F12.bd
    have k149 := F12.parts
    have m150 := F28.1
    have m151 := F29.bd
    have k152 := F29.parts
    have m153 := F45.bd
    have m154 := F55.1
    have m155 := F64.bd
    have m156 := F74.1
    have m157 := F83.bd
    have m158 := F93.1
    have m159 := F102.bd
    have m160 := F116.1
    have m161 := F125.bd
    have m162 := q133.bd
    have m163 := X134.1
    have m164 := q135.blk
    refine Wo.call (by kernel_rfl) (by kernel_rfl) c128 ?_
    refine Wo.pre 5 (by kernel_rfl) ?_
    refine Wo.nil ?_
    refine Wp.seq ?_
    refine Wp.region ?_
    refine Wo.pre 2 (by kernel_rfl) ?_
    have F165 := (q121.fr X134.fr (by (first | omega | (intro s hs; omega) | (dsimp only; omega) | (intro s hs; dsimp only at hs; omega) | (simp; done))))
    obtain ⟨r166, H167, c168, rfl, q170, X171⟩ := keep_run F165 (4)
    have m172 := q170.1
    have m173 := X171.1
    refine Wo.call (by kernel_rfl) (by kernel_rfl) c168 ?_
    refine Wo.nil ?_
    refine Wp.seq ?_
    refine Wp.region ?_
    refine Wo.pre 2 (by kernel_rfl) ?_
    obtain ⟨H174, e174, P174, X174, n174⟩ := bsl_new H167 22 [x104] (ones_cons k113.2.1 ones_nil)
    refine Wo.val (.sl ⟨H.n H167, 0, 0⟩ 1 (.ex 1)) H174 (by kernel_rfl) (e174 (fill_cons (v := x104) (vs := [x104]) (by kernel_rfl) k113.1 (by kernel_rfl) rfl)) ?_
    have m175 := X174.1
    refine Wo.pre 1 (by kernel_rfl) ?_
    have F176 := (q108.fr (((X122.trans X134.fr).trans X171).transR X174) (by (first | omega | (intro s hs; omega) | (dsimp only; omega) | (intro s hs; dsimp only at hs; omega) | (simp; done))))
    obtain ⟨v177, H178, a179, q180, X181⟩ := app22_lit P174 F176 (OwnCh.none (lo := H174.n)) (by first | omega | (simp; omega) | (simp; done) | assumption | (have h := certP_few ‹certP _ = some _›; rw [says_len] at h; first | exact h | (simp only [List.length_cons]; omega)))
    refine Wo.val _ _ (by kernel_rfl) (iop_appG (v := AV.sl { b := H167.n, g := 0, o := 0 } 1 (Cp.ex 1)) (w := AV.nils) (by kernel_rfl) (by kernel_rfl) rfl a179) ?_
    have m182 := q180.bd
    have k183 := q180.parts
    have m184 := X181.1
    refine Wo.val (.agg [AV.int IntKind.u64 ↑(rdV (rdL lf 2) 8), v177]) H178 (by kernel_rfl) (iop_buildP (fill_cons (v := AV.int IntKind.u64 ↑(rdV (rdL lf 2) 8)) (vs := [AV.int IntKind.u64 ↑(rdV (rdL lf 2) 8)]) (by kernel_rfl) rfl (by kernel_rfl) (fill_cons (v := v177) (vs := [v177]) (by kernel_rfl) k183.1 (by kernel_rfl) rfl))) ?_
    obtain ⟨H185, e185, P185, X185, n185⟩ := pt_new H178 70 [AV.int IntKind.u64 0, AV.nils] (ones_cons rfl (ones_cons rfl ones_nil))
    refine Wo.val (.ptr ⟨H.n H178, 0, 0⟩) H185 (by kernel_rfl) (e185 (v := AV.agg [AV.int IntKind.u64 0, AV.nils]) (by kernel_rfl) rfl) ?_
    have m186 := X185.1
    obtain ⟨H187, e187, P187, X187, n187⟩ := P185.st 0 [AV.int IntKind.u64 ↑(rdV (rdL lf 2) 8), v177] (by simp) (ones_cons rfl (ones_cons k183.2.1 ones_nil))
    refine Wo.val .undef H187 (by kernel_rfl) (iop_stP (a := { b := H178.n, g := 0, o := 0 }) (v := AV.agg [AV.int IntKind.u64 ↑(rdV (rdL lf 2) 8), v177]) (vs := [AV.int IntKind.u64 ↑(rdV (rdL lf 2) 8), v177]) (by kernel_rfl) (by kernel_rfl) rfl rfl e187) ?_
    have m188 := X187.1
    replace P187 : Pt H187 H178.n (Blk.cells 0 70 [AV.int IntKind.u64 ↑(rdV (rdL lf 2) 8), v177] 0 false) := P187
    refine Wo.nil ?_
    refine Wp.seq ?_
    refine Wp.seq ?_
    refine Wp.region ?_
    have F189 := (q170.fr (((X174.trans0 X181.fr).trans0 X185).transL X187) (by (first | omega | (intro s hs; omega) | (dsimp only; omega) | (intro s hs; dsimp only at hs; omega) | (simp; done))))
    refine Wo.val (AV.int IntKind.i64 (orI (orI (orI (orI (orI 0 (rdE lf 2)) (rdE (rdL lf 2) 8)) (rdE (rdL (rdL lf 2) 8) 2)) (vE (rdL (rdL (rdL lf 2) 8) 2) 3)) 4)) H187 (by kernel_rfl) (iop_ldP F189 (a := { b := H7.n, g := 0, o := 0 }) (by kernel_rfl) rfl (by kernel_rfl)) ?_
    refine Wo.cmpN (op := .neq) (x := IX.t 68) (y := IX.c (AV.int IntKind.i64 0)) (k := IntKind.i64) (a := orI (orI (orI (orI (orI 0 (rdE lf 2)) (rdE (rdL lf 2) 8)) (rdE (rdL (rdL lf 2) 8) 2)) (vE (rdL (rdL (rdL lf 2) 8) 2) 3)) 4) (b := 0) ((orI (orI (orI (orI (orI 0 (rdE lf 2)) (rdE (rdL lf 2) 8)) (rdE (rdL (rdL lf 2) 8) 2)) (vE (rdL (rdL (rdL lf 2) 8) 2) 3)) 4 : Int) = (0 : Int)) (by kernel_rfl) (by kernel_rfl) (by kernel_rfl) (by kernel_rfl) (by simp) (by kernel_rfl) (fun q190 => ?_) (fun q190 => ?_)
    · skip
      exact absurd ‹orI _ 4 = 0› (by simp [orI_zero])
    · skip
      have m191 := F165.1
      have m192 := P174.1
      have m193 := F176.bd
      have k194 := F176.parts
      have m195 := P185.1
      have m196 := P187.1
      have m197 := F189.1
      refine Wo.pre 1 (by kernel_rfl) ?_
      refine Wo.pre 1 (by kernel_rfl) ?_
      refine Wo.pre 1 (by kernel_rfl) ?_
      refine Wo.pre 1 (by kernel_rfl) ?_
      refine Wo.pre 1 (by kernel_rfl) ?_
      refine Wo.nil ?_
      refine Wp.cond true (by kernel_rfl) ?_
      refine Wp.seq ?_
      refine Wp.region ?_
      refine Wo.val (.agg [AV.int IntKind.u64 0, AV.nils]) H187 (by kernel_rfl) (iop_buildP rfl) ?_
      have F198 := (P7.fr ((((((((((((((((X9.trans0 X21.fr).trans0 X38.fr).transL X50.fr).trans X61).trans X69.fr).trans X80).trans X88.fr).trans X99).trans X109.fr).trans X122).trans X134.fr).trans X171).transR X174).transR X181.fr).transR X185).trans X187) (by (first | omega | (intro s hs; omega) | (dsimp only; omega) | (intro s hs; dsimp only at hs; omega) | (simp; done))))
      obtain ⟨H199, e199, P199, X199, n199⟩ := F198.st 0 [AV.int IntKind.u64 0, AV.nils] (by simp) (ones_cons rfl (ones_cons rfl ones_nil))
      refine Wo.val .undef H199 (by kernel_rfl) (iop_stP (a := { b := H5.n, g := 0, o := 0 }) (v := AV.agg [AV.int IntKind.u64 0, AV.nils]) (vs := [AV.int IntKind.u64 0, AV.nils]) (by kernel_rfl) (by kernel_rfl) rfl rfl e199) ?_
      have m200 := X199.1
      replace P199 : Pt H199 H5.n (Blk.cells 0 70 [AV.int IntKind.u64 0, AV.nils] 0 false) := P199
      refine Wo.pre 1 (by kernel_rfl) ?_
      refine Wo.nil ?_
      refine Wp.ret ?_
      refine ⟨.inr rfl, (.tup [AV.agg [AV.int IntKind.u64 0, AV.nils], AV.int IntKind.i64 5]), (ret_many (res_cell (a := { b := H5.n, g := 0, o := 0 }) (by kernel_rfl) (P199.ld rfl (by kernel_rfl)) (res_tmp (by kernel_rfl) res_nil)) rfl), ?_⟩
      dsimp only
      exact ⟨0, .nils, [], 5, rfl, ((((((((((((((((((((X5.trans0 X7).trans0 X9).trans0 X21.fr).trans0 X38.fr).transL X50.fr).trans X61).trans X69.fr).trans X80).trans X88.fr).trans X99).trans X109.fr).trans X122).trans X134.fr).trans X171).transR X174).transR X181.fr).transR X185).trans X187).trans X199).ext (by intro s hs; first | omega | (dsimp only at hs; omega))), OwnK.none, (by (exact prog_bad (fun e => by rw [pE, ‹certP _ = none›] at e; simp at e)))⟩
  · skip
    have m201 := P5.1
    have m202 := P7.1
    have m203 := P9.1
    have m204 := F11.1
    have m205 := F12.bd
    have k206 := F12.parts
    have m207 := F28.1
    have m208 := F29.bd
    have k209 := F29.parts
    have m210 := F45.bd
    have m211 := F55.1
    have m212 := F64.bd
    have m213 := F74.1
    have m214 := F83.bd
    have m215 := F93.1
    have m216 := F102.bd
    have m217 := F116.1
    have m218 := F125.bd
    have m219 := q133.bd
    have m220 := q143.bd
    have k221 := q143.parts
    have m222 := X134.1
    have m223 := q135.blk
    refine Wo.call (by kernel_rfl) (by kernel_rfl) c128 ?_
    refine Wo.pre 5 (by kernel_rfl) ?_
    refine Wo.nil ?_
    refine Wp.seq ?_
    refine Wp.region ?_
    refine Wo.pre 2 (by kernel_rfl) ?_
    have F224 := (q121.fr X134.fr (by (first | omega | (intro s hs; omega) | (dsimp only; omega) | (intro s hs; dsimp only at hs; omega) | (simp; done))))
    obtain ⟨r225, H226, c227, rfl, q229, X230⟩ := keep_run F224 (0)
    have m231 := q229.1
    have m232 := X230.1
    refine Wo.call (by kernel_rfl) (by kernel_rfl) c227 ?_
    refine Wo.nil ?_
    refine Wp.seq ?_
    refine Wp.region ?_
    refine Wo.pre 2 (by kernel_rfl) ?_
    obtain ⟨H233, e233, P233, X233, n233⟩ := bsl_new H226 22 [x104] (ones_cons k113.2.1 ones_nil)
    refine Wo.val (.sl ⟨H.n H226, 0, 0⟩ 1 (.ex 1)) H233 (by kernel_rfl) (e233 (fill_cons (v := x104) (vs := [x104]) (by kernel_rfl) k113.1 (by kernel_rfl) rfl)) ?_
    have m234 := X233.1
    refine Wo.pre 1 (by kernel_rfl) ?_
    have F235 := (q108.fr (((X122.trans X134.fr).trans X230).transR X233) (by (first | omega | (intro s hs; omega) | (dsimp only; omega) | (intro s hs; dsimp only at hs; omega) | (simp; done))))
    have F236 := (q143.fr (X230.transR X233) (by (first | omega | (intro s hs; omega) | (dsimp only; omega) | (intro s hs; dsimp only at hs; omega) | (simp; done))))
    obtain ⟨v237, H238, a239, q240, X241⟩ := app22_lit P233 F235 F236 (by first | omega | (simp; omega) | (simp; done) | assumption | (have h := certP_few ‹certP _ = some _›; rw [says_len] at h; first | exact h | (simp only [List.length_cons]; omega)))
    refine Wo.val _ _ (by kernel_rfl) (iop_appG (v := AV.sl { b := H226.n, g := 0, o := 0 } 1 (Cp.ex 1)) (w := z129) (by kernel_rfl) (by kernel_rfl) k221.2.2 a239) ?_
    have m242 := q240.bd
    have k243 := q240.parts
    have m244 := X241.1
    refine Wo.val (.agg [AV.int IntKind.u64 ↑(rdV (rdL lf 2) 8), v237]) H238 (by kernel_rfl) (iop_buildP (fill_cons (v := AV.int IntKind.u64 ↑(rdV (rdL lf 2) 8)) (vs := [AV.int IntKind.u64 ↑(rdV (rdL lf 2) 8)]) (by kernel_rfl) rfl (by kernel_rfl) (fill_cons (v := v237) (vs := [v237]) (by kernel_rfl) k243.1 (by kernel_rfl) rfl))) ?_
    obtain ⟨H245, e245, P245, X245, n245⟩ := pt_new H238 70 [AV.int IntKind.u64 0, AV.nils] (ones_cons rfl (ones_cons rfl ones_nil))
    refine Wo.val (.ptr ⟨H.n H238, 0, 0⟩) H245 (by kernel_rfl) (e245 (v := AV.agg [AV.int IntKind.u64 0, AV.nils]) (by kernel_rfl) rfl) ?_
    have m246 := X245.1
    obtain ⟨H247, e247, P247, X247, n247⟩ := P245.st 0 [AV.int IntKind.u64 ↑(rdV (rdL lf 2) 8), v237] (by simp) (ones_cons rfl (ones_cons k243.2.1 ones_nil))
    refine Wo.val .undef H247 (by kernel_rfl) (iop_stP (a := { b := H238.n, g := 0, o := 0 }) (v := AV.agg [AV.int IntKind.u64 ↑(rdV (rdL lf 2) 8), v237]) (vs := [AV.int IntKind.u64 ↑(rdV (rdL lf 2) 8), v237]) (by kernel_rfl) (by kernel_rfl) rfl rfl e247) ?_
    have m248 := X247.1
    replace P247 : Pt H247 H238.n (Blk.cells 0 70 [AV.int IntKind.u64 ↑(rdV (rdL lf 2) 8), v237] 0 false) := P247
    refine Wo.nil ?_
    refine Wp.seq ?_
    refine Wp.seq ?_
    refine Wp.region ?_
    have F249 := (q229.fr (((X233.trans0 X241.fr).trans0 X245).transL X247) (by (first | omega | (intro s hs; omega) | (dsimp only; omega) | (intro s hs; dsimp only at hs; omega) | (simp; done))))
    refine Wo.val (AV.int IntKind.i64 (orI (orI (orI (orI (orI 0 (rdE lf 2)) (rdE (rdL lf 2) 8)) (rdE (rdL (rdL lf 2) 8) 2)) (vE (rdL (rdL (rdL lf 2) 8) 2) 3)) 0)) H247 (by kernel_rfl) (iop_ldP F249 (a := { b := H7.n, g := 0, o := 0 }) (by kernel_rfl) rfl (by kernel_rfl)) ?_
    refine Wo.cmpN (op := .neq) (x := IX.t 68) (y := IX.c (AV.int IntKind.i64 0)) (k := IntKind.i64) (a := orI (orI (orI (orI (orI 0 (rdE lf 2)) (rdE (rdL lf 2) 8)) (rdE (rdL (rdL lf 2) 8) 2)) (vE (rdL (rdL (rdL lf 2) 8) 2) 3)) 0) (b := 0) ((orI (orI (orI (orI (orI 0 (rdE lf 2)) (rdE (rdL lf 2) 8)) (rdE (rdL (rdL lf 2) 8) 2)) (vE (rdL (rdL (rdL lf 2) 8) 2) 3)) 0 : Int) = (0 : Int)) (by kernel_rfl) (by kernel_rfl) (by kernel_rfl) (by kernel_rfl) (by simp) (by kernel_rfl) (fun q250 => ?_) (fun q250 => ?_)
    · skip
      have m251 := F224.1
      have m252 := P233.1
      have m253 := F235.bd
      have k254 := F235.parts
      have m255 := F236.bd
      have k256 := F236.parts
      have m257 := P245.1
      have m258 := P247.1
      have m259 := F249.1
      refine Wo.pre 1 (by kernel_rfl) ?_
      refine Wo.val (AV.agg [AV.int IntKind.u64 ↑(rdV (rdL lf 2) 8), v237]) H247 (by kernel_rfl) (iop_ldP P247 (a := { b := H238.n, g := 0, o := 0 }) (by kernel_rfl) rfl (by kernel_rfl)) ?_
      have F260 := (q240.fr (X245.transL X247) (by (first | omega | (intro s hs; omega) | (dsimp only; omega) | (intro s hs; dsimp only at hs; omega) | (simp; done))))
      obtain ⟨r261, H262, c263, rfl, X265⟩ := may_run F260.ch (by first | omega | (simp; omega) | (simp; done) | assumption | (have h := certP_few ‹certP _ = some _›; rw [says_len] at h; first | exact h | (simp only [List.length_cons]; omega))) (rdV (rdL lf 2) 8)
      have m266 := X265.1
      refine Wo.call (by kernel_rfl) (by kernel_rfl) c263 ?_
      refine Wo.boolS (fun q267 => ?_) (fun q267 => ?_)
      · skip
        have m268 := F260.bd
        have k269 := F260.parts
        refine Wo.pre 2 (by kernel_rfl) ?_
        refine Wo.nil ?_
        refine Wp.cond false (by kernel_rfl) ?_
        refine Wp.skip ?_
        refine Wp.seq ?_
        refine Wp.region ?_
        have F270 := (P247.fr X265.fr id)
        refine Wo.val (AV.agg [AV.int IntKind.u64 ↑(rdV (rdL lf 2) 8), v237]) H262 (by kernel_rfl) (iop_ldP F270 (a := { b := H238.n, g := 0, o := 0 }) (by kernel_rfl) rfl (by kernel_rfl)) ?_
        have F271 := (F260.fr X265.fr (fun _ e => e.elim))
        obtain ⟨r272, H273, c274, z275, w276, rfl, X278, q279, q280, q281⟩ := item_run F271.ch (by first | omega | (simp; omega) | (simp; done) | assumption | (have h := certP_few ‹certP _ = some _›; rw [says_len] at h; first | exact h | (simp only [List.length_cons]; omega))) rv
        have m282 := X278.1
        have m283 := q279.bd
        have k284 := q279.parts
        have m285 := q280.bd
        have k286 := q280.parts
        refine Wo.call (by kernel_rfl) (by kernel_rfl) c274 ?_
        refine Wo.pre 3 (by kernel_rfl) ?_
        obtain ⟨H287, e287, P287, X287, n287⟩ := pt_new H273 78 [AV.nils, AV.nils] (ones_cons rfl (ones_cons rfl ones_nil))
        refine Wo.val (.ptr ⟨H.n H273, 0, 0⟩) H287 (by kernel_rfl) (e287 (v := AV.agg [AV.nils, AV.nils]) (by kernel_rfl) rfl) ?_
        have m288 := X287.1
        obtain ⟨H289, e289, P289, X289, n289⟩ := P287.st 0 [z275, w276] (by simp) (ones_cons k284.2.1 (ones_cons k286.2.1 ones_nil))
        refine Wo.val .undef H289 (by kernel_rfl) (iop_stP (a := { b := H273.n, g := 0, o := 0 }) (v := AV.agg [z275, w276]) (vs := [z275, w276]) (by kernel_rfl) (by kernel_rfl) rfl rfl e289) ?_
        have m290 := X289.1
        replace P289 : Pt H289 H273.n (Blk.cells 0 78 [z275, w276] 0 false) := P289
        refine Wo.pre 1 (by kernel_rfl) ?_
        refine Wo.nil ?_
        refine Wp.seq ?_
        refine Wp.seq ?_
        refine Wp.region ?_
        refine Wo.pre 1 (by kernel_rfl) ?_
        refine Wo.cmpN (op := .neq) (x := IX.t 81) (y := IX.c (AV.int IntKind.i64 0)) (k := IntKind.i64) (a := leafE ((x104, vX (rdL (rdL (rdL lf 2) 8) 2) 3) :: ps140)) (b := 0) ((leafE ((x104, vX (rdL (rdL (rdL lf 2) 8) 2) 3) :: ps140) : Int) = (0 : Int)) (by kernel_rfl) (by kernel_rfl) (by kernel_rfl) (by kernel_rfl) (by simp) (by kernel_rfl) (fun q291 => ?_) (fun q291 => ?_)
        · skip
          have m292 := F270.1
          have m293 := F271.bd
          have k294 := F271.parts
          have m295 := P287.1
          have m296 := P289.1
          refine Wo.pre 2 (by kernel_rfl) ?_
          refine Wo.val (z275) H289 (by kernel_rfl) (iop_ldP P289 (a := { b := H273.n, g := 0, o := 0 }) (by kernel_rfl) rfl (by kernel_rfl)) ?_
          refine Wo.pre 1 (by kernel_rfl) ?_
          have F297 := (F28.fr ((((((((((((((((((X38.fr.transL X50.fr).trans X61).trans X69.fr).trans X80).trans X88.fr).trans X99).trans X109.fr).trans X122).trans X134.fr).trans X230).transR X233).transR X241.fr).transR X245).trans X247).transR X265.fr).transR X278.fr).transR X287).trans X289) (by (first | omega | (intro s hs; omega) | (dsimp only; omega) | (intro s hs; dsimp only at hs; omega) | (simp; done))))
          refine Wo.val (y) H289 (by kernel_rfl) (iop_ldP F297 (a := { b := h.n, g := 0, o := 0 }) (by kernel_rfl) rfl (by kernel_rfl)) ?_
          have F298 := (q279.fr (X287.transL X289) (by (first | omega | (intro s hs; omega) | (dsimp only; omega) | (intro s hs; dsimp only at hs; omega) | (simp; done))))
          have F299 := (F12.fr (((((((((((((((((((X21.fr.trans0 X38.fr).transL X50.fr).trans X61).trans X69.fr).trans X80).trans X88.fr).trans X99).trans X109.fr).trans X122).trans X134.fr).trans X230).transR X233).transR X241.fr).transR X245).trans X247).transR X265.fr).transR X278.fr).transR X287).trans X289) (by (first | omega | (intro s hs; omega) | (dsimp only; omega) | (intro s hs; dsimp only at hs; omega) | (simp; done))))
          have c300 := equal_run F298.bs F299
          refine Wo.call (by kernel_rfl) (by kernel_rfl) c300 ?_
          refine Wo.boolS (fun q301 => ?_) (fun q301 => ?_)
          · skip
            have m302 := F297.1
            have m303 := F298.bd
            have k304 := F298.parts
            have m305 := F299.bd
            have k306 := F299.parts
            refine Wo.pre 4 (by kernel_rfl) ?_
            refine Wo.val (w276) H289 (by kernel_rfl) (iop_ldP P289 (a := { b := H273.n, g := 0, o := 1 }) (by kernel_rfl) rfl (by kernel_rfl)) ?_
            refine Wo.pre 1 (by kernel_rfl) ?_
            refine Wo.val (x) H289 (by kernel_rfl) (iop_ldP F297 (a := { b := h.n, g := 0, o := 1 }) (by kernel_rfl) rfl (by kernel_rfl)) ?_
            have F307 := (q280.fr (X287.transL X289) (by (first | omega | (intro s hs; omega) | (dsimp only; omega) | (intro s hs; dsimp only at hs; omega) | (simp; done))))
            have F308 := (F29.fr ((((((((((((((((((X38.fr.transL X50.fr).trans X61).trans X69.fr).trans X80).trans X88.fr).trans X99).trans X109.fr).trans X122).trans X134.fr).trans X230).transR X233).transR X241.fr).transR X245).trans X247).transR X265.fr).transR X278.fr).transR X287).trans X289) (by (first | omega | (intro s hs; omega) | (dsimp only; omega) | (intro s hs; dsimp only at hs; omega) | (simp; done))))
            have c309 := equal_run F307.bs F308
            refine Wo.call (by kernel_rfl) (by kernel_rfl) c309 ?_
            refine Wo.boolS (fun q310 => ?_) (fun q310 => ?_)
            · skip
              have m311 := F307.bd
              have k312 := F307.parts
              have m313 := F308.bd
              have k314 := F308.parts
              refine Wo.pre 2 (by kernel_rfl) ?_
              refine Wo.nil ?_
              refine Wp.cond false (by kernel_rfl) ?_
              refine Wp.skip ?_
              refine Wp.seq ?_
              refine Wp.region ?_
              have F315 := (F270.fr ((X278.fr.trans0 X287).transL X289) (by (first | omega | (intro s hs; omega) | (dsimp only; omega) | (intro s hs; dsimp only at hs; omega) | (simp; done))))
              refine Wo.val (AV.agg [AV.int IntKind.u64 ↑(rdV (rdL lf 2) 8), v237]) H289 (by kernel_rfl) (iop_ldP F315 (a := { b := H238.n, g := 0, o := 0 }) (by kernel_rfl) rfl (by kernel_rfl)) ?_
              have F316 := (P7.fr ((((((((((((((((((((X9.trans0 X21.fr).trans0 X38.fr).transL X50.fr).trans X61).trans X69.fr).trans X80).trans X88.fr).trans X99).trans X109.fr).trans X122).trans X134.fr).trans X230).transR X233).transR X241.fr).transR X245).trans X247).transR X265.fr).transR X278.fr).transR X287).trans X289) (by (first | omega | (intro s hs; omega) | (dsimp only; omega) | (intro s hs; dsimp only at hs; omega) | (simp; done))))
              obtain ⟨H317, e317, P317, X317, n317⟩ := F316.st 0 [AV.int IntKind.u64 ↑(rdV (rdL lf 2) 8), v237] (by simp) (ones_cons rfl (ones_cons k294.2.1 ones_nil))
              refine Wo.val .undef H317 (by kernel_rfl) (iop_stP (a := { b := H5.n, g := 0, o := 0 }) (v := AV.agg [AV.int IntKind.u64 ↑(rdV (rdL lf 2) 8), v237]) (vs := [AV.int IntKind.u64 ↑(rdV (rdL lf 2) 8), v237]) (by kernel_rfl) (by kernel_rfl) rfl rfl e317) ?_
              have m318 := X317.1
              replace P317 : Pt H317 H5.n (Blk.cells 0 70 [AV.int IntKind.u64 ↑(rdV (rdL lf 2) 8), v237] 0 false) := P317
              refine Wo.pre 1 (by kernel_rfl) ?_
              refine Wo.nil ?_
              refine Wp.ret ?_
              refine ⟨.inr rfl, (.tup [AV.agg [AV.int IntKind.u64 ↑(rdV (rdL lf 2) 8), v237], AV.int IntKind.i64 0]), (ret_many (res_cell (a := { b := H5.n, g := 0, o := 0 }) (by kernel_rfl) (P317.ld rfl (by kernel_rfl)) (res_tmp (by kernel_rfl) res_nil)) rfl), ?_⟩
              dsimp only
              exact ⟨_, _, _, 0, rfl, ((((((((((((((((((((((((X5.trans0 X7).trans0 X9).trans0 X21.fr).trans0 X38.fr).transL X50.fr).trans X61).trans X69.fr).trans X80).trans X88.fr).trans X99).trans X109.fr).trans X122).trans X134.fr).trans X230).transR X233).transR X241.fr).transR X245).trans X247).transR X265.fr).transR X278.fr).transR X287).trans X289).trans X317).ext (by intro s hs; first | omega | (dsimp only at hs; omega))), ((F271.fr (((X278.fr.trans0 X287).transL X289).trans X317) (by (first | omega | (intro s hs; omega) | (dsimp only; omega) | (intro s hs; dsimp only at hs; omega) | (simp; done)))).mono (by omega)), (by (have a := ‹mayE _ = true›; have b := eq_of_beq ‹(leafX _ _ == _) = true›; have c := eq_of_beq ‹(extraX _ == _) = true›; rw [leafX, if_pos a] at b; rw [extraX, if_pos a, List.drop_one, List.tail_cons, list_says] at c; rw [may_says] at a; exact prog_good (rdV8_lt _) a b c))⟩
            · skip
              have m319 := F307.bd
              have k320 := F307.parts
              have m321 := F308.bd
              have k322 := F308.parts
              refine Wo.pre 2 (by kernel_rfl) ?_
              refine Wo.nil ?_
              refine Wp.cond true (by kernel_rfl) ?_
              refine Wp.seq ?_
              refine Wp.region ?_
              refine Wo.val (.agg [AV.int IntKind.u64 0, AV.nils]) H289 (by kernel_rfl) (iop_buildP rfl) ?_
              have F323 := (P7.fr ((((((((((((((((((((X9.trans0 X21.fr).trans0 X38.fr).transL X50.fr).trans X61).trans X69.fr).trans X80).trans X88.fr).trans X99).trans X109.fr).trans X122).trans X134.fr).trans X230).transR X233).transR X241.fr).transR X245).trans X247).transR X265.fr).transR X278.fr).transR X287).trans X289) (by (first | omega | (intro s hs; omega) | (dsimp only; omega) | (intro s hs; dsimp only at hs; omega) | (simp; done))))
              obtain ⟨H324, e324, P324, X324, n324⟩ := F323.st 0 [AV.int IntKind.u64 0, AV.nils] (by simp) (ones_cons rfl (ones_cons rfl ones_nil))
              refine Wo.val .undef H324 (by kernel_rfl) (iop_stP (a := { b := H5.n, g := 0, o := 0 }) (v := AV.agg [AV.int IntKind.u64 0, AV.nils]) (vs := [AV.int IntKind.u64 0, AV.nils]) (by kernel_rfl) (by kernel_rfl) rfl rfl e324) ?_
              have m325 := X324.1
              replace P324 : Pt H324 H5.n (Blk.cells 0 70 [AV.int IntKind.u64 0, AV.nils] 0 false) := P324
              refine Wo.pre 1 (by kernel_rfl) ?_
              refine Wo.nil ?_
              refine Wp.ret ?_
              refine ⟨.inr rfl, (.tup [AV.agg [AV.int IntKind.u64 0, AV.nils], AV.int IntKind.i64 5]), (ret_many (res_cell (a := { b := H5.n, g := 0, o := 0 }) (by kernel_rfl) (P324.ld rfl (by kernel_rfl)) (res_tmp (by kernel_rfl) res_nil)) rfl), ?_⟩
              dsimp only
              exact ⟨0, .nils, [], 5, rfl, ((((((((((((((((((((((((X5.trans0 X7).trans0 X9).trans0 X21.fr).trans0 X38.fr).transL X50.fr).trans X61).trans X69.fr).trans X80).trans X88.fr).trans X99).trans X109.fr).trans X122).trans X134.fr).trans X230).transR X233).transR X241.fr).transR X245).trans X247).transR X265.fr).transR X278.fr).transR X287).trans X289).trans X324).ext (by intro s hs; first | omega | (dsimp only at hs; omega))), OwnK.none, (by (exact prog_not (by assumption) (fun e => by have h1 := e.2.2; have h2 := ‹(extraX _ == _) = false›; rw [extraX, if_pos ‹mayE _ = true›, List.drop_one, List.tail_cons, list_says] at h2; exact ne_of_beq_false h2 h1)))⟩
          · skip
            have m326 := F297.1
            have m327 := F298.bd
            have k328 := F298.parts
            have m329 := F299.bd
            have k330 := F299.parts
            refine Wo.pre 4 (by kernel_rfl) ?_
            refine Wo.pre 1 (by kernel_rfl) ?_
            refine Wo.pre 1 (by kernel_rfl) ?_
            refine Wo.pre 1 (by kernel_rfl) ?_
            refine Wo.pre 1 (by kernel_rfl) ?_
            refine Wo.pre 1 (by kernel_rfl) ?_
            refine Wo.pre 1 (by kernel_rfl) ?_
            refine Wo.nil ?_
            refine Wp.cond true (by kernel_rfl) ?_
            refine Wp.seq ?_
            refine Wp.region ?_
            refine Wo.val (.agg [AV.int IntKind.u64 0, AV.nils]) H289 (by kernel_rfl) (iop_buildP rfl) ?_
            have F331 := (P7.fr ((((((((((((((((((((X9.trans0 X21.fr).trans0 X38.fr).transL X50.fr).trans X61).trans X69.fr).trans X80).trans X88.fr).trans X99).trans X109.fr).trans X122).trans X134.fr).trans X230).transR X233).transR X241.fr).transR X245).trans X247).transR X265.fr).transR X278.fr).transR X287).trans X289) (by (first | omega | (intro s hs; omega) | (dsimp only; omega) | (intro s hs; dsimp only at hs; omega) | (simp; done))))
            obtain ⟨H332, e332, P332, X332, n332⟩ := F331.st 0 [AV.int IntKind.u64 0, AV.nils] (by simp) (ones_cons rfl (ones_cons rfl ones_nil))
            refine Wo.val .undef H332 (by kernel_rfl) (iop_stP (a := { b := H5.n, g := 0, o := 0 }) (v := AV.agg [AV.int IntKind.u64 0, AV.nils]) (vs := [AV.int IntKind.u64 0, AV.nils]) (by kernel_rfl) (by kernel_rfl) rfl rfl e332) ?_
            have m333 := X332.1
            replace P332 : Pt H332 H5.n (Blk.cells 0 70 [AV.int IntKind.u64 0, AV.nils] 0 false) := P332
            refine Wo.pre 1 (by kernel_rfl) ?_
            refine Wo.nil ?_
            refine Wp.ret ?_
            refine ⟨.inr rfl, (.tup [AV.agg [AV.int IntKind.u64 0, AV.nils], AV.int IntKind.i64 5]), (ret_many (res_cell (a := { b := H5.n, g := 0, o := 0 }) (by kernel_rfl) (P332.ld rfl (by kernel_rfl)) (res_tmp (by kernel_rfl) res_nil)) rfl), ?_⟩
            dsimp only
            exact ⟨0, .nils, [], 5, rfl, ((((((((((((((((((((((((X5.trans0 X7).trans0 X9).trans0 X21.fr).trans0 X38.fr).transL X50.fr).trans X61).trans X69.fr).trans X80).trans X88.fr).trans X99).trans X109.fr).trans X122).trans X134.fr).trans X230).transR X233).transR X241.fr).transR X245).trans X247).transR X265.fr).transR X278.fr).transR X287).trans X289).trans X332).ext (by intro s hs; first | omega | (dsimp only at hs; omega))), OwnK.none, (by (exact prog_not (by assumption) (fun e => by have h1 := e.2.1; have h2 := ‹(leafX _ _ == _) = false›; rw [leafX, if_pos ‹mayE _ = true›] at h2; exact ne_of_beq_false h2 h1)))⟩
        · skip
          exact absurd (show leafE _ = 0 from if_pos ‹mayE _ = true›) ‹¬ leafE _ = 0›
      · skip
        have m334 := F260.bd
        have k335 := F260.parts
        refine Wo.pre 2 (by kernel_rfl) ?_
        refine Wo.nil ?_
        refine Wp.cond true (by kernel_rfl) ?_
        refine Wp.seq ?_
        refine Wp.region ?_
        refine Wo.val (.agg [AV.int IntKind.u64 0, AV.nils]) H262 (by kernel_rfl) (iop_buildP rfl) ?_
        have F336 := (P7.fr (((((((((((((((((X9.trans0 X21.fr).trans0 X38.fr).transL X50.fr).trans X61).trans X69.fr).trans X80).trans X88.fr).trans X99).trans X109.fr).trans X122).trans X134.fr).trans X230).transR X233).transR X241.fr).transR X245).trans X247).transR X265.fr) (by (first | omega | (intro s hs; omega) | (dsimp only; omega) | (intro s hs; dsimp only at hs; omega) | (simp; done))))
        obtain ⟨H337, e337, P337, X337, n337⟩ := F336.st 0 [AV.int IntKind.u64 0, AV.nils] (by simp) (ones_cons rfl (ones_cons rfl ones_nil))
        refine Wo.val .undef H337 (by kernel_rfl) (iop_stP (a := { b := H5.n, g := 0, o := 0 }) (v := AV.agg [AV.int IntKind.u64 0, AV.nils]) (vs := [AV.int IntKind.u64 0, AV.nils]) (by kernel_rfl) (by kernel_rfl) rfl rfl e337) ?_
        have m338 := X337.1
        replace P337 : Pt H337 H5.n (Blk.cells 0 70 [AV.int IntKind.u64 0, AV.nils] 0 false) := P337
        refine Wo.pre 1 (by kernel_rfl) ?_
        refine Wo.nil ?_
        refine Wp.ret ?_
        refine ⟨.inr rfl, (.tup [AV.agg [AV.int IntKind.u64 0, AV.nils], AV.int IntKind.i64 5]), (ret_many (res_cell (a := { b := H5.n, g := 0, o := 0 }) (by kernel_rfl) (P337.ld rfl (by kernel_rfl)) (res_tmp (by kernel_rfl) res_nil)) rfl), ?_⟩
        dsimp only
        exact ⟨0, .nils, [], 5, rfl, (((((((((((((((((((((X5.trans0 X7).trans0 X9).trans0 X21.fr).trans0 X38.fr).transL X50.fr).trans X61).trans X69.fr).trans X80).trans X88.fr).trans X99).trans X109.fr).trans X122).trans X134.fr).trans X230).transR X233).transR X241.fr).transR X245).trans X247).transR X265.fr).trans X337).ext (by intro s hs; first | omega | (dsimp only at hs; omega))), OwnK.none, (by (exact prog_not (by assumption) (fun e => by have h1 := e.1; have h2 := ‹mayE _ = false›; rw [may_says] at h2; exact absurd (h2.symm.trans h1) (by simp))))⟩
    · skip
      have m339 := F224.1
      have m340 := P233.1
      have m341 := F235.bd
      have k342 := F235.parts
      have m343 := F236.bd
      have k344 := F236.parts
      have m345 := P245.1
      have m346 := P247.1
      have m347 := F249.1
      refine Wo.pre 1 (by kernel_rfl) ?_
      refine Wo.pre 1 (by kernel_rfl) ?_
      refine Wo.pre 1 (by kernel_rfl) ?_
      refine Wo.pre 1 (by kernel_rfl) ?_
      refine Wo.pre 1 (by kernel_rfl) ?_
      refine Wo.nil ?_
      refine Wp.cond true (by kernel_rfl) ?_
      refine Wp.seq ?_
      refine Wp.region ?_
      refine Wo.val (.agg [AV.int IntKind.u64 0, AV.nils]) H247 (by kernel_rfl) (iop_buildP rfl) ?_
      have F348 := (P7.fr ((((((((((((((((X9.trans0 X21.fr).trans0 X38.fr).transL X50.fr).trans X61).trans X69.fr).trans X80).trans X88.fr).trans X99).trans X109.fr).trans X122).trans X134.fr).trans X230).transR X233).transR X241.fr).transR X245).trans X247) (by (first | omega | (intro s hs; omega) | (dsimp only; omega) | (intro s hs; dsimp only at hs; omega) | (simp; done))))
      obtain ⟨H349, e349, P349, X349, n349⟩ := F348.st 0 [AV.int IntKind.u64 0, AV.nils] (by simp) (ones_cons rfl (ones_cons rfl ones_nil))
      refine Wo.val .undef H349 (by kernel_rfl) (iop_stP (a := { b := H5.n, g := 0, o := 0 }) (v := AV.agg [AV.int IntKind.u64 0, AV.nils]) (vs := [AV.int IntKind.u64 0, AV.nils]) (by kernel_rfl) (by kernel_rfl) rfl rfl e349) ?_
      have m350 := X349.1
      replace P349 : Pt H349 H5.n (Blk.cells 0 70 [AV.int IntKind.u64 0, AV.nils] 0 false) := P349
      refine Wo.pre 1 (by kernel_rfl) ?_
      refine Wo.nil ?_
      refine Wp.ret ?_
      refine ⟨.inr rfl, (.tup [AV.agg [AV.int IntKind.u64 0, AV.nils], AV.int IntKind.i64 5]), (ret_many (res_cell (a := { b := H5.n, g := 0, o := 0 }) (by kernel_rfl) (P349.ld rfl (by kernel_rfl)) (res_tmp (by kernel_rfl) res_nil)) rfl), ?_⟩
      dsimp only
      exact ⟨0, .nils, [], 5, rfl, ((((((((((((((((((((X5.trans0 X7).trans0 X9).trans0 X21.fr).trans0 X38.fr).transL X50.fr).trans X61).trans X69.fr).trans X80).trans X88.fr).trans X99).trans X109.fr).trans X122).trans X134.fr).trans X230).transR X233).transR X241.fr).transR X245).trans X247).trans X349).ext (by intro s hs; first | omega | (dsimp only at hs; omega))), OwnK.none, (by exact prog_bad (fun e => ‹¬ orI _ _ = 0› (by simp only [orI_zero, e.1, e.2.1, e.2.2.1, e.2.2.2.1, and_self])))⟩

theorem rd8_of {l : List UInt8} (h : 8 = l.length) : rdV l 8 = be l := by
  rw [(rd8_good (by omega)).2.1, List.take_of_length_le (by omega)]

theorem leafE_zero {xs : List (AV × List UInt8)} (h : leafE xs = 0) : mayE xs = true := by
  unfold leafE at h
  by_cases hm : mayE xs = true
  · exact hm
  · rw [if_neg hm] at h; cases h
/-- The chain that the reference's reading lays out. -/
def itemXs (lf : List UInt8) (z : AV) (ps : List (AV × List UInt8)) : List (AV × List UInt8) := [] ++ [(z, List.drop 15 (List.take (lf.length - 2) lf))] ++ ps
theorem itemXs_may {lf : List UInt8} {z : AV} {ps : List (AV × List UInt8)} : mayE (itemXs lf z ps) = mayS (itemC lf :: says ps) := may_says _
theorem itemT_rd {lf : List UInt8} (h : 17 ≤ lf.length) : rdV (List.drop 2 (List.take 10 lf)) 8 = itemT lf := rd8_of (by rw [List.length_drop, List.length_take]; omega)
theorem itemR_1 {lf ex : List UInt8} {z : AV} {ps : List (AV × List UInt8)} (h : 17 ≤ lf.length) (hc : certR ex = some (says ps)) (hq : ¬ leafE (itemXs lf z ps) = 0) : itemOf lf ex = (0, says [], 5) := by
  rw [item_some h hc, if_neg (fun e => hq (if_pos (itemXs_may.trans e.1)))]; rfl
theorem itemR_2 {lf ex : List UInt8} {z : AV} {ps : List (AV × List UInt8)} (h : 17 ≤ lf.length) (hc : certR ex = some (says ps)) (he : leafE (itemXs lf z ps) = 0) (hq : leafX (rdV (List.drop 2 (List.take 10 lf)) 8) (itemXs lf z ps) ≠ lf) : itemOf lf ex = (0, says [], 5) := by
  rw [leafX, if_pos (leafE_zero he), itemT_rd h] at hq
  rw [item_some h hc, if_neg (fun e => hq e.2)]; rfl
theorem itemR_3 {lf ex : List UInt8} {z : AV} {ps : List (AV × List UInt8)} (hc : certR ex = some (says ps)) (he : leafE (itemXs lf z ps) = 0) : extraX (itemXs lf z ps) = ex := by
  rw [extraX, if_pos (leafE_zero he)]
  show listB ps = ex
  rw [list_says]
  exact (certR_dec hc).1
theorem itemR_4 {lf ex : List UInt8} {z : AV} {ps zs : List (AV × List UInt8)} (h : 17 ≤ lf.length) (hc : certR ex = some (says ps)) (he : leafE (itemXs lf z ps) = 0) (hq : leafX (rdV (List.drop 2 (List.take 10 lf)) 8) (itemXs lf z ps) = lf) (hz : says zs = says (itemXs lf z ps)) : itemOf lf ex = (rdV (List.drop 2 (List.take 10 lf)) 8, says zs, 0) := by
  rw [leafX, if_pos (leafE_zero he), itemT_rd h] at hq
  have hm := leafE_zero he
  rw [itemXs_may] at hm
  rw [item_some h hc, if_pos ⟨hm, hq⟩, itemT_rd h, hz]; rfl

set_option maxHeartbeats 16000000 in
theorem rtakeitem_run {h : H} {y x : AV} {lf ex : List UInt8} (hy : Bs h y lf) (hx : Bs h x ex) (oy : Cok y) (ox : Cok x) (hl : lf.length ≤ maxRow) (hl2 : ex.length ≤ maxRow) : ∃ r h', Runs TF 57 [itemV y x] h r h' ∧ ∃ t z ps E, r = .tup [entV t z, .int .i64 E] ∧ Ext h h' ∧ OwnCh h.n h' z ps ∧ itemOf lf ex = (t, says ps, E) := by
  refine Runs.ofP f57 rfl ?_
  have hmx : 200000000000000 = maxRow := rfl
  have rl : (List.drop 2 (List.take 10 lf)).length ≤ lf.length := by rw [List.length_drop, List.length_take]; omega
  have cl : (List.drop 15 (List.take (lf.length - 2) lf)).length ≤ lf.length := by rw [List.length_drop, List.length_take]; omega
  have rv := rdV8_lt (List.drop 2 (List.take 10 lf))
  have m1 := hy.bd
  have k2 := hy.parts
  have m3 := hx.bd
  have k4 := hx.parts
  refine Wp.seq ?_
  refine Wp.region ?_
  obtain ⟨H5, e5, P5, X5, n5⟩ := pt_new h 78 [y, x] (ones_cons k2.2.1 (ones_cons k4.2.1 ones_nil))
  refine Wo.val (.ptr ⟨H.n h, 0, 0⟩) H5 (by kernel_rfl) (e5 (v := AV.agg [y, x]) (by kernel_rfl) rfl) ?_
  have m6 := X5.1
  obtain ⟨H7, e7, P7, X7, n7⟩ := pt_new H5 70 [AV.int IntKind.u64 0, AV.nils] (ones_cons rfl (ones_cons rfl ones_nil))
  refine Wo.val (.ptr ⟨H.n H5, 0, 0⟩) H7 (by kernel_rfl) (e7 (v := AV.agg [AV.int IntKind.u64 0, AV.nils]) (by kernel_rfl) rfl) ?_
  have m8 := X7.1
  refine Wo.pre 1 (by kernel_rfl) ?_
  refine Wo.nil ?_
  refine Wp.seq ?_
  refine Wp.seq ?_
  refine Wp.region ?_
  refine Wo.pre 1 (by kernel_rfl) ?_
  have F9 := (P5.fr X7 id)
  refine Wo.val (y) H7 (by kernel_rfl) (iop_ldP F9 (a := { b := h.n, g := 0, o := 0 }) (by kernel_rfl) rfl (by kernel_rfl)) ?_
  have F10 := (hy.fr (X5.trans0 X7) (.inr id))
  refine Wo.val (.int .i64 (List.length (lf) : Nat)) H7 (by kernel_rfl) (Bs.len F10 (by kernel_rfl)) ?_
  refine Wo.cmp (op := .lss) (x := IX.t 15) (y := IX.c (AV.int IntKind.i64 17)) (k := IntKind.i64) (a := ↑lf.length) (b := 17) ((↑lf.length : Int) < (17 : Int)) (by kernel_rfl) (by kernel_rfl) (by kernel_rfl) (by kernel_rfl) (by simp) (by kernel_rfl) (fun q11 => ?_) (fun q11 => ?_)
  · skip
    have m12 := P5.1
    have m13 := P7.1
    have m14 := F9.1
    have m15 := F10.bd
    have k16 := F10.parts
    refine Wo.nil ?_
    refine Wp.cond true (by kernel_rfl) ?_
    refine Wp.seq ?_
    refine Wp.region ?_
    refine Wo.val (.agg [AV.int IntKind.u64 0, AV.nils]) H7 (by kernel_rfl) (iop_buildP rfl) ?_
    obtain ⟨H17, e17, P17, X17, n17⟩ := P7.st 0 [AV.int IntKind.u64 0, AV.nils] (by simp) (ones_cons rfl (ones_cons rfl ones_nil))
    refine Wo.val .undef H17 (by kernel_rfl) (iop_stP (a := { b := H5.n, g := 0, o := 0 }) (v := AV.agg [AV.int IntKind.u64 0, AV.nils]) (vs := [AV.int IntKind.u64 0, AV.nils]) (by kernel_rfl) (by kernel_rfl) rfl rfl e17) ?_
    have m18 := X17.1
    replace P17 : Pt H17 H5.n (Blk.cells 0 70 [AV.int IntKind.u64 0, AV.nils] 0 false) := P17
    refine Wo.pre 1 (by kernel_rfl) ?_
    refine Wo.nil ?_
    refine Wp.ret ?_
    refine ⟨.inr rfl, (.tup [AV.agg [AV.int IntKind.u64 0, AV.nils], AV.int IntKind.i64 5]), (ret_many (res_cell (a := { b := H5.n, g := 0, o := 0 }) (by kernel_rfl) (P17.ld rfl (by kernel_rfl)) (res_tmp (by kernel_rfl) res_nil)) rfl), ?_⟩
    dsimp only
    exact ⟨0, .nils, [], 5, rfl, (((X5.trans0 X7).transL X17).ext (by intro s hs; first | omega | (dsimp only at hs; omega) | (simp only [blk_nils, blk_sl] at hs ⊢; omega))), OwnCh.none, (by exact item_short (by omega))⟩
  · skip
    have m19 := P5.1
    have m20 := P7.1
    have m21 := F9.1
    have m22 := F10.bd
    have k23 := F10.parts
    refine Wo.nil ?_
    refine Wp.cond false (by kernel_rfl) ?_
    refine Wp.skip ?_
    refine Wp.seq ?_
    refine Wp.region ?_
    refine Wo.pre 1 (by kernel_rfl) ?_
    refine Wo.val (y) H7 (by kernel_rfl) (iop_ldP F9 (a := { b := h.n, g := 0, o := 0 }) (by kernel_rfl) rfl (by kernel_rfl)) ?_
    obtain ⟨z24, e24, b24, o24⟩ := F10.subN oy (ei := (2 : Int)) (ej := (10 : Int)) 2 10 rfl rfl (by first | omega | simp; omega) (by first | omega | simp; omega)
    refine Wo.val z24 H7 (by kernel_rfl) (e24 (by kernel_rfl) (by kernel_rfl) (by kernel_rfl)) ?_
    have m25 := b24.bd
    have k26 := b24.parts
    obtain ⟨H27, b28, u29, c30, q31, q32, X33, q34⟩ := rrnew_run b24 (by first | omega | (simp; omega) | (simp; done) | assumption | ((intro q hq; have h := (mayE_small (leafE_zero ‹leafE _ = 0›)).1.2 q hq; omega)) | ((have h := (mayE_small (leafE_zero ‹leafE _ = 0›)).1.1; omega)) | ((have h := certR_few ‹certR _ = some _›; rw [says_len] at h; first | exact h | (simp; omega))) | ((intro q hq; simp at hq)) | ((intro q hq; simp only [List.nil_append, List.mem_cons, List.not_mem_nil, or_false] at hq; rw [hq]; dsimp only; omega)))
    have m35 := q32.bd
    have m36 := X33.1
    refine Wo.call (by kernel_rfl) (by kernel_rfl) c30 ?_
    refine Wo.pre 1 (by kernel_rfl) ?_
    refine Wo.nil ?_
    refine Wp.seq ?_
    refine Wp.region ?_
    refine Wo.pre 1 (by kernel_rfl) ?_
    obtain ⟨H37, v38, c39, q40, X41, q42⟩ := rrnum_any q32 (8) (by first | omega | (simp; omega) | (simp; done) | assumption | ((intro q hq; have h := (mayE_small (leafE_zero ‹leafE _ = 0›)).1.2 q hq; omega)) | ((have h := (mayE_small (leafE_zero ‹leafE _ = 0›)).1.1; omega)) | ((have h := certR_few ‹certR _ = some _›; rw [says_len] at h; first | exact h | (simp; omega))) | ((intro q hq; simp at hq)) | ((intro q hq; simp only [List.nil_append, List.mem_cons, List.not_mem_nil, or_false] at hq; rw [hq]; dsimp only; omega)))
    have m43 := q40.bd
    have m44 := X41.1
    have m45 := q42.blk
    refine Wo.call (by kernel_rfl) (by kernel_rfl) c39 ?_
    refine Wo.pre 5 (by kernel_rfl) ?_
    refine Wo.nil ?_
    refine Wp.seq ?_
    refine Wp.region ?_
    refine Wo.pre 1 (by kernel_rfl) ?_
    refine Wo.nil ?_
    refine Wp.seq ?_
    refine Wp.region ?_
    refine Wo.pre 2 (by kernel_rfl) ?_
    have F46 := (F9.fr (X33.fr.transL X41.fr) (by (first | omega | (intro s hs; omega) | (dsimp only; omega) | (intro s hs; dsimp only at hs; omega) | (simp only [blk_nils, blk_sl]; omega) | (intro s hs; simp only [blk_nils, blk_sl] at hs ⊢; omega) | (simp; done))))
    refine Wo.val (y) H37 (by kernel_rfl) (iop_ldP F46 (a := { b := h.n, g := 0, o := 0 }) (by kernel_rfl) rfl (by kernel_rfl)) ?_
    refine Wo.pre 1 (by kernel_rfl) ?_
    refine Wo.val (y) H37 (by kernel_rfl) (iop_ldP F46 (a := { b := h.n, g := 0, o := 0 }) (by kernel_rfl) rfl (by kernel_rfl)) ?_
    have F47 := (F10.fr (X33.fr.transL X41.fr) (by (first | omega | (intro s hs; omega) | (dsimp only; omega) | (intro s hs; dsimp only at hs; omega) | (simp only [blk_nils, blk_sl]; omega) | (intro s hs; simp only [blk_nils, blk_sl] at hs ⊢; omega) | (simp; done))))
    refine Wo.val (.int .i64 (List.length (lf) : Nat)) H37 (by kernel_rfl) (Bs.len F47 (by kernel_rfl)) ?_
    refine Wo.val (.int IntKind.i64 ((↑lf.length : Int) - (2 : Int))) H37 (by kernel_rfl) (iop_arith (op := .sub) (a := ↑lf.length) (b := 2) (by kernel_rfl) (by kernel_rfl) (by simp) (bin_sub IntKind.i64 (by simp only [min_i64]; omega) (by simp only [max_i64]; omega))) ?_
    obtain ⟨z48, e48, b48, o48⟩ := F47.subN oy (ei := (15 : Int)) (ej := (↑lf.length - 2 : Int)) 15 (lf.length - 2) rfl (by omega) (by first | omega | simp; omega) (by first | omega | simp; omega)
    refine Wo.val z48 H37 (by kernel_rfl) (e48 (by kernel_rfl) (by kernel_rfl) (by kernel_rfl)) ?_
    have m49 := b48.bd
    have k50 := b48.parts
    obtain ⟨H51, e51, P51, X51, n51⟩ := bsl_new H37 22 [z48] (ones_cons k50.2.1 ones_nil)
    refine Wo.val (.sl ⟨H.n H37, 0, 0⟩ 1 (.ex 1)) H51 (by kernel_rfl) (e51 (fill_cons (v := z48) (vs := [z48]) (by kernel_rfl) k50.1 (by kernel_rfl) rfl)) ?_
    have m52 := X51.1
    have F53 := (b48.fr X51 (.inr id))
    obtain ⟨v54, H55, a56, q57, X58⟩ := app22_one P51 (OwB.none (lo := H51.n)) F53 o48 (by first | omega | (simp; omega) | (simp; done) | assumption | ((intro q hq; have h := (mayE_small (leafE_zero ‹leafE _ = 0›)).1.2 q hq; omega)) | ((have h := (mayE_small (leafE_zero ‹leafE _ = 0›)).1.1; omega)) | ((have h := certR_few ‹certR _ = some _›; rw [says_len] at h; first | exact h | (simp; omega))) | ((intro q hq; simp at hq)) | ((intro q hq; simp only [List.nil_append, List.mem_cons, List.not_mem_nil, or_false] at hq; rw [hq]; dsimp only; omega))) (by first | omega | (simp; omega) | (simp; done) | assumption | ((intro q hq; have h := (mayE_small (leafE_zero ‹leafE _ = 0›)).1.2 q hq; omega)) | ((have h := (mayE_small (leafE_zero ‹leafE _ = 0›)).1.1; omega)) | ((have h := certR_few ‹certR _ = some _›; rw [says_len] at h; first | exact h | (simp; omega))) | ((intro q hq; simp at hq)) | ((intro q hq; simp only [List.nil_append, List.mem_cons, List.not_mem_nil, or_false] at hq; rw [hq]; dsimp only; omega))) (by first | omega | (simp; omega) | (simp; done) | assumption | ((intro q hq; have h := (mayE_small (leafE_zero ‹leafE _ = 0›)).1.2 q hq; omega)) | ((have h := (mayE_small (leafE_zero ‹leafE _ = 0›)).1.1; omega)) | ((have h := certR_few ‹certR _ = some _›; rw [says_len] at h; first | exact h | (simp; omega))) | ((intro q hq; simp at hq)) | ((intro q hq; simp only [List.nil_append, List.mem_cons, List.not_mem_nil, or_false] at hq; rw [hq]; dsimp only; omega))) (by first | omega | (simp; omega) | (simp; done) | assumption | ((intro q hq; have h := (mayE_small (leafE_zero ‹leafE _ = 0›)).1.2 q hq; omega)) | ((have h := (mayE_small (leafE_zero ‹leafE _ = 0›)).1.1; omega)) | ((have h := certR_few ‹certR _ = some _›; rw [says_len] at h; first | exact h | (simp; omega))) | ((intro q hq; simp at hq)) | ((intro q hq; simp only [List.nil_append, List.mem_cons, List.not_mem_nil, or_false] at hq; rw [hq]; dsimp only; omega)))
    refine Wo.val _ _ (by kernel_rfl) (iop_appG (v := AV.nils) (w := AV.sl { b := H37.n, g := 0, o := 0 } 1 (Cp.ex 1)) (by kernel_rfl) (by kernel_rfl) rfl a56) ?_
    have m59 := q57.bd
    have k60 := q57.parts
    have m61 := X58.1
    refine Wo.pre 1 (by kernel_rfl) ?_
    refine Wo.nil ?_
    refine Wp.seq ?_
    refine Wp.region ?_
    refine Wo.pre 1 (by kernel_rfl) ?_
    have F62 := (F46.fr (X51.transL X58) (by (first | omega | (intro s hs; omega) | (dsimp only; omega) | (intro s hs; dsimp only at hs; omega) | (simp only [blk_nils, blk_sl]; omega) | (intro s hs; simp only [blk_nils, blk_sl] at hs ⊢; omega) | (simp; done))))
    refine Wo.val (x) H55 (by kernel_rfl) (iop_ldP F62 (a := { b := h.n, g := 0, o := 1 }) (by kernel_rfl) rfl (by kernel_rfl)) ?_
    have F63 := (hx.fr (((((X5.trans0 X7).trans0 X33.fr).transL X41.fr).transR X51).trans X58) (by (first | omega | (intro s hs; omega) | (dsimp only; omega) | (intro s hs; dsimp only at hs; omega) | (simp only [blk_nils, blk_sl]; omega) | (intro s hs; simp only [blk_nils, blk_sl] at hs ⊢; omega) | (simp; done))))
    rcases rcerts_run F63 hl2 with ⟨r64, H65, c66, z67, ok68, rfl, X70, (⟨q72, rfl, rfl⟩ | ⟨ps75, q76, rfl, q78⟩)⟩
    · skip
      have m79 := F46.1
      have m80 := F47.bd
      have k81 := F47.parts
      have m82 := P51.1
      have m83 := F53.bd
      have k84 := F53.parts
      have m85 := F62.1
      have m86 := F63.bd
      have k87 := F63.parts
      have m88 := X70.1
      refine Wo.call (by kernel_rfl) (by kernel_rfl) c66 ?_
      refine Wo.pre 5 (by kernel_rfl) ?_
      refine Wo.nil ?_
      refine Wp.seq ?_
      refine Wp.seq ?_
      refine Wp.region ?_
      refine Wo.pre 1 (by kernel_rfl) ?_
      refine Wo.pre 1 (by kernel_rfl) ?_
      refine Wo.nil ?_
      refine Wp.cond true (by kernel_rfl) ?_
      refine Wp.seq ?_
      refine Wp.region ?_
      refine Wo.val (.agg [AV.int IntKind.u64 0, AV.nils]) H65 (by kernel_rfl) (iop_buildP rfl) ?_
      have F89 := (P7.fr ((((X33.fr.transL X41.fr).transR X51).trans X58).transR X70.fr) (by (first | omega | (intro s hs; omega) | (dsimp only; omega) | (intro s hs; dsimp only at hs; omega) | (simp only [blk_nils, blk_sl]; omega) | (intro s hs; simp only [blk_nils, blk_sl] at hs ⊢; omega) | (simp; done))))
      obtain ⟨H90, e90, P90, X90, n90⟩ := F89.st 0 [AV.int IntKind.u64 0, AV.nils] (by simp) (ones_cons rfl (ones_cons rfl ones_nil))
      refine Wo.val .undef H90 (by kernel_rfl) (iop_stP (a := { b := H5.n, g := 0, o := 0 }) (v := AV.agg [AV.int IntKind.u64 0, AV.nils]) (vs := [AV.int IntKind.u64 0, AV.nils]) (by kernel_rfl) (by kernel_rfl) rfl rfl e90) ?_
      have m91 := X90.1
      replace P90 : Pt H90 H5.n (Blk.cells 0 70 [AV.int IntKind.u64 0, AV.nils] 0 false) := P90
      refine Wo.pre 1 (by kernel_rfl) ?_
      refine Wo.nil ?_
      refine Wp.ret ?_
      refine ⟨.inr rfl, (.tup [AV.agg [AV.int IntKind.u64 0, AV.nils], AV.int IntKind.i64 5]), (ret_many (res_cell (a := { b := H5.n, g := 0, o := 0 }) (by kernel_rfl) (P90.ld rfl (by kernel_rfl)) (res_tmp (by kernel_rfl) res_nil)) rfl), ?_⟩
      dsimp only
      exact ⟨0, .nils, [], 5, rfl, ((((((((X5.trans0 X7).trans0 X33.fr).transL X41.fr).transR X51).trans X58).transR X70.fr).trans X90).ext (by intro s hs; first | omega | (dsimp only at hs; omega) | (simp only [blk_nils, blk_sl] at hs ⊢; omega))), OwnCh.none, (by exact item_none (by omega) (by assumption))⟩
    · skip
      have m92 := F46.1
      have m93 := F47.bd
      have k94 := F47.parts
      have m95 := P51.1
      have m96 := F53.bd
      have k97 := F53.parts
      have m98 := F62.1
      have m99 := F63.bd
      have k100 := F63.parts
      have m101 := q78.bd
      have k102 := q78.parts
      have m103 := X70.1
      refine Wo.call (by kernel_rfl) (by kernel_rfl) c66 ?_
      refine Wo.pre 5 (by kernel_rfl) ?_
      refine Wo.nil ?_
      refine Wp.seq ?_
      refine Wp.seq ?_
      refine Wp.region ?_
      refine Wo.pre 1 (by kernel_rfl) ?_
      refine Wo.pre 1 (by kernel_rfl) ?_
      refine Wo.nil ?_
      refine Wp.cond false (by kernel_rfl) ?_
      refine Wp.skip ?_
      refine Wp.seq ?_
      refine Wp.region ?_
      refine Wo.pre 3 (by kernel_rfl) ?_
      have F104 := (q57.fr X70.fr (fun _ e => e.elim))
      obtain ⟨v105, H106, a107, q108, X109⟩ := app22_more F104 q78 (by first | omega | (simp; omega) | (simp; done) | assumption | ((intro q hq; have h := (mayE_small (leafE_zero ‹leafE _ = 0›)).1.2 q hq; omega)) | ((have h := (mayE_small (leafE_zero ‹leafE _ = 0›)).1.1; omega)) | ((have h := certR_few ‹certR _ = some _›; rw [says_len] at h; first | exact h | (simp; omega))) | ((intro q hq; simp at hq)) | ((intro q hq; simp only [List.nil_append, List.mem_cons, List.not_mem_nil, or_false] at hq; rw [hq]; dsimp only; omega))) (by first | omega | (simp; omega) | (simp; done) | assumption | ((intro q hq; have h := (mayE_small (leafE_zero ‹leafE _ = 0›)).1.2 q hq; omega)) | ((have h := (mayE_small (leafE_zero ‹leafE _ = 0›)).1.1; omega)) | ((have h := certR_few ‹certR _ = some _›; rw [says_len] at h; first | exact h | (simp; omega))) | ((intro q hq; simp at hq)) | ((intro q hq; simp only [List.nil_append, List.mem_cons, List.not_mem_nil, or_false] at hq; rw [hq]; dsimp only; omega))) (by first | omega | (simp; omega) | (simp; done) | assumption | ((intro q hq; have h := (mayE_small (leafE_zero ‹leafE _ = 0›)).1.2 q hq; omega)) | ((have h := (mayE_small (leafE_zero ‹leafE _ = 0›)).1.1; omega)) | ((have h := certR_few ‹certR _ = some _›; rw [says_len] at h; first | exact h | (simp; omega))) | ((intro q hq; simp at hq)) | ((intro q hq; simp only [List.nil_append, List.mem_cons, List.not_mem_nil, or_false] at hq; rw [hq]; dsimp only; omega))) (by first | omega | (simp; omega) | (simp; done) | assumption | ((intro q hq; have h := (mayE_small (leafE_zero ‹leafE _ = 0›)).1.2 q hq; omega)) | ((have h := (mayE_small (leafE_zero ‹leafE _ = 0›)).1.1; omega)) | ((have h := certR_few ‹certR _ = some _›; rw [says_len] at h; first | exact h | (simp; omega))) | ((intro q hq; simp at hq)) | ((intro q hq; simp only [List.nil_append, List.mem_cons, List.not_mem_nil, or_false] at hq; rw [hq]; dsimp only; omega)))
      refine Wo.val _ _ (by kernel_rfl) (iop_appG (v := v54) (w := z67) (by kernel_rfl) (by kernel_rfl) k102.2.2 a107) ?_
      have m110 := q108.bd
      have k111 := q108.parts
      have m112 := X109.1
      refine Wo.val (.agg [AV.int IntKind.u64 ↑(rdV (List.drop 2 (List.take 10 lf)) 8), v105]) H106 (by kernel_rfl) (iop_buildP (fill_cons (v := AV.int IntKind.u64 ↑(rdV (List.drop 2 (List.take 10 lf)) 8)) (vs := [AV.int IntKind.u64 ↑(rdV (List.drop 2 (List.take 10 lf)) 8)]) (by kernel_rfl) rfl (by kernel_rfl) (fill_cons (v := v105) (vs := [v105]) (by kernel_rfl) k111.1 (by kernel_rfl) rfl))) ?_
      obtain ⟨H113, e113, P113, X113, n113⟩ := pt_new H106 70 [AV.int IntKind.u64 0, AV.nils] (ones_cons rfl (ones_cons rfl ones_nil))
      refine Wo.val (.ptr ⟨H.n H106, 0, 0⟩) H113 (by kernel_rfl) (e113 (v := AV.agg [AV.int IntKind.u64 0, AV.nils]) (by kernel_rfl) rfl) ?_
      have m114 := X113.1
      obtain ⟨H115, e115, P115, X115, n115⟩ := P113.st 0 [AV.int IntKind.u64 ↑(rdV (List.drop 2 (List.take 10 lf)) 8), v105] (by simp) (ones_cons rfl (ones_cons k111.2.1 ones_nil))
      refine Wo.val .undef H115 (by kernel_rfl) (iop_stP (a := { b := H106.n, g := 0, o := 0 }) (v := AV.agg [AV.int IntKind.u64 ↑(rdV (List.drop 2 (List.take 10 lf)) 8), v105]) (vs := [AV.int IntKind.u64 ↑(rdV (List.drop 2 (List.take 10 lf)) 8), v105]) (by kernel_rfl) (by kernel_rfl) rfl rfl e115) ?_
      have m116 := X115.1
      replace P115 : Pt H115 H106.n (Blk.cells 0 70 [AV.int IntKind.u64 ↑(rdV (List.drop 2 (List.take 10 lf)) 8), v105] 0 false) := P115
      refine Wo.nil ?_
      refine Wp.seq ?_
      refine Wp.region ?_
      refine Wo.val (AV.agg [AV.int IntKind.u64 ↑(rdV (List.drop 2 (List.take 10 lf)) 8), v105]) H115 (by kernel_rfl) (iop_ldP P115 (a := { b := H106.n, g := 0, o := 0 }) (by kernel_rfl) rfl (by kernel_rfl)) ?_
      have F117 := (q108.fr (X113.transL X115) (by (first | omega | (intro s hs; omega) | (dsimp only; omega) | (intro s hs; dsimp only at hs; omega) | (simp only [blk_nils, blk_sl]; omega) | (intro s hs; simp only [blk_nils, blk_sl] at hs ⊢; omega) | (simp; done))))
      obtain ⟨r118, H119, c120, z121, w122, rfl, X124, q125, q126, q127⟩ := ritem_run F117.ch (by first | omega | (simp; omega) | (simp; done) | assumption | ((intro q hq; have h := (mayE_small (leafE_zero ‹leafE _ = 0›)).1.2 q hq; omega)) | ((have h := (mayE_small (leafE_zero ‹leafE _ = 0›)).1.1; omega)) | ((have h := certR_few ‹certR _ = some _›; rw [says_len] at h; first | exact h | (simp; omega))) | ((intro q hq; simp at hq)) | ((intro q hq; simp only [List.nil_append, List.mem_cons, List.not_mem_nil, or_false] at hq; rw [hq]; dsimp only; omega))) rv
      have m128 := X124.1
      have m129 := q125.bd
      have k130 := q125.parts
      have m131 := q126.bd
      have k132 := q126.parts
      refine Wo.call (by kernel_rfl) (by kernel_rfl) c120 ?_
      refine Wo.pre 3 (by kernel_rfl) ?_
      obtain ⟨H133, e133, P133, X133, n133⟩ := pt_new H119 78 [AV.nils, AV.nils] (ones_cons rfl (ones_cons rfl ones_nil))
      refine Wo.val (.ptr ⟨H.n H119, 0, 0⟩) H133 (by kernel_rfl) (e133 (v := AV.agg [AV.nils, AV.nils]) (by kernel_rfl) rfl) ?_
      have m134 := X133.1
      obtain ⟨H135, e135, P135, X135, n135⟩ := P133.st 0 [z121, w122] (by simp) (ones_cons k130.2.1 (ones_cons k132.2.1 ones_nil))
      refine Wo.val .undef H135 (by kernel_rfl) (iop_stP (a := { b := H119.n, g := 0, o := 0 }) (v := AV.agg [z121, w122]) (vs := [z121, w122]) (by kernel_rfl) (by kernel_rfl) rfl rfl e135) ?_
      have m136 := X135.1
      replace P135 : Pt H135 H119.n (Blk.cells 0 78 [z121, w122] 0 false) := P135
      refine Wo.pre 1 (by kernel_rfl) ?_
      refine Wo.nil ?_
      refine Wp.seq ?_
      refine Wp.seq ?_
      refine Wp.region ?_
      refine Wo.pre 1 (by kernel_rfl) ?_
      refine Wo.cmpN (op := .neq) (x := IX.t 56) (y := IX.c (AV.int IntKind.i64 0)) (k := IntKind.i64) (a := leafE ([] ++ [(z48, List.drop 15 (List.take (lf.length - 2) lf))] ++ ps75)) (b := 0) ((leafE ([] ++ [(z48, List.drop 15 (List.take (lf.length - 2) lf))] ++ ps75) : Int) = (0 : Int)) (by kernel_rfl) (by kernel_rfl) (by kernel_rfl) (by kernel_rfl) (by simp) (by kernel_rfl) (fun q137 => ?_) (fun q137 => ?_)
      · skip
        have m138 := F104.bd
        have k139 := F104.parts
        have m140 := P113.1
        have m141 := P115.1
        have m142 := F117.bd
        have k143 := F117.parts
        have m144 := P133.1
        have m145 := P135.1
        refine Wo.pre 2 (by kernel_rfl) ?_
        refine Wo.val (z121) H135 (by kernel_rfl) (iop_ldP P135 (a := { b := H119.n, g := 0, o := 0 }) (by kernel_rfl) rfl (by kernel_rfl)) ?_
        have F146 := (q125.fr (X133.transL X135) (by (first | omega | (intro s hs; omega) | (dsimp only; omega) | (intro s hs; dsimp only at hs; omega) | (simp only [blk_nils, blk_sl]; omega) | (intro s hs; simp only [blk_nils, blk_sl] at hs ⊢; omega) | (simp; done))))
        refine Wo.val (.str (leafX (rdV (List.drop 2 (List.take 10 lf)) 8) ([] ++ [(z48, List.drop 15 (List.take (lf.length - 2) lf))] ++ ps75))) H135 (by kernel_rfl) (iop_cvBS (v := z121) (by kernel_rfl) F146.bs) ?_
        refine Wo.pre 1 (by kernel_rfl) ?_
        have F147 := (F62.fr ((((((X70.fr.transL X109).transR X113).trans X115).transR X124.fr).transR X133).trans X135) (by (first | omega | (intro s hs; omega) | (dsimp only; omega) | (intro s hs; dsimp only at hs; omega) | (simp only [blk_nils, blk_sl]; omega) | (intro s hs; simp only [blk_nils, blk_sl] at hs ⊢; omega) | (simp; done))))
        refine Wo.val (y) H135 (by kernel_rfl) (iop_ldP F147 (a := { b := h.n, g := 0, o := 0 }) (by kernel_rfl) rfl (by kernel_rfl)) ?_
        have F148 := (F47.fr ((((((((X51.transL X58).transR X70.fr).trans X109).transR X113).trans X115).transR X124.fr).transR X133).trans X135) (by (first | omega | (intro s hs; omega) | (dsimp only; omega) | (intro s hs; dsimp only at hs; omega) | (simp only [blk_nils, blk_sl]; omega) | (intro s hs; simp only [blk_nils, blk_sl] at hs ⊢; omega) | (simp; done))))
        refine Wo.val (.str (lf)) H135 (by kernel_rfl) (iop_cvBS (v := y) (by kernel_rfl) F148) ?_
        refine Wo.cmpSN (x := IX.t 61) (y := IX.t 64) (a := Decidable.rec (fun h => (fun x => []) h) (fun h => (fun x => leafB (rdV (List.drop 2 (List.take 10 lf)) 8) (c0 ([] ++ [(z48, List.drop 15 (List.take (lf.length - 2) lf))] ++ ps75))) h) (instDecidableEqBool (mayE ([] ++ [(z48, List.drop 15 (List.take (lf.length - 2) lf))] ++ ps75)) true)) (b := lf) (by kernel_rfl) (by kernel_rfl) (by kernel_rfl) (by kernel_rfl) (fun q149 => ?_) (fun q149 => ?_)
        · skip
          have m150 := F146.bd
          have k151 := F146.parts
          have m152 := F147.1
          have m153 := F148.bd
          have k154 := F148.parts
          refine Wo.pre 3 (by kernel_rfl) ?_
          refine Wo.val (w122) H135 (by kernel_rfl) (iop_ldP P135 (a := { b := H119.n, g := 0, o := 1 }) (by kernel_rfl) rfl (by kernel_rfl)) ?_
          have F155 := (q126.fr (X133.transL X135) (by (first | omega | (intro s hs; omega) | (dsimp only; omega) | (intro s hs; dsimp only at hs; omega) | (simp only [blk_nils, blk_sl]; omega) | (intro s hs; simp only [blk_nils, blk_sl] at hs ⊢; omega) | (simp; done))))
          refine Wo.val (.str (extraX ([] ++ [(z48, List.drop 15 (List.take (lf.length - 2) lf))] ++ ps75))) H135 (by kernel_rfl) (iop_cvBS (v := w122) (by kernel_rfl) F155.bs) ?_
          refine Wo.pre 1 (by kernel_rfl) ?_
          refine Wo.val (x) H135 (by kernel_rfl) (iop_ldP F147 (a := { b := h.n, g := 0, o := 1 }) (by kernel_rfl) rfl (by kernel_rfl)) ?_
          have F156 := (F63.fr ((((((X70.fr.transL X109).transR X113).trans X115).transR X124.fr).transR X133).trans X135) (by (first | omega | (intro s hs; omega) | (dsimp only; omega) | (intro s hs; dsimp only at hs; omega) | (simp only [blk_nils, blk_sl]; omega) | (intro s hs; simp only [blk_nils, blk_sl] at hs ⊢; omega) | (simp; done))))
          refine Wo.val (.str (ex)) H135 (by kernel_rfl) (iop_cvBS (v := x) (by kernel_rfl) F156) ?_
          refine Wo.cmpSN (x := IX.t 70) (y := IX.t 73) (a := Decidable.rec (fun h => (fun x => []) h) (fun h => (fun x => listB (List.drop 1 ([] ++ [(z48, List.drop 15 (List.take (lf.length - 2) lf))] ++ ps75))) h) (instDecidableEqBool (mayE ([] ++ [(z48, List.drop 15 (List.take (lf.length - 2) lf))] ++ ps75)) true)) (b := ex) (by kernel_rfl) (by kernel_rfl) (by kernel_rfl) (by kernel_rfl) (fun q157 => ?_) (fun q157 => ?_)
          · skip
            have m158 := F155.bd
            have k159 := F155.parts
            have m160 := F156.bd
            have k161 := F156.parts
            refine Wo.pre 1 (by kernel_rfl) ?_
            refine Wo.nil ?_
            refine Wp.cond false (by kernel_rfl) ?_
            refine Wp.skip ?_
            refine Wp.seq ?_
            refine Wp.region ?_
            have F162 := (P115.fr ((X124.fr.trans0 X133).transL X135) (by (first | omega | (intro s hs; omega) | (dsimp only; omega) | (intro s hs; dsimp only at hs; omega) | (simp only [blk_nils, blk_sl]; omega) | (intro s hs; simp only [blk_nils, blk_sl] at hs ⊢; omega) | (simp; done))))
            refine Wo.val (AV.agg [AV.int IntKind.u64 ↑(rdV (List.drop 2 (List.take 10 lf)) 8), v105]) H135 (by kernel_rfl) (iop_ldP F162 (a := { b := H106.n, g := 0, o := 0 }) (by kernel_rfl) rfl (by kernel_rfl)) ?_
            have F163 := (F117.fr ((X124.fr.trans0 X133).transL X135) (by (first | omega | (intro s hs; omega) | (dsimp only; omega) | (intro s hs; dsimp only at hs; omega) | (simp only [blk_nils, blk_sl]; omega) | (intro s hs; simp only [blk_nils, blk_sl] at hs ⊢; omega) | (simp; done))))
            obtain ⟨r164, H165, c166, v167, ys168, rfl, X170, q171, q172⟩ := owne_run F163.ch (by first | omega | (simp; omega) | (simp; done) | assumption | ((intro q hq; have h := (mayE_small (leafE_zero ‹leafE _ = 0›)).1.2 q hq; omega)) | ((have h := (mayE_small (leafE_zero ‹leafE _ = 0›)).1.1; omega)) | ((have h := certR_few ‹certR _ = some _›; rw [says_len] at h; first | exact h | (simp; omega))) | ((intro q hq; simp at hq)) | ((intro q hq; simp only [List.nil_append, List.mem_cons, List.not_mem_nil, or_false] at hq; rw [hq]; dsimp only; omega))) (by first | omega | (simp; omega) | (simp; done) | assumption | ((intro q hq; have h := (mayE_small (leafE_zero ‹leafE _ = 0›)).1.2 q hq; omega)) | ((have h := (mayE_small (leafE_zero ‹leafE _ = 0›)).1.1; omega)) | ((have h := certR_few ‹certR _ = some _›; rw [says_len] at h; first | exact h | (simp; omega))) | ((intro q hq; simp at hq)) | ((intro q hq; simp only [List.nil_append, List.mem_cons, List.not_mem_nil, or_false] at hq; rw [hq]; dsimp only; omega))) (rdV (List.drop 2 (List.take 10 lf)) 8)
            have m173 := X170.1
            have m174 := q171.bd
            have k175 := q171.parts
            refine Wo.call (by kernel_rfl) (by kernel_rfl) c166 ?_
            have F176 := (P7.fr (((((((((((X33.fr.transL X41.fr).transR X51).trans X58).transR X70.fr).trans X109).transR X113).trans X115).transR X124.fr).transR X133).trans X135).transR X170.fr) (by (first | omega | (intro s hs; omega) | (dsimp only; omega) | (intro s hs; dsimp only at hs; omega) | (simp only [blk_nils, blk_sl]; omega) | (intro s hs; simp only [blk_nils, blk_sl] at hs ⊢; omega) | (simp; done))))
            obtain ⟨H177, e177, P177, X177, n177⟩ := F176.st 0 [AV.int IntKind.u64 ↑(rdV (List.drop 2 (List.take 10 lf)) 8), v167] (by simp) (ones_cons rfl (ones_cons k175.2.1 ones_nil))
            refine Wo.val .undef H177 (by kernel_rfl) (iop_stP (a := { b := H5.n, g := 0, o := 0 }) (v := AV.agg [AV.int IntKind.u64 ↑(rdV (List.drop 2 (List.take 10 lf)) 8), v167]) (vs := [AV.int IntKind.u64 ↑(rdV (List.drop 2 (List.take 10 lf)) 8), v167]) (by kernel_rfl) (by kernel_rfl) rfl rfl e177) ?_
            have m178 := X177.1
            replace P177 : Pt H177 H5.n (Blk.cells 0 70 [AV.int IntKind.u64 ↑(rdV (List.drop 2 (List.take 10 lf)) 8), v167] 0 false) := P177
            refine Wo.pre 1 (by kernel_rfl) ?_
            refine Wo.nil ?_
            refine Wp.ret ?_
            refine ⟨.inr rfl, (.tup [AV.agg [AV.int IntKind.u64 ↑(rdV (List.drop 2 (List.take 10 lf)) 8), v167], AV.int IntKind.i64 0]), (ret_many (res_cell (a := { b := H5.n, g := 0, o := 0 }) (by kernel_rfl) (P177.ld rfl (by kernel_rfl)) (res_tmp (by kernel_rfl) res_nil)) rfl), ?_⟩
            dsimp only
            exact ⟨_, _, _, 0, rfl, (((((((((((((((X5.trans0 X7).trans0 X33.fr).transL X41.fr).transR X51).trans X58).transR X70.fr).trans X109).transR X113).trans X115).transR X124.fr).transR X133).trans X135).transR X170.fr).trans X177).ext (by intro s hs; first | omega | (dsimp only at hs; omega) | (simp only [blk_nils, blk_sl] at hs ⊢; omega))), ((q171.fr X177 (by (first | omega | (intro s hs; omega) | (dsimp only; omega) | (intro s hs; dsimp only at hs; omega) | (simp only [blk_nils, blk_sl]; omega) | (intro s hs; simp only [blk_nils, blk_sl] at hs ⊢; omega) | (simp; done)))).mono (by omega)), (by exact itemR_4 (by omega) ‹certR _ = some _› ‹leafE _ = 0› ‹leafX _ _ = _› (by assumption))⟩
          · skip
            exact absurd (itemR_3 ‹certR _ = some _› ‹leafE _ = 0›) ‹extraX _ ≠ _›
        · skip
          have m179 := F146.bd
          have k180 := F146.parts
          have m181 := F147.1
          have m182 := F148.bd
          have k183 := F148.parts
          refine Wo.pre 3 (by kernel_rfl) ?_
          refine Wo.pre 1 (by kernel_rfl) ?_
          refine Wo.pre 1 (by kernel_rfl) ?_
          refine Wo.pre 1 (by kernel_rfl) ?_
          refine Wo.pre 1 (by kernel_rfl) ?_
          refine Wo.pre 1 (by kernel_rfl) ?_
          refine Wo.pre 1 (by kernel_rfl) ?_
          refine Wo.pre 1 (by kernel_rfl) ?_
          refine Wo.nil ?_
          refine Wp.cond true (by kernel_rfl) ?_
          refine Wp.seq ?_
          refine Wp.region ?_
          refine Wo.val (.agg [AV.int IntKind.u64 0, AV.nils]) H135 (by kernel_rfl) (iop_buildP rfl) ?_
          have F184 := (P7.fr ((((((((((X33.fr.transL X41.fr).transR X51).trans X58).transR X70.fr).trans X109).transR X113).trans X115).transR X124.fr).transR X133).trans X135) (by (first | omega | (intro s hs; omega) | (dsimp only; omega) | (intro s hs; dsimp only at hs; omega) | (simp only [blk_nils, blk_sl]; omega) | (intro s hs; simp only [blk_nils, blk_sl] at hs ⊢; omega) | (simp; done))))
          obtain ⟨H185, e185, P185, X185, n185⟩ := F184.st 0 [AV.int IntKind.u64 0, AV.nils] (by simp) (ones_cons rfl (ones_cons rfl ones_nil))
          refine Wo.val .undef H185 (by kernel_rfl) (iop_stP (a := { b := H5.n, g := 0, o := 0 }) (v := AV.agg [AV.int IntKind.u64 0, AV.nils]) (vs := [AV.int IntKind.u64 0, AV.nils]) (by kernel_rfl) (by kernel_rfl) rfl rfl e185) ?_
          have m186 := X185.1
          replace P185 : Pt H185 H5.n (Blk.cells 0 70 [AV.int IntKind.u64 0, AV.nils] 0 false) := P185
          refine Wo.pre 1 (by kernel_rfl) ?_
          refine Wo.nil ?_
          refine Wp.ret ?_
          refine ⟨.inr rfl, (.tup [AV.agg [AV.int IntKind.u64 0, AV.nils], AV.int IntKind.i64 5]), (ret_many (res_cell (a := { b := H5.n, g := 0, o := 0 }) (by kernel_rfl) (P185.ld rfl (by kernel_rfl)) (res_tmp (by kernel_rfl) res_nil)) rfl), ?_⟩
          dsimp only
          exact ⟨0, .nils, [], 5, rfl, ((((((((((((((X5.trans0 X7).trans0 X33.fr).transL X41.fr).transR X51).trans X58).transR X70.fr).trans X109).transR X113).trans X115).transR X124.fr).transR X133).trans X135).trans X185).ext (by intro s hs; first | omega | (dsimp only at hs; omega) | (simp only [blk_nils, blk_sl] at hs ⊢; omega))), OwnCh.none, (by exact itemR_2 (by omega) ‹certR _ = some _› ‹leafE _ = 0› ‹leafX _ _ ≠ _›)⟩
      · skip
        have m187 := F104.bd
        have k188 := F104.parts
        have m189 := P113.1
        have m190 := P115.1
        have m191 := F117.bd
        have k192 := F117.parts
        have m193 := P133.1
        have m194 := P135.1
        refine Wo.pre 2 (by kernel_rfl) ?_
        refine Wo.pre 1 (by kernel_rfl) ?_
        refine Wo.pre 1 (by kernel_rfl) ?_
        refine Wo.pre 1 (by kernel_rfl) ?_
        refine Wo.pre 1 (by kernel_rfl) ?_
        refine Wo.pre 1 (by kernel_rfl) ?_
        refine Wo.pre 1 (by kernel_rfl) ?_
        refine Wo.pre 3 (by kernel_rfl) ?_
        refine Wo.pre 1 (by kernel_rfl) ?_
        refine Wo.pre 1 (by kernel_rfl) ?_
        refine Wo.pre 1 (by kernel_rfl) ?_
        refine Wo.pre 1 (by kernel_rfl) ?_
        refine Wo.pre 1 (by kernel_rfl) ?_
        refine Wo.pre 1 (by kernel_rfl) ?_
        refine Wo.pre 1 (by kernel_rfl) ?_
        refine Wo.nil ?_
        refine Wp.cond true (by kernel_rfl) ?_
        refine Wp.seq ?_
        refine Wp.region ?_
        refine Wo.val (.agg [AV.int IntKind.u64 0, AV.nils]) H135 (by kernel_rfl) (iop_buildP rfl) ?_
        have F195 := (P7.fr ((((((((((X33.fr.transL X41.fr).transR X51).trans X58).transR X70.fr).trans X109).transR X113).trans X115).transR X124.fr).transR X133).trans X135) (by (first | omega | (intro s hs; omega) | (dsimp only; omega) | (intro s hs; dsimp only at hs; omega) | (simp only [blk_nils, blk_sl]; omega) | (intro s hs; simp only [blk_nils, blk_sl] at hs ⊢; omega) | (simp; done))))
        obtain ⟨H196, e196, P196, X196, n196⟩ := F195.st 0 [AV.int IntKind.u64 0, AV.nils] (by simp) (ones_cons rfl (ones_cons rfl ones_nil))
        refine Wo.val .undef H196 (by kernel_rfl) (iop_stP (a := { b := H5.n, g := 0, o := 0 }) (v := AV.agg [AV.int IntKind.u64 0, AV.nils]) (vs := [AV.int IntKind.u64 0, AV.nils]) (by kernel_rfl) (by kernel_rfl) rfl rfl e196) ?_
        have m197 := X196.1
        replace P196 : Pt H196 H5.n (Blk.cells 0 70 [AV.int IntKind.u64 0, AV.nils] 0 false) := P196
        refine Wo.pre 1 (by kernel_rfl) ?_
        refine Wo.nil ?_
        refine Wp.ret ?_
        refine ⟨.inr rfl, (.tup [AV.agg [AV.int IntKind.u64 0, AV.nils], AV.int IntKind.i64 5]), (ret_many (res_cell (a := { b := H5.n, g := 0, o := 0 }) (by kernel_rfl) (P196.ld rfl (by kernel_rfl)) (res_tmp (by kernel_rfl) res_nil)) rfl), ?_⟩
        dsimp only
        exact ⟨0, .nils, [], 5, rfl, ((((((((((((((X5.trans0 X7).trans0 X33.fr).transL X41.fr).transR X51).trans X58).transR X70.fr).trans X109).transR X113).trans X115).transR X124.fr).transR X133).trans X135).trans X196).ext (by intro s hs; first | omega | (dsimp only at hs; omega) | (simp only [blk_nils, blk_sl] at hs ⊢; omega))), OwnCh.none, (by exact itemR_1 (by omega) ‹certR _ = some _› ‹¬ leafE _ = 0›)⟩
end Go.Det

/- Rows are spoiled: within a range of blocks. -/
set_option linter.unusedVariables false
set_option linter.unusedSimpArgs false
set_option linter.unusedSectionVars false
namespace Go.Det
open Go.Proofs
attribute [local irreducible] Wp Wo Wd iop ev slots quiets wanted put

/-- Rows of bytes between lo and hi may be other bytes; all else stands. -/
def SpoiltI (lo hi : Nat) (h h' : H) : Prop := h'.n = h.n ∧ ∀ b, (b < lo ∨ hi ≤ b ∨ ∀ g c, h.get b ≠ some (.cells g 5 c 0 false)) → h'.get b = h.get b

theorem spoilI_step {h0 h : H} {lo hi : Nat} {rs : List (AV × List UInt8)} {p : AV × List UInt8} {l' : List UInt8} (hS : SpoiltI lo hi h0 h) (hr : ∀ p ∈ rs, ∃ l', l'.length = p.2.length ∧ Ow lo h p.1 l') (hl : l'.length = p.2.length) (hbk : Go.Det.blk p.1 ≤ hi) (ho : Ow lo h p.1 l') :
    ∃ blk g, (l'.length = 0 ∨ ((∃ cc, p.1 = .sl ⟨blk, g, 0⟩ l'.length cc) ∧ ∃ r : List UInt8, r.length = l'.length ∧ h.get blk = some (.cells g 5 (bytesAV r) 0 false))) ∧
      ∀ h1 : H, h1.n = h.n → (∀ b, b ≠ blk → h1.get b = h.get b) → (l'.length = 0 ∨ ∃ r : List UInt8, r.length = l'.length ∧ h1.get blk = some (.cells g 5 (bytesAV r) 0 false)) → (l'.length = 0 → h1 = h) → SpoiltI lo hi h0 h1 ∧ ∀ p ∈ rs, ∃ l', l'.length = p.2.length ∧ Ow lo h1 p.1 l' := by
  by_cases hz : l'.length = 0
  · exact ⟨0, 0, .inl hz, fun h1 _ _ _ e => by rw [e hz]; exact ⟨hS, hr⟩⟩
  · rcases ho with ⟨_, rfl⟩ | ⟨b, g, h1, h2, h3, h4⟩
    · exact absurd rfl hz
    refine ⟨b, g, .inr ⟨by rcases h4 with e | e <;> exact ⟨_, e⟩, l', rfl, h3⟩, fun k e1 e2 e3 e4 => ?_⟩
    obtain ⟨r, hr1, hr2⟩ := e3.resolve_left hz
    refine ⟨⟨by rw [e1]; exact hS.1, fun c hc => ?_⟩, fun q hq => ?_⟩
    · by_cases hcb : c = b
      · subst hcb
        rcases hc with hc | hc | hc
        · omega
        · rcases h4 with e | e <;> (rw [e] at hbk; simp only [blk_sl] at hbk; omega)
        · exact absurd (by rw [← hS.2 c (.inr (.inr hc))]; exact h3) (hc g (bytesAV l'))
      · rw [e2 c hcb]; exact hS.2 c hc
    · obtain ⟨m, hm, oq⟩ := hr q hq
      rcases oq with h0' | ⟨c, gc, w1, w2, w3, w4⟩
      · exact ⟨m, hm, .inl h0'⟩
      · by_cases hcb : c = b
        · subst hcb
          have e5 := h3.symm.trans w3
          simp only [Option.some.injEq, Blk.cells.injEq, and_true, true_and] at e5
          have e6 : r.length = m.length := by
            have := congrArg List.length e5.2
            simp only [bytes_len] at this
            omega
          refine ⟨r, by omega, .inr ⟨c, gc, w1, by omega, by rw [← e5.1]; exact hr2, ?_⟩⟩
          rw [e6]; exact w4
        · exact ⟨m, hm, .inr ⟨c, gc, w1, by omega, by rw [e2 c hcb]; exact w3, w4⟩⟩

set_option maxHeartbeats 1000000 in
theorem spoilI_loop {h0 : H} {lo hi sbk sg : Nat} {cq : Cp} {rs : List (AV × List UInt8)} (hg : h0.get sbk = some (.cells sg 22 (rs.map (·.1)) 0 false)) (hlen : rs.length < 2 ^ 62) (hm : ∀ p ∈ rs, p.2.length ≤ maxRow) (hbs : ∀ p ∈ rs, Go.Det.blk p.1 ≤ hi) :
    ∀ (k i : Nat), i + k = rs.length → ∀ (h : H) (ts : List AV), SpoiltI lo hi h0 h → (∀ p ∈ rs, ∃ l', l'.length = p.2.length ∧ Ow lo h p.1 l') → ts.length = 24 → getL ts 5 = some (.sl ⟨sbk, sg, 0⟩ rs.length cq) → getL ts 6 = some (.int .i64 rs.length) → getL ts 7 = some (.int .i64 i) →
      ∀ (Q : Ex → St → Prop), (∀ ts' h', ts'.length = 24 → SpoiltI lo hi h0 h' → Q (.exit 0) (ts', h')) → Wp TF (.loop l53_2) (ts, h) Q := by
  intro k
  induction k with
  | zero =>
    intro i hi h ts hS hr t0 t5 t6 t7 Q hQ
    obtain rfl : i = rs.length := by omega
    refine Wp.loop ?_
    rw [laid_eq t0 [(5, .sl ⟨sbk, sg, 0⟩ rs.length cq), (6, .int .i64 rs.length), (7, .int .i64 rs.length)] (by simp [t5, t6, t7])]
    unfold l53_2
    refine Wp.seq ?_
    refine Wp.region ?_
    refine Wo.val (.bool false) h (by kernel_rfl) (iop_cmp (op := .lss) (k := .i64) (a := rs.length) (b := rs.length) false (by kernel_rfl) (by kernel_rfl) (by simp) (by simp [binInt])) ?_
    refine Wo.nil ?_
    refine Wp.seq ?_
    refine Wp.cond false (by kernel_rfl) ?_
    exact Wp.exit (hQ _ _ (by kernel_rfl) hS)
  | succ k ih =>
    intro i hi h ts hS hr t0 t5 t6 t7 Q hQ
    have hlt : i < rs.length := by omega
    obtain ⟨p, hp⟩ : ∃ p, rs[i]? = some p := ⟨rs[i], List.getElem?_eq_getElem hlt⟩
    obtain ⟨l', hl', ho⟩ := hr p (List.mem_of_getElem? hp)
    have hpm := hm p (List.mem_of_getElem? hp)
    have hgh : h.get sbk = some (.cells sg 22 (rs.map (·.1)) 0 false) := by rw [hS.2 sbk (.inr (.inr (fun g c e => by rw [hg] at e; simp at e)))]; exact hg
    have hld : h.ldg ⟨sbk, sg, 0 + i * 1⟩ none = some p.1 := by simp [H.ldg, H.ld, H.row, hgh, getL_eq, hp]
    have hmx : maxRow < 2 ^ 62 := by decide
    have wi : IntKind.i64.wrap ((i : Int) + 1) = ((i + 1 : Nat) : Int) := by rw [i64_fit _ (by omega)]; omega
    refine Wp.loop ?_
    rw [laid_eq t0 [(5, .sl ⟨sbk, sg, 0⟩ rs.length cq), (6, .int .i64 rs.length), (7, .int .i64 i)] (by simp [t5, t6, t7])]
    unfold l53_2
    refine Wp.seq ?_
    refine Wp.region ?_
    refine Wo.val (.bool true) h (by kernel_rfl) (iop_cmp (op := .lss) (k := .i64) (a := i) (b := rs.length) true (by kernel_rfl) (by kernel_rfl) (by simp) (by simp [binInt]; omega)) ?_
    refine Wo.nil ?_
    refine Wp.seq ?_
    refine Wp.cond true (by kernel_rfl) ?_
    refine Wp.skip ?_
    refine Wp.seq ?_
    refine Wp.block ?_
    refine Wp.seq ?_
    refine Wp.region ?_
    refine Wo.val _ h (by kernel_rfl) (iop_ia (a := ⟨sbk, sg, 0⟩) (n := rs.length) (c := cq) (i := i) (by kernel_rfl) (by kernel_rfl) hlt) ?_
    refine Wo.val p.1 h (by kernel_rfl) (iop_ld (a := ⟨sbk, sg, 0 + i * 1⟩) (by kernel_rfl) hld) ?_
    refine Wo.pre 1 (by kernel_rfl) ?_
    refine Wo.nil ?_
    refine Wp.seq ?_
    refine Wp.region ?_
    refine Wo.pre 1 (by kernel_rfl) ?_
    refine Wo.val (.int .i64 l'.length) h (by kernel_rfl) ((ho.bs.len (by kernel_rfl))) ?_
    refine Wo.pre 1 (by kernel_rfl) ?_
    refine Wo.nil ?_
    refine Wp.block ?_
    obtain ⟨blk, g, hsx, hst⟩ := spoilI_step hS hr hl' (hbs p (List.mem_of_getElem? hp)) ho
    refine spoil53_1 (n := l'.length) (by omega) l'.length 0 (by omega) h _ p.1 (by kernel_rfl) (by kernel_rfl) (by kernel_rfl) (by kernel_rfl) hsx _ ?_
    intro ts1 h1 g0 g1 g2 g3 g4 g5
    obtain ⟨hS1, hr1⟩ := hst h1 g2 g3 g4 g5
    rw [laid_eq g0 [(5, .sl ⟨sbk, sg, 0⟩ rs.length cq), (6, .int .i64 rs.length), (7, .int .i64 i)] (by intro p hp; simp only [List.mem_cons, List.not_mem_nil, or_false] at hp; rcases hp with rfl | rfl | rfl <;> (rw [g1 _ (by show _ < _; omega) (by show _ ≠ _; omega)]; kernel_rfl))]
    refine Wp.region ?_
    refine Wo.pre 8 (by kernel_rfl) ?_
    refine Wo.nil ?_
    refine ih (i + 1) (by omega) h1 _ hS1 hr1 (by kernel_rfl) (by kernel_rfl) (by kernel_rfl) (by rw [← wi]; kernel_rfl) Q hQ


/-- A chain of its own, its blocks between two numbers. -/
structure OwI (lo hi : Nat) (h : H) (v : AV) (ys : List (AV × List UInt8)) : Prop where
  k : OwnK lo h v ys
  hi : Go.Det.blk v ≤ hi ∧ ∀ p ∈ ys, Go.Det.blk p.1 ≤ hi
theorem OwI.of {lo : Nat} {h : H} {v : AV} {ys : List (AV × List UInt8)} (o : OwnK lo h v ys) : OwI lo h.n h v ys := ⟨o, o.bd.2, fun p hp => (o.el p hp).bd.2⟩
theorem OwI.ch {lo hi : Nat} {h : H} {v : AV} {ys : List (AV × List UInt8)} (o : OwI lo hi h v ys) : Ch h v ys := o.k.ch
theorem OwI.parts {lo hi : Nat} {h : H} {v : AV} {xs : List (AV × List UInt8)} (c : OwI lo hi h v xs) : v.cells = [v] ∧ v.one = true ∧ isStrV v = false := c.ch.parts
theorem OwI.bd {lo hi : Nat} {h : H} {v : AV} {xs : List (AV × List UInt8)} (c : OwI lo hi h v xs) : (Go.Det.blk v = 0 ∨ lo < Go.Det.blk v) ∧ Go.Det.blk v ≤ hi := ⟨c.k.bd.1, c.hi.1⟩
theorem OwI.bq {lo hi : Nat} {h : H} {v : AV} {xs : List (AV × List UInt8)} (c : OwI lo hi h v xs) : Dj (Go.Det.blk v = 0 ∨ lo < Go.Det.blk v) ∧ Go.Det.blk v ≤ hi := c.bd
theorem OwI.fr {lo hi : Nat} {h h' : H} {v : AV} {ys : List (AV × List UInt8)} (o : OwI lo hi h v ys) {S : Nat → Prop} (x : Fr S h h') (hs : ∀ s, S s → s ≤ lo ∨ hi < s ∨ h.n < s) : OwI lo hi h' v ys := by
  refine ⟨⟨?_, fun p hp => ?_⟩, o.hi⟩
  · have hv := o.hi.1
    refine o.k.row.imp id ?_
    rintro ⟨b, g, c, h1, h2, h3, rfl, h4⟩
    have := x.1
    exact ⟨b, g, c, h1, by omega, by rw [x.2 b h2 (fun e => by have := hs _ e; simp only [blk_sl] at hv; omega)]; exact h3, rfl, h4⟩
  · have h1 := o.k.el p hp
    have h2 := h1.bd
    have h3 := o.hi.2 p hp
    exact h1.fr x (by
      by_cases h0 : Go.Det.blk p.1 = 0
      · exact .inl h0
      · exact .inr (fun e => by have := hs _ e; omega))

theorem spoilk_run {h : H} {lo hi : Nat} {z : AV} {rs : List (AV × List UInt8)} (o : OwI lo hi h z rs) (hlen : rs.length < 2 ^ 62) (hm : ∀ p ∈ rs, p.2.length ≤ maxRow) :
    ∃ r h', Runs TF 53 [z] h r h' ∧ r = .tup [] ∧ Fr (fun s => lo < s ∧ s ≤ hi) h h' := by
  refine Runs.ofP f53 rfl ?_
  rcases o.k.row with ⟨rfl, e⟩ | ⟨b, g, c, h1, h2, h3, rfl, h4⟩
  · have m1 := o.bd
    have k2 := o.parts
    refine Wp.seq ?_
    refine Wp.region ?_
    refine Wo.pre 3 (by kernel_rfl) ?_
    refine Wo.nil ?_
    refine Wp.block ?_
    refine Wp.loop ?_
    refine Wp.seq ?_
    refine Wp.region ?_
    refine Wo.pre 1 (by kernel_rfl) ?_
    refine Wo.nil ?_
    refine Wp.seq ?_
    refine Wp.cond false (by kernel_rfl) ?_
    refine Wp.exit ?_
    refine ⟨.inl rfl, (.tup []), rfl, ?_⟩
    dsimp only
    exact ⟨rfl, Fr.mono (Fr.refl _) (by simp)⟩
  · rw [List.length_map]
    refine Wp.seq (Wp.region (Wo.pre 3 (by kernel_rfl) (Wo.nil (Wp.block ?_))))
    refine spoilI_loop (hi := hi) (cq := c) h3 hlen hm o.hi.2 rs.length 0 (by omega) h _ ⟨rfl, fun _ _ => rfl⟩ (fun p hp => ⟨p.2, rfl, o.k.el p hp⟩) (by kernel_rfl) (by kernel_rfl) (by kernel_rfl) (by kernel_rfl) _ ?_
    intro ts' h' t0 hS
    exact ⟨.inl rfl, _, rfl, rfl, by rw [hS.1]; exact Nat.le_refl _, fun k hk hs => hS.2 k (by omega)⟩

/-! The contracts, told so -/
theorem takerecI {h : H} {y : AV} {l : List UInt8} (hy : Bs h y l) (hl : l.length ≤ maxRow) : ∃ r h', Runs TF 54 [y] h r h' ∧ ∃ t z ps E, r = .tup [entV t z, .int .i64 E] ∧ Ext h h' ∧ OwI h.n h'.n h' z ps ∧ recOf l = (t, says ps, E) := by
  obtain ⟨r, h', c, t, z, ps, E, e, x, o, q⟩ := takerec_run hy hl
  exact ⟨r, h', c, t, z, ps, E, e, x, OwI.of o.k, q⟩
theorem rtakerecI {h : H} {y : AV} {l : List UInt8} (hy : Bs h y l) (hok : Cok y) (hl : l.length ≤ maxRow) : ∃ r h', Runs TF 55 [y] h r h' ∧ ∃ t z ps E, r = .tup [entV t z, .int .i64 E] ∧ Ext h h' ∧ OwI h.n h'.n h' z ps ∧ recOf l = (t, says ps, E) := by
  obtain ⟨r, h', c, t, z, ps, E, e, x, o, q⟩ := rtakerec_run hy hok hl
  exact ⟨r, h', c, t, z, ps, E, e, x, OwI.of o.k, q⟩
theorem takeitemI {h : H} {y x : AV} {lf ex : List UInt8} (hy : Bs h y lf) (hx : Bs h x ex) (hl : lf.length ≤ maxRow) (hl2 : ex.length ≤ maxRow) : ∃ r h', Runs TF 56 [itemV y x] h r h' ∧ ∃ t z ps E, r = .tup [entV t z, .int .i64 E] ∧ Ext h h' ∧ OwI h.n h'.n h' z ps ∧ itemOf lf ex = (t, says ps, E) := by
  obtain ⟨r, h', c, t, z, ps, E, e, x, o, q⟩ := takeitem_run hy hx hl hl2
  exact ⟨r, h', c, t, z, ps, E, e, x, OwI.of o, q⟩
theorem rtakeitemI {h : H} {y x : AV} {lf ex : List UInt8} (hy : Bs h y lf) (hx : Bs h x ex) (oy : Cok y) (ox : Cok x) (hl : lf.length ≤ maxRow) (hl2 : ex.length ≤ maxRow) : ∃ r h', Runs TF 57 [itemV y x] h r h' ∧ ∃ t z ps E, r = .tup [entV t z, .int .i64 E] ∧ Ext h h' ∧ OwI h.n h'.n h' z ps ∧ itemOf lf ex = (t, says ps, E) := by
  obtain ⟨r, h', c, t, z, ps, E, e, x, o, q⟩ := rtakeitem_run hy hx oy ox hl hl2
  exact ⟨r, h', c, t, z, ps, E, e, x, OwI.of o.k, q⟩

end Go.Det

/- Chains as arguments. -/
set_option linter.unusedVariables false
set_option linter.unusedSimpArgs false
namespace Go.Det
open Go.Proofs

theorem flat_one {α β : Type} (f : α → β) : ∀ l : List α, (l.map fun p => [f p]).flatten = l.map f
  | [] => rfl
  | a :: l => by simp [flat_one f l]

theorem mem_fn {α : Type} {n : Nat} {f : Fin n → α} {p : α} (h : p ∈ List.ofFn f) : ∃ j, f j = p := by
  obtain ⟨i, hi, e⟩ := List.getElem_of_mem h
  exact ⟨⟨i, by simpa using hi⟩, by simpa using e⟩

theorem chain_of {h : H} {xs : List (List Int)} {v : AV} (hk : KSl (KSl (KInt .u8) 1) 1 h xs [v]) (hw : ∀ x ∈ xs, ∀ n ∈ x, IntKind.u8.min ≤ n ∧ n ≤ IntKind.u8.max) :
    ∃ ps : List (AV × List UInt8), Ch h v ps ∧ ps.length = xs.length ∧ ∀ p ∈ ps, ∃ x ∈ xs, p.2.length = x.length := by
  obtain ⟨v', e, hv⟩ := hk
  simp only [List.cons.injEq, and_true] at e
  subst e
  rcases hv with ⟨rfl, rfl⟩ | ⟨a, c, rfl, h1, h2, cc, h3, h4, h5⟩
  · exact ⟨[], ⟨.inl ⟨rfl, rfl⟩, fun p hp => by simp at hp, fun a m c e => by cases e⟩, rfl, fun p hp => by simp at hp⟩
  · have key : ∀ j : Fin xs.length, ∃ p : AV × List UInt8, cc[j.1]? = some [p.1] ∧ Bs h p.1 p.2 ∧ Cok p.1 ∧ ∃ x ∈ xs, p.2.length = x.length := by
      intro j
      have hj : xs[j.1]? = some xs[j.1] := List.getElem?_eq_getElem j.2
      obtain ⟨cs, hc, hl⟩ := h5 j.1 _ hj
      obtain ⟨x, b, rfl, hB, hbl, hcap⟩ := hl.bytes (hw _ (List.mem_of_getElem? hj))
      exact ⟨(x, b), hc, hB, fun a m c e => .inl (hcap a m c e), _, List.mem_of_getElem? hj, hbl⟩
    obtain ⟨f, hf⟩ := Classical.axiomOfChoice key
    have e1 : cc = (List.ofFn f).map fun p => [p.1] := by
      apply List.ext_getElem?
      intro i
      by_cases hi : i < xs.length
      · rw [(hf ⟨i, hi⟩).1]; simp [hi]
      · rw [List.getElem?_eq_none (by omega), List.getElem?_eq_none (by simp; omega)]
    refine ⟨List.ofFn f, ⟨.inr ⟨a, .ex c, by rw [List.length_ofFn], h2, ?_⟩, fun p hp => ?_, fun a m c' e => ?_⟩, List.length_ofFn, fun p hp => ?_⟩
    · rw [List.length_ofFn, ← flat_one (fun p : AV × List UInt8 => p.1), ← e1]
      rw [Nat.mul_one] at h3
      exact h3
    · obtain ⟨j, rfl⟩ := mem_fn hp
      exact ⟨(hf j).2.1, (hf j).2.2.1⟩
    · simp only [AV.sl.injEq] at e
      exact .inl ⟨c, e.2.2.symm, by omega⟩
    · obtain ⟨j, rfl⟩ := mem_fn hp
      exact (hf j).2.2.2
end Go.Det

/- The law EntryTakes, walked. -/
set_option linter.unusedVariables false
set_option linter.unusedSimpArgs false
set_option linter.unusedSectionVars false
namespace Go.Det
open Go.Proofs
attribute [local irreducible] Wp Wo Wd iop ev slots quiets wanted put

/-- No bytes, written out, are a row of their own. -/
theorem Pt.ow0 {h : H} {b : Nat} (p : Pt h b (.cells 0 5 [] 0 false)) : Ow b h (.sl ⟨b, 0, 0⟩ 0 (.ex 0)) [] := .inr ⟨b, 0, Nat.le_refl _, p.1, p.2, .inr rfl⟩

theorem app5_lit {h : H} {b : Nat} {y : AV} {l : List UInt8} (p : Pt h b (.cells 0 5 [] 0 false)) (hy : Bs h y l) (hl : l.length ≤ maxRow) :
    ∃ v h', append h 5 1 1 (.sl ⟨b, 0, 0⟩ 0 (.ex 0)) y = some (.val v h') ∧ Ow b h' v l ∧ Fr No h h' ∧ Dj (Go.Det.blk v = b + 1 ∨ h.n < Go.Det.blk v) := by
  have hmr : maxRow ≤ 9223372036854775807 := by unfold maxRow; omega
  have hp := p.1
  unfold append
  rw [hy.src]
  simp only []
  by_cases hm : l = []
  · subst hm
    exact ⟨.sl ⟨b, 0, 0⟩ 0 (.ex 0), h, by simp, p.ow0, Fr.refl _, .inl rfl⟩
  · have hm0 : l.length ≠ 0 := by simpa using hm
    have hm1 : 0 < 0 + l.length := by omega
    have hld : h.ldn ⟨b, 0, 0⟩ (0 * 1) = some [] := by
      unfold H.ldn H.row
      simp only [p.2, BEq.rfl, Bool.not_false, Bool.true_or, Bool.and_self, if_true]
      rfl
    rw [if_neg (by simpa using hm0), if_neg (by simp [bytes_one]; omega), if_pos hm1, hld]
    exact ⟨_, _, rfl, .inr ⟨h.n, 0, by omega, by simp, by rw [h.get_new]; rfl, .inl (by simp)⟩, (Ext.new h _).fr, .inr (by simp [blk_sl])⟩

theorem rec_few {l : List UInt8} {t : Nat} {ps : List (AV × List UInt8)} {E : Int} (h : recOf l = (t, says ps, E)) : ps.length ≤ 4 ∧ (∀ p ∈ ps, p.2.length ≤ 512) := by
  have hs : ∀ {cs : List (List UInt8)}, cs = says ps → (mayS cs = true ∨ cs = []) → ps.length ≤ 4 ∧ (∀ p ∈ ps, p.2.length ≤ 512) := by
    rintro cs rfl (hm | hm)
    · obtain ⟨_, h2, h3⟩ := mayS_small hm
      rw [says_len] at h2
      exact ⟨h2, fun p hp => (h3 p.2 (List.mem_map_of_mem hp)).2⟩
    · have : ps = [] := by simpa [says] using hm
      subst this
      exact ⟨by simp, fun p hp => by simp at hp⟩
  rcases rec_dec h with ⟨_, h1, _⟩ | ⟨_, _, h1⟩
  · exact hs rfl (.inl h1)
  · exact hs rfl (.inr h1)
theorem item_few {lf ex : List UInt8} {t : Nat} {ps : List (AV × List UInt8)} {E : Int} (h : itemOf lf ex = (t, says ps, E)) : ps.length ≤ 4 ∧ (∀ p ∈ ps, p.2.length ≤ 512) := by
  have hs : ∀ {cs : List (List UInt8)}, cs = says ps → (mayS cs = true ∨ cs = []) → ps.length ≤ 4 ∧ (∀ p ∈ ps, p.2.length ≤ 512) := by
    rintro cs rfl (hm | hm)
    · obtain ⟨_, h2, h3⟩ := mayS_small hm
      rw [says_len] at h2
      exact ⟨h2, fun p hp => (h3 p.2 (List.mem_map_of_mem hp)).2⟩
    · have : ps = [] := by simpa [says] using hm
      subst this
      exact ⟨by simp, fun p hp => by simp at hp⟩
  rcases item_dec h with ⟨_, h1, _⟩ | ⟨_, _, h1⟩
  · exact hs rfl (.inl h1)
  · exact hs rfl (.inr h1)
theorem rec_one {l : List UInt8} {t t' : Nat} {ps qs : List (AV × List UInt8)} {E E' : Int} (h : recOf l = (t, says ps, E)) (h' : recOf l = (t', says qs, E')) : E = E' ∧ sameE t ps t' qs = true := by
  rw [h] at h'
  simp only [Prod.mk.injEq] at h'
  exact ⟨h'.2.2, by simp [sameE, h'.1, h'.2.1]⟩
theorem item_one {lf ex : List UInt8} {t t' : Nat} {ps qs : List (AV × List UInt8)} {E E' : Int} (h : itemOf lf ex = (t, says ps, E)) (h' : itemOf lf ex = (t', says qs, E')) : E = E' ∧ sameE t ps t' qs = true := by
  rw [h] at h'
  simp only [Prod.mk.injEq] at h'
  exact ⟨h'.2.2, by simp [sameE, h'.1, h'.2.1]⟩

attribute [local irreducible] recOf itemOf sameE
set_option maxHeartbeats 16000000 in
theorem takes_run {h : H} {v y x : AV} {l lf ex : List UInt8} (hv : Bs h v l) (hy : Bs h y lf) (hx : Bs h x ex) (ov : Cok v) (oy : Cok y) (ox : Cok x) (hl : l.length ≤ maxRow) (hl1 : lf.length ≤ maxRow) (hl2 : ex.length ≤ maxRow) : ∃ r h', Runs TF 11 [v, itemV y x] h r h' ∧ r = .bool true := by
  refine Runs.ofP f11 rfl ?_
  have hmx : 200000000000000 = maxRow := rfl
  have m1 := hv.bq
  have k2 := hv.parts
  have m3 := hy.bq
  have k4 := hy.parts
  have m5 := hx.bq
  have k6 := hx.parts
  refine Wp.seq ?_
  refine Wp.region ?_
  obtain ⟨H7, e7, P7, X7, n7⟩ := pt_new h 78 [y, x] (ones_cons k4.2.1 (ones_cons k6.2.1 ones_nil))
  refine Wo.val (.ptr ⟨H.n h, 0, 0⟩) H7 (by kernel_rfl) (e7 (v := AV.agg [y, x]) (by kernel_rfl) rfl) ?_
  clear e7
  have m8 := X7.1
  refine Wo.pre 1 (by kernel_rfl) ?_
  refine Wo.nil ?_
  refine Wp.seq ?_
  refine Wp.region ?_
  obtain ⟨H9, e9, P9, X9, n9⟩ := bsl_new H7 5 [] ones_nil
  refine Wo.val (.sl ⟨H.n H7, 0, 0⟩ 0 (.ex 0)) H9 (by kernel_rfl) (e9 rfl) ?_
  clear e9
  have m10 := X9.1
  refine Wo.pre 1 (by kernel_rfl) ?_
  have F11 := (hv.fr (X7.trans0 X9) (.inr id))
  obtain ⟨v12, H13, a14, q15, X16, q17⟩ := app5_lit P9 F11 hl
  refine Wo.val _ _ (by kernel_rfl) (iop_appG (v := AV.sl { b := H7.n, g := 0, o := 0 } 0 (Cp.ex 0)) (w := v) (by kernel_rfl) (by kernel_rfl) k2.2.2 a14) ?_
  have m18 := q15.bq
  have k19 := q15.parts
  have m20 := X16.1
  refine Wo.pre 1 (by kernel_rfl) ?_
  refine Wo.nil ?_
  refine Wp.seq ?_
  refine Wp.draw ?_
  obtain ⟨H21, e21, P21, X21, n21⟩ := bsl_new H13 5 [] ones_nil
  refine Wd.make (.sl ⟨H.n H13, 0, 0⟩ 0 (.ex 0)) H21 (by kernel_rfl) (by kernel_rfl) (e21 rfl) ?_
  clear e21
  have m22 := X21.1
  refine Wd.pure (by kernel_rfl) (by kernel_rfl) ?_
  have F23 := (P7.fr ((X9.trans0 X16).trans0 X21) id)
  refine Wd.read (y) (.ld none (.c (.ptr { b := h.n, g := 0, o := 0 }))) (by kernel_rfl) (by kernel_rfl) (iop_ldP F23 (a := { b := h.n, g := 0, o := 0 }) (by kernel_rfl) rfl (by kernel_rfl)) ?_
  obtain ⟨H24, e24, P24, X24, n24⟩ := bsl_new H21 5 [] ones_nil
  refine Wd.make (.sl ⟨H.n H21, 0, 0⟩ 0 (.ex 0)) H24 (by kernel_rfl) (by kernel_rfl) (e24 rfl) ?_
  clear e24
  have m25 := X24.1
  refine Wd.pure (by kernel_rfl) (by kernel_rfl) ?_
  have F26 := (F23.fr X24 id)
  refine Wd.read (x) (.ld none (.c (.ptr { b := h.n, g := 0, o := 1 }))) (by kernel_rfl) (by kernel_rfl) (iop_ldP F26 (a := { b := h.n, g := 0, o := 1 }) (by kernel_rfl) rfl (by kernel_rfl)) ?_
  obtain ⟨H27, e27, P27, X27, n27⟩ := pt_new H24 78 [AV.nils, AV.nils] (ones_cons rfl (ones_cons rfl ones_nil))
  refine Wd.make (.ptr ⟨H.n H24, 0, 0⟩) H27 (by kernel_rfl) (by kernel_rfl) (e27 (v := AV.agg [AV.nils, AV.nils]) (by kernel_rfl) rfl) ?_
  clear e27
  have m28 := X27.1
  have F29 := (F26.fr X27 id)
  have F30 := (P21.fr (X24.trans0 X27) id)
  have F31 := (hy.fr (((((X7.trans0 X9).trans0 X16).trans0 X21).trans0 X24).trans0 X27) (.inr id))
  obtain ⟨v32, H33, a34, q35, X36, q37⟩ := app5_lit F30 F31 hl1
  refine Wd.act _ _ (by kernel_rfl) (iop_appG (v := AV.sl { b := H13.n, g := 0, o := 0 } 0 (Cp.ex 0)) (w := y) (by kernel_rfl) (by kernel_rfl) k4.2.2 a34) (holds_of [(IOp.ld none (IX.c (AV.ptr { b := h.n, g := 0, o := 1 })), x, 6), (IOp.ld none (IX.c (AV.ptr { b := h.n, g := 0, o := 0 })), y, 2)] (by kernel_rfl) (holds_and (rd_ldP F29 rfl (by kernel_rfl)) (holds_and (rd_ldP F29 rfl (by kernel_rfl)) rfl))) ?_
  have m38 := q35.bq
  have k39 := q35.parts
  have m40 := X36.1
  have F41 := (F29.fr X36 id)
  have F42 := (P24.fr (X27.trans0 X36) id)
  have F43 := (hx.fr ((((((X7.trans0 X9).trans0 X16).trans0 X21).trans0 X24).trans0 X27).trans0 X36) (.inr id))
  obtain ⟨v44, H45, a46, q47, X48, q49⟩ := app5_lit F42 F43 hl2
  refine Wd.act _ _ (by kernel_rfl) (iop_appG (v := AV.sl { b := H21.n, g := 0, o := 0 } 0 (Cp.ex 0)) (w := x) (by kernel_rfl) (by kernel_rfl) k6.2.2 a46) (holds_of [(IOp.ld none (IX.c (AV.ptr { b := h.n, g := 0, o := 1 })), x, 6)] (by kernel_rfl) (holds_and (rd_ldP F41 rfl (by kernel_rfl)) rfl)) ?_
  have m50 := q47.bq
  have k51 := q47.parts
  have m52 := X48.1
  refine Wd.make (.agg [v32, v44]) H45 (by kernel_rfl) (by kernel_rfl) (iop_buildP (fill_cons (v := v32) (vs := [v32]) (by kernel_rfl) k39.1 (by kernel_rfl) (fill_cons (v := v44) (vs := [v44]) (by kernel_rfl) k51.1 (by kernel_rfl) rfl))) ?_
  have F53 := (P27.fr (X36.trans0 X48) id)
  obtain ⟨H54, e54, P54, X54, n54⟩ := F53.st 0 [v32, v44] (by simp) (ones_cons k39.2.1 (ones_cons k51.2.1 ones_nil))
  refine Wd.act .undef H54 (by kernel_rfl) (iop_stP (a := { b := H24.n, g := 0, o := 0 }) (v := AV.agg [v32, v44]) (vs := [v32, v44]) (by kernel_rfl) (by kernel_rfl) rfl rfl e54) (holds_of [] (by kernel_rfl) rfl) ?_
  have m55 := X54.1
  replace P54 : Pt H54 H24.n (Blk.cells 0 78 [v32, v44] 0 false) := P54
  refine Wd.done (holds_of [] (by kernel_rfl) rfl) ?_
  refine Wp.seq ?_
  refine Wp.region ?_
  refine Wo.pre 1 (by kernel_rfl) ?_
  have F56 := (q15.fr (((((X21.trans0 X24).trans0 X27).trans0 X36).trans0 X48).transL X54) (by have d0 := q17.e; have d1 := m18.1.e; (first | omega | (intro s hs; omega) | (dsimp only; omega) | (intro s hs; dsimp only at hs; omega) | (simp only [blk_nils, blk_sl]; omega) | (intro s hs; simp only [blk_nils, blk_sl] at hs ⊢; omega) | (simp; done))))
  obtain ⟨r57, H58, c59, t60, z61, ps62, E63, rfl, X65, q66, q67⟩ := takerecI F56.bs hl
  have m68 := X65.1
  have m69 := q66.bq
  have k70 := q66.parts
  refine Wo.call (by kernel_rfl) (by kernel_rfl) c59 ?_
  clear c59
  refine Wo.pre 3 (by kernel_rfl) ?_
  obtain ⟨H71, e71, P71, X71, n71⟩ := pt_new H58 70 [AV.int IntKind.u64 0, AV.nils] (ones_cons rfl (ones_cons rfl ones_nil))
  refine Wo.val (.ptr ⟨H.n H58, 0, 0⟩) H71 (by kernel_rfl) (e71 (v := AV.agg [AV.int IntKind.u64 0, AV.nils]) (by kernel_rfl) rfl) ?_
  clear e71
  have m72 := X71.1
  obtain ⟨H73, e73, P73, X73, n73⟩ := P71.st 0 [AV.int IntKind.u64 ↑t60, z61] (by simp) (ones_cons rfl (ones_cons k70.2.1 ones_nil))
  refine Wo.val .undef H73 (by kernel_rfl) (iop_stP (a := { b := H58.n, g := 0, o := 0 }) (v := AV.agg [AV.int IntKind.u64 ↑t60, z61]) (vs := [AV.int IntKind.u64 ↑t60, z61]) (by kernel_rfl) (by kernel_rfl) rfl rfl e73) ?_
  have m74 := X73.1
  replace P73 : Pt H73 H58.n (Blk.cells 0 70 [AV.int IntKind.u64 ↑t60, z61] 0 false) := P73
  refine Wo.pre 1 (by kernel_rfl) ?_
  refine Wo.nil ?_
  refine Wp.seq ?_
  refine Wp.region ?_
  refine Wo.pre 1 (by kernel_rfl) ?_
  have F75 := (F11.fr (((((((((X16.trans0 X21).trans0 X24).trans0 X27).trans0 X36).trans0 X48).transL X54).transR X65.fr).transR X71).trans X73) (by (first | omega | (intro s hs; omega) | (dsimp only; omega) | (intro s hs; dsimp only at hs; omega) | (simp only [blk_nils, blk_sl]; omega) | (intro s hs; simp only [blk_nils, blk_sl] at hs ⊢; omega) | (simp; done))))
  obtain ⟨r76, H77, c78, t79, z80, ps81, E82, rfl, X84, q85, q86⟩ := rtakerecI F75 ov hl
  have m87 := X84.1
  have m88 := q85.bq
  have k89 := q85.parts
  refine Wo.call (by kernel_rfl) (by kernel_rfl) c78 ?_
  clear c78
  refine Wo.pre 3 (by kernel_rfl) ?_
  obtain ⟨H90, e90, P90, X90, n90⟩ := pt_new H77 70 [AV.int IntKind.u64 0, AV.nils] (ones_cons rfl (ones_cons rfl ones_nil))
  refine Wo.val (.ptr ⟨H.n H77, 0, 0⟩) H90 (by kernel_rfl) (e90 (v := AV.agg [AV.int IntKind.u64 0, AV.nils]) (by kernel_rfl) rfl) ?_
  clear e90
  have m91 := X90.1
  obtain ⟨H92, e92, P92, X92, n92⟩ := P90.st 0 [AV.int IntKind.u64 ↑t79, z80] (by simp) (ones_cons rfl (ones_cons k89.2.1 ones_nil))
  refine Wo.val .undef H92 (by kernel_rfl) (iop_stP (a := { b := H77.n, g := 0, o := 0 }) (v := AV.agg [AV.int IntKind.u64 ↑t79, z80]) (vs := [AV.int IntKind.u64 ↑t79, z80]) (by kernel_rfl) (by kernel_rfl) rfl rfl e92) ?_
  have m93 := X92.1
  replace P92 : Pt H92 H77.n (Blk.cells 0 70 [AV.int IntKind.u64 ↑t79, z80] 0 false) := P92
  refine Wo.pre 1 (by kernel_rfl) ?_
  refine Wo.nil ?_
  refine Wp.seq ?_
  refine Wp.region ?_
  have F94 := (P54.fr (((((X65.fr.trans0 X71).transL X73).transR X84.fr).transR X90).trans X92) (by (first | omega | (intro s hs; omega) | (dsimp only; omega) | (intro s hs; dsimp only at hs; omega) | (simp only [blk_nils, blk_sl]; omega) | (intro s hs; simp only [blk_nils, blk_sl] at hs ⊢; omega) | (simp; done))))
  refine Wo.val (AV.agg [v32, v44]) H92 (by kernel_rfl) (iop_ldP F94 (a := { b := H24.n, g := 0, o := 0 }) (by kernel_rfl) rfl (by kernel_rfl)) ?_
  have F95 := (q35.fr (((((((X48.transL X54).transR X65.fr).transR X71).trans X73).transR X84.fr).transR X90).trans X92) (by have d0 := q37.e; have d1 := m38.1.e; (first | omega | (intro s hs; omega) | (dsimp only; omega) | (intro s hs; dsimp only at hs; omega) | (simp only [blk_nils, blk_sl]; omega) | (intro s hs; simp only [blk_nils, blk_sl] at hs ⊢; omega) | (simp; done))))
  have F96 := (q47.fr ((((((X54.transR X65.fr).transR X71).trans X73).transR X84.fr).transR X90).trans X92) (by have d0 := q49.e; have d1 := m50.1.e; (first | omega | (intro s hs; omega) | (dsimp only; omega) | (intro s hs; dsimp only at hs; omega) | (simp only [blk_nils, blk_sl]; omega) | (intro s hs; simp only [blk_nils, blk_sl] at hs ⊢; omega) | (simp; done))))
  obtain ⟨r97, H98, c99, t100, z101, ps102, E103, rfl, X105, q106, q107⟩ := takeitemI F95.bs F96.bs hl1 hl2
  have m108 := X105.1
  have m109 := q106.bq
  have k110 := q106.parts
  refine Wo.call (by kernel_rfl) (by kernel_rfl) c99 ?_
  clear c99
  refine Wo.pre 3 (by kernel_rfl) ?_
  obtain ⟨H111, e111, P111, X111, n111⟩ := pt_new H98 70 [AV.int IntKind.u64 0, AV.nils] (ones_cons rfl (ones_cons rfl ones_nil))
  refine Wo.val (.ptr ⟨H.n H98, 0, 0⟩) H111 (by kernel_rfl) (e111 (v := AV.agg [AV.int IntKind.u64 0, AV.nils]) (by kernel_rfl) rfl) ?_
  clear e111
  have m112 := X111.1
  obtain ⟨H113, e113, P113, X113, n113⟩ := P111.st 0 [AV.int IntKind.u64 ↑t100, z101] (by simp) (ones_cons rfl (ones_cons k110.2.1 ones_nil))
  refine Wo.val .undef H113 (by kernel_rfl) (iop_stP (a := { b := H98.n, g := 0, o := 0 }) (v := AV.agg [AV.int IntKind.u64 ↑t100, z101]) (vs := [AV.int IntKind.u64 ↑t100, z101]) (by kernel_rfl) (by kernel_rfl) rfl rfl e113) ?_
  have m114 := X113.1
  replace P113 : Pt H113 H98.n (Blk.cells 0 70 [AV.int IntKind.u64 ↑t100, z101] 0 false) := P113
  refine Wo.pre 1 (by kernel_rfl) ?_
  refine Wo.nil ?_
  refine Wp.seq ?_
  refine Wp.region ?_
  have F115 := (F41.fr ((((((((((X48.transL X54).transR X65.fr).transR X71).trans X73).transR X84.fr).transR X90).trans X92).transR X105.fr).transR X111).trans X113) (by (first | omega | (intro s hs; omega) | (dsimp only; omega) | (intro s hs; dsimp only at hs; omega) | (simp only [blk_nils, blk_sl]; omega) | (intro s hs; simp only [blk_nils, blk_sl] at hs ⊢; omega) | (simp; done))))
  refine Wo.val (AV.agg [y, x]) H113 (by kernel_rfl) (iop_ldP F115 (a := { b := h.n, g := 0, o := 0 }) (by kernel_rfl) rfl (by kernel_rfl)) ?_
  have F116 := (F31.fr (((((((((((X36.trans0 X48).transL X54).transR X65.fr).transR X71).trans X73).transR X84.fr).transR X90).trans X92).transR X105.fr).transR X111).trans X113) (by (first | omega | (intro s hs; omega) | (dsimp only; omega) | (intro s hs; dsimp only at hs; omega) | (simp only [blk_nils, blk_sl]; omega) | (intro s hs; simp only [blk_nils, blk_sl] at hs ⊢; omega) | (simp; done))))
  have F117 := (F43.fr ((((((((((X48.transL X54).transR X65.fr).transR X71).trans X73).transR X84.fr).transR X90).trans X92).transR X105.fr).transR X111).trans X113) (by (first | omega | (intro s hs; omega) | (dsimp only; omega) | (intro s hs; dsimp only at hs; omega) | (simp only [blk_nils, blk_sl]; omega) | (intro s hs; simp only [blk_nils, blk_sl] at hs ⊢; omega) | (simp; done))))
  obtain ⟨r118, H119, c120, t121, z122, ps123, E124, rfl, X126, q127, q128⟩ := rtakeitemI F116 F117 oy ox hl1 hl2
  have m129 := X126.1
  have m130 := q127.bq
  have k131 := q127.parts
  refine Wo.call (by kernel_rfl) (by kernel_rfl) c120 ?_
  clear c120
  refine Wo.pre 3 (by kernel_rfl) ?_
  obtain ⟨H132, e132, P132, X132, n132⟩ := pt_new H119 70 [AV.int IntKind.u64 0, AV.nils] (ones_cons rfl (ones_cons rfl ones_nil))
  refine Wo.val (.ptr ⟨H.n H119, 0, 0⟩) H132 (by kernel_rfl) (e132 (v := AV.agg [AV.int IntKind.u64 0, AV.nils]) (by kernel_rfl) rfl) ?_
  clear e132
  have m133 := X132.1
  obtain ⟨H134, e134, P134, X134, n134⟩ := P132.st 0 [AV.int IntKind.u64 ↑t121, z122] (by simp) (ones_cons rfl (ones_cons k131.2.1 ones_nil))
  refine Wo.val .undef H134 (by kernel_rfl) (iop_stP (a := { b := H119.n, g := 0, o := 0 }) (v := AV.agg [AV.int IntKind.u64 ↑t121, z122]) (vs := [AV.int IntKind.u64 ↑t121, z122]) (by kernel_rfl) (by kernel_rfl) rfl rfl e134) ?_
  have m135 := X134.1
  replace P134 : Pt H134 H119.n (Blk.cells 0 70 [AV.int IntKind.u64 ↑t121, z122] 0 false) := P134
  refine Wo.pre 1 (by kernel_rfl) ?_
  refine Wo.nil ?_
  refine Wp.seq ?_
  refine Wp.region ?_
  refine Wo.pre 2 (by kernel_rfl) ?_
  refine Wo.cmp (op := .eql) (x := IX.t 48) (y := IX.t 49) (k := IntKind.i64) (a := E63) (b := E82) ((E63 : Int) = (E82 : Int)) (by kernel_rfl) (by kernel_rfl) (by kernel_rfl) (by kernel_rfl) (by simp) (by kernel_rfl) (fun q136 => ?_) (fun q136 => ?_)
  · skip
    have m137 := P7.1
    have m138 := P9.1
    have m139 := F11.bq
    have k140 := F11.parts
    have m141 := P21.1
    have m142 := F23.1
    have m143 := P24.1
    have m144 := F26.1
    have m145 := P27.1
    have m146 := F29.1
    have m147 := F30.1
    have m148 := F31.bq
    have k149 := F31.parts
    have m150 := F41.1
    have m151 := F42.1
    have m152 := F43.bq
    have k153 := F43.parts
    have m154 := F53.1
    have m155 := P54.1
    have m156 := F56.bq
    have k157 := F56.parts
    have m158 := P71.1
    have m159 := P73.1
    have m160 := F75.bq
    have k161 := F75.parts
    have m162 := P90.1
    have m163 := P92.1
    have m164 := F94.1
    have m165 := F95.bq
    have k166 := F95.parts
    have m167 := F96.bq
    have k168 := F96.parts
    have m169 := P111.1
    have m170 := P113.1
    have m171 := F115.1
    have m172 := F116.bq
    have k173 := F116.parts
    have m174 := F117.bq
    have k175 := F117.parts
    have m176 := P132.1
    have m177 := P134.1
    refine Wo.pre 1 (by kernel_rfl) ?_
    have F178 := (P73.fr ((((((((X84.fr.trans0 X90).transL X92).transR X105.fr).transR X111).trans X113).transR X126.fr).transR X132).trans X134) (by (first | omega | (intro s hs; omega) | (dsimp only; omega) | (intro s hs; dsimp only at hs; omega) | (simp only [blk_nils, blk_sl]; omega) | (intro s hs; simp only [blk_nils, blk_sl] at hs ⊢; omega) | (simp; done))))
    refine Wo.val (AV.agg [AV.int IntKind.u64 ↑t60, z61]) H134 (by kernel_rfl) (iop_ldP F178 (a := { b := H58.n, g := 0, o := 0 }) (by kernel_rfl) rfl (by kernel_rfl)) ?_
    have F179 := (P92.fr (((((X105.fr.trans0 X111).transL X113).transR X126.fr).transR X132).trans X134) (by (first | omega | (intro s hs; omega) | (dsimp only; omega) | (intro s hs; dsimp only at hs; omega) | (simp only [blk_nils, blk_sl]; omega) | (intro s hs; simp only [blk_nils, blk_sl] at hs ⊢; omega) | (simp; done))))
    refine Wo.val (AV.agg [AV.int IntKind.u64 ↑t79, z80]) H134 (by kernel_rfl) (iop_ldP F179 (a := { b := H77.n, g := 0, o := 0 }) (by kernel_rfl) rfl (by kernel_rfl)) ?_
    have F180 := (q66.fr ((((((((((X71.transL X73).transR X84.fr).transR X90).trans X92).transR X105.fr).transR X111).trans X113).transR X126.fr).transR X132).trans X134) (by have d0 := m69.1.e; (first | omega | (intro s hs; omega) | (dsimp only; omega) | (intro s hs; dsimp only at hs; omega) | (simp only [blk_nils, blk_sl]; omega) | (intro s hs; simp only [blk_nils, blk_sl] at hs ⊢; omega) | (simp; done))))
    have F181 := (q85.fr (((((((X90.transL X92).transR X105.fr).transR X111).trans X113).transR X126.fr).transR X132).trans X134) (by have d0 := m88.1.e; (first | omega | (intro s hs; omega) | (dsimp only; omega) | (intro s hs; dsimp only at hs; omega) | (simp only [blk_nils, blk_sl]; omega) | (intro s hs; simp only [blk_nils, blk_sl] at hs ⊢; omega) | (simp; done))))
    obtain ⟨r182, H183, c184, rfl, X186⟩ := rsamee_run F180.ch F181.ch (by first | omega | (simp; omega) | (simp; done) | assumption | (exact Nat.lt_of_le_of_lt (rec_few (by with_reducible assumption)).1 (by decide)) | (exact Nat.lt_of_le_of_lt (item_few (by with_reducible assumption)).1 (by decide)) | ((intro p hp; have h := (rec_few (by with_reducible assumption)).2 p hp; omega)) | ((intro p hp; have h := (item_few (by with_reducible assumption)).2 p hp; omega))) (t60) (t79)
    have m187 := X186.1
    refine Wo.call (by kernel_rfl) (by kernel_rfl) c184 ?_
    clear c184
    refine Wo.boolS (fun q188 => ?_) (fun q188 => ?_)
    · skip
      have m189 := F178.1
      have m190 := F179.1
      have m191 := F180.bq
      have k192 := F180.parts
      have m193 := F181.bq
      have k194 := F181.parts
      refine Wo.pre 4 (by kernel_rfl) ?_
      refine Wo.cmp (op := .eql) (x := IX.t 57) (y := IX.t 58) (k := IntKind.i64) (a := E103) (b := E124) ((E103 : Int) = (E124 : Int)) (by kernel_rfl) (by kernel_rfl) (by kernel_rfl) (by kernel_rfl) (by simp) (by kernel_rfl) (fun q195 => ?_) (fun q195 => ?_)
      · skip
        refine Wo.pre 2 (by kernel_rfl) ?_
        have F196 := (P113.fr (((X126.fr.trans0 X132).transL X134).transR X186.fr) (by (first | omega | (intro s hs; omega) | (dsimp only; omega) | (intro s hs; dsimp only at hs; omega) | (simp only [blk_nils, blk_sl]; omega) | (intro s hs; simp only [blk_nils, blk_sl] at hs ⊢; omega) | (simp; done))))
        refine Wo.val (AV.agg [AV.int IntKind.u64 ↑t100, z101]) H183 (by kernel_rfl) (iop_ldP F196 (a := { b := H98.n, g := 0, o := 0 }) (by kernel_rfl) rfl (by kernel_rfl)) ?_
        have F197 := (P134.fr X186.fr id)
        refine Wo.val (AV.agg [AV.int IntKind.u64 ↑t121, z122]) H183 (by kernel_rfl) (iop_ldP F197 (a := { b := H119.n, g := 0, o := 0 }) (by kernel_rfl) rfl (by kernel_rfl)) ?_
        have F198 := (q106.fr (((((X111.transL X113).transR X126.fr).transR X132).trans X134).transR X186.fr) (by have d0 := m109.1.e; (first | omega | (intro s hs; omega) | (dsimp only; omega) | (intro s hs; dsimp only at hs; omega) | (simp only [blk_nils, blk_sl]; omega) | (intro s hs; simp only [blk_nils, blk_sl] at hs ⊢; omega) | (simp; done))))
        have F199 := (q127.fr ((X132.transL X134).transR X186.fr) (by have d0 := m130.1.e; (first | omega | (intro s hs; omega) | (dsimp only; omega) | (intro s hs; dsimp only at hs; omega) | (simp only [blk_nils, blk_sl]; omega) | (intro s hs; simp only [blk_nils, blk_sl] at hs ⊢; omega) | (simp; done))))
        obtain ⟨r200, H201, c202, rfl, X204⟩ := rsamee_run F198.ch F199.ch (by first | omega | (simp; omega) | (simp; done) | assumption | (exact Nat.lt_of_le_of_lt (rec_few (by with_reducible assumption)).1 (by decide)) | (exact Nat.lt_of_le_of_lt (item_few (by with_reducible assumption)).1 (by decide)) | ((intro p hp; have h := (rec_few (by with_reducible assumption)).2 p hp; omega)) | ((intro p hp; have h := (item_few (by with_reducible assumption)).2 p hp; omega))) (t100) (t121)
        have m205 := X204.1
        refine Wo.call (by kernel_rfl) (by kernel_rfl) c202 ?_
        clear c202
        refine Wo.boolS (fun q206 => ?_) (fun q206 => ?_)
        · skip
          have m207 := F196.1
          have m208 := F197.1
          have m209 := F198.bq
          have k210 := F198.parts
          have m211 := F199.bq
          have k212 := F199.parts
          refine Wo.pre 2 (by kernel_rfl) ?_
          refine Wo.nil ?_
          refine Wp.seq ?_
          refine Wp.region ?_
          refine Wo.pre 1 (by kernel_rfl) ?_
          have F213 := (F178.fr (X186.fr.trans0 X204.fr) id)
          refine Wo.val (z61) H201 (by kernel_rfl) (iop_ldP F213 (a := { b := H58.n, g := 0, o := 1 }) (by kernel_rfl) rfl (by kernel_rfl)) ?_
          have F214 := (F180.fr (X186.fr.trans0 X204.fr) (fun _ e => e.elim))
          obtain ⟨r215, H216, c217, rfl, X219⟩ := spoilk_run F214 (by first | omega | (simp; omega) | (simp; done) | assumption | (exact Nat.lt_of_le_of_lt (rec_few (by with_reducible assumption)).1 (by decide)) | (exact Nat.lt_of_le_of_lt (item_few (by with_reducible assumption)).1 (by decide)) | ((intro p hp; have h := (rec_few (by with_reducible assumption)).2 p hp; omega)) | ((intro p hp; have h := (item_few (by with_reducible assumption)).2 p hp; omega))) (by first | omega | (simp; omega) | (simp; done) | assumption | (exact Nat.lt_of_le_of_lt (rec_few (by with_reducible assumption)).1 (by decide)) | (exact Nat.lt_of_le_of_lt (item_few (by with_reducible assumption)).1 (by decide)) | ((intro p hp; have h := (rec_few (by with_reducible assumption)).2 p hp; omega)) | ((intro p hp; have h := (item_few (by with_reducible assumption)).2 p hp; omega)))
          have m220 := X219.1
          refine Wo.call (by kernel_rfl) (by kernel_rfl) c217 ?_
          clear c217
          refine Wo.nil ?_
          refine Wp.seq ?_
          refine Wp.region ?_
          refine Wo.pre 1 (by kernel_rfl) ?_
          have F221 := (F196.fr (X204.fr.transL X219) (by (first | omega | (intro s hs; omega) | (dsimp only; omega) | (intro s hs; dsimp only at hs; omega) | (simp only [blk_nils, blk_sl]; omega) | (intro s hs; simp only [blk_nils, blk_sl] at hs ⊢; omega) | (simp; done))))
          refine Wo.val (z101) H216 (by kernel_rfl) (iop_ldP F221 (a := { b := H98.n, g := 0, o := 1 }) (by kernel_rfl) rfl (by kernel_rfl)) ?_
          have F222 := (F198.fr (X204.fr.transL X219) (by have d0 := m109.1.e; have d1 := m209.1.e; (first | omega | (intro s hs; omega) | (dsimp only; omega) | (intro s hs; dsimp only at hs; omega) | (simp only [blk_nils, blk_sl]; omega) | (intro s hs; simp only [blk_nils, blk_sl] at hs ⊢; omega) | (simp; done))))
          obtain ⟨r223, H224, c225, rfl, X227⟩ := spoilk_run F222 (by first | omega | (simp; omega) | (simp; done) | assumption | (exact Nat.lt_of_le_of_lt (rec_few (by with_reducible assumption)).1 (by decide)) | (exact Nat.lt_of_le_of_lt (item_few (by with_reducible assumption)).1 (by decide)) | ((intro p hp; have h := (rec_few (by with_reducible assumption)).2 p hp; omega)) | ((intro p hp; have h := (item_few (by with_reducible assumption)).2 p hp; omega))) (by first | omega | (simp; omega) | (simp; done) | assumption | (exact Nat.lt_of_le_of_lt (rec_few (by with_reducible assumption)).1 (by decide)) | (exact Nat.lt_of_le_of_lt (item_few (by with_reducible assumption)).1 (by decide)) | ((intro p hp; have h := (rec_few (by with_reducible assumption)).2 p hp; omega)) | ((intro p hp; have h := (item_few (by with_reducible assumption)).2 p hp; omega)))
          have m228 := X227.1
          refine Wo.call (by kernel_rfl) (by kernel_rfl) c225 ?_
          clear c225
          refine Wo.nil ?_
          refine Wp.seq ?_
          refine Wp.region ?_
          have c229 := awake_run (H224)
          refine Wo.call (by kernel_rfl) (by kernel_rfl) c229 ?_
          clear c229
          refine Wo.pre 6 (by kernel_rfl) ?_
          have F230 := (F56.fr (((((((((((((((X65.fr.trans0 X71).transL X73).transR X84.fr).transR X90).trans X92).transR X105.fr).transR X111).trans X113).transR X126.fr).transR X132).trans X134).transR X186.fr).transR X204.fr).trans X219).trans X227) (by have d0 := q17.e; have d1 := m18.1.e; have d2 := m156.1.e; (first | omega | (intro s hs; omega) | (dsimp only; omega) | (intro s hs; dsimp only at hs; omega) | (simp only [blk_nils, blk_sl]; omega) | (intro s hs; simp only [blk_nils, blk_sl] at hs ⊢; omega) | (simp; done))))
          have F231 := (F75.fr ((((((((((((X84.fr.trans0 X90).transL X92).transR X105.fr).transR X111).trans X113).transR X126.fr).transR X132).trans X134).transR X186.fr).transR X204.fr).trans X219).trans X227) (by (first | omega | (intro s hs; omega) | (dsimp only; omega) | (intro s hs; dsimp only at hs; omega) | (simp only [blk_nils, blk_sl]; omega) | (intro s hs; simp only [blk_nils, blk_sl] at hs ⊢; omega) | (simp; done))))
          have c232 := equal_run F230.bs F231
          refine Wo.call (by kernel_rfl) (by kernel_rfl) c232 ?_
          clear c232
          refine Wo.boolS (fun q233 => ?_) (fun q233 => ?_)
          · skip
            have m234 := F213.1
            have m235 := F214.bq
            have k236 := F214.parts
            have m237 := F221.1
            have m238 := F222.bq
            have k239 := F222.parts
            have m240 := F230.bq
            have k241 := F230.parts
            have m242 := F231.bq
            have k243 := F231.parts
            refine Wo.pre 3 (by kernel_rfl) ?_
            have F244 := (F94.fr (((((((((X105.fr.trans0 X111).transL X113).transR X126.fr).transR X132).trans X134).transR X186.fr).transR X204.fr).trans X219).trans X227) (by (first | omega | (intro s hs; omega) | (dsimp only; omega) | (intro s hs; dsimp only at hs; omega) | (simp only [blk_nils, blk_sl]; omega) | (intro s hs; simp only [blk_nils, blk_sl] at hs ⊢; omega) | (simp; done))))
            refine Wo.val (v32) H224 (by kernel_rfl) (iop_ldP F244 (a := { b := H24.n, g := 0, o := 0 }) (by kernel_rfl) rfl (by kernel_rfl)) ?_
            refine Wo.pre 1 (by kernel_rfl) ?_
            have F245 := (F115.fr ((((((X126.fr.trans0 X132).transL X134).transR X186.fr).transR X204.fr).trans X219).trans X227) (by (first | omega | (intro s hs; omega) | (dsimp only; omega) | (intro s hs; dsimp only at hs; omega) | (simp only [blk_nils, blk_sl]; omega) | (intro s hs; simp only [blk_nils, blk_sl] at hs ⊢; omega) | (simp; done))))
            refine Wo.val (y) H224 (by kernel_rfl) (iop_ldP F245 (a := { b := h.n, g := 0, o := 0 }) (by kernel_rfl) rfl (by kernel_rfl)) ?_
            have F246 := (F95.fr (((((((((X105.fr.trans0 X111).transL X113).transR X126.fr).transR X132).trans X134).transR X186.fr).transR X204.fr).trans X219).trans X227) (by have d0 := q37.e; have d1 := m38.1.e; have d2 := m165.1.e; (first | omega | (intro s hs; omega) | (dsimp only; omega) | (intro s hs; dsimp only at hs; omega) | (simp only [blk_nils, blk_sl]; omega) | (intro s hs; simp only [blk_nils, blk_sl] at hs ⊢; omega) | (simp; done))))
            have F247 := (F116.fr ((((((X126.fr.trans0 X132).transL X134).transR X186.fr).transR X204.fr).trans X219).trans X227) (by (first | omega | (intro s hs; omega) | (dsimp only; omega) | (intro s hs; dsimp only at hs; omega) | (simp only [blk_nils, blk_sl]; omega) | (intro s hs; simp only [blk_nils, blk_sl] at hs ⊢; omega) | (simp; done))))
            have c248 := equal_run F246.bs F247
            refine Wo.call (by kernel_rfl) (by kernel_rfl) c248 ?_
            clear c248
            refine Wo.boolS (fun q249 => ?_) (fun q249 => ?_)
            · skip
              have m250 := F244.1
              have m251 := F245.1
              have m252 := F246.bq
              have k253 := F246.parts
              have m254 := F247.bq
              have k255 := F247.parts
              refine Wo.pre 3 (by kernel_rfl) ?_
              refine Wo.val (v44) H224 (by kernel_rfl) (iop_ldP F244 (a := { b := H24.n, g := 0, o := 1 }) (by kernel_rfl) rfl (by kernel_rfl)) ?_
              refine Wo.pre 1 (by kernel_rfl) ?_
              refine Wo.val (x) H224 (by kernel_rfl) (iop_ldP F245 (a := { b := h.n, g := 0, o := 1 }) (by kernel_rfl) rfl (by kernel_rfl)) ?_
              have F256 := (F96.fr (((((((((X105.fr.trans0 X111).transL X113).transR X126.fr).transR X132).trans X134).transR X186.fr).transR X204.fr).trans X219).trans X227) (by have d0 := q49.e; have d1 := m50.1.e; have d2 := m167.1.e; (first | omega | (intro s hs; omega) | (dsimp only; omega) | (intro s hs; dsimp only at hs; omega) | (simp only [blk_nils, blk_sl]; omega) | (intro s hs; simp only [blk_nils, blk_sl] at hs ⊢; omega) | (simp; done))))
              have F257 := (F117.fr ((((((X126.fr.trans0 X132).transL X134).transR X186.fr).transR X204.fr).trans X219).trans X227) (by (first | omega | (intro s hs; omega) | (dsimp only; omega) | (intro s hs; dsimp only at hs; omega) | (simp only [blk_nils, blk_sl]; omega) | (intro s hs; simp only [blk_nils, blk_sl] at hs ⊢; omega) | (simp; done))))
              have c258 := equal_run F256.bs F257
              refine Wo.call (by kernel_rfl) (by kernel_rfl) c258 ?_
              clear c258
              refine Wo.boolS (fun q259 => ?_) (fun q259 => ?_)
              · skip
                have m260 := F256.bq
                have k261 := F256.parts
                have m262 := F257.bq
                have k263 := F257.parts
                refine Wo.pre 2 (by kernel_rfl) ?_
                refine Wo.nil ?_
                refine Wp.ret ?_
                refine ⟨.inr rfl, (AV.bool true), (ret_one (res_tmp (by kernel_rfl) res_nil)), ?_⟩
                dsimp only
              · skip
                exact absurd ‹(_ == _) = false› (by simp)
            · skip
              exact absurd ‹(_ == _) = false› (by simp)
          · skip
            exact absurd ‹(_ == _) = false› (by simp)
        · skip
          exact Bool.noConfusion (‹sameE _ _ _ _ = false›.symm.trans (item_one (by with_reducible assumption) (by with_reducible assumption)).2)
      · skip
        exact (‹¬ (_ : Int) = _› (item_one (by with_reducible assumption) (by with_reducible assumption)).1).elim
    · skip
      exact Bool.noConfusion (‹sameE _ _ _ _ = false›.symm.trans (rec_one (by with_reducible assumption) (by with_reducible assumption)).2)
  · skip
    exact (‹¬ (_ : Int) = _› (rec_one (by with_reducible assumption) (by with_reducible assumption)).1).elim
end Go.Det

