/- Texts of the proof, one behind the other (TakesR). -/
import Derived.Test.YthahfhdibhgboaaM3EntryTakes
/- The law EntryTakes, walked. -/
set_option linter.unusedVariables false
set_option linter.unusedSimpArgs false
set_option linter.unusedSectionVars false
namespace Go.Det
open Go.Proofs
attribute [local irreducible] Wp Wo Wd iop ev slots quiets wanted put

/-- No bytes, written out, are a row of their own. -/
theorem Pt.ow0 {h : H} {b : Nat} (p : Pt h b (.cells 0 5 [] 0 false)) : Ow b h (.sl ⟨b, 0, 0⟩ 0 (.ex 0)) [] := .inr ⟨b, 0, Nat.le_refl _, p.1, p.2, .inr rfl⟩

theorem app5_lit {h : H} {b : Nat} {y : AV} {l : List UInt8} (p : Pt h b (.cells 0 5 [] 0 false)) (hy : Bs h y l) (hl : l.length ≤ maxRow) :
    ∃ v h', append h 5 1 1 (.sl ⟨b, 0, 0⟩ 0 (.ex 0)) y = some (.val v h') ∧ Ow b h' v l ∧ Fr No h h' ∧ Dj (Go.Det.blk v = b + 1 ∨ h.n < Go.Det.blk v) := by
  have hmr : maxRow ≤ 9223372036854775807 := by unfold maxRow; omega
  have hp := p.1
  unfold append
  rw [hy.src]
  simp only []
  by_cases hm : l = []
  · subst hm
    exact ⟨.sl ⟨b, 0, 0⟩ 0 (.ex 0), h, by simp, p.ow0, Fr.refl _, .inl rfl⟩
  · have hm0 : l.length ≠ 0 := by simpa using hm
    have hm1 : 0 < 0 + l.length := by omega
    have hld : h.ldn ⟨b, 0, 0⟩ (0 * 1) = some [] := by
      unfold H.ldn H.row
      simp only [p.2, BEq.rfl, Bool.not_false, Bool.true_or, Bool.and_self, if_true]
      rfl
    rw [if_neg (by simpa using hm0), if_neg (by simp [bytes_one]; omega), if_pos hm1, hld]
    exact ⟨_, _, rfl, .inr ⟨h.n, 0, by omega, by simp, by rw [h.get_new]; rfl, .inl (by simp)⟩, (Ext.new h _).fr, .inr (by simp [blk_sl])⟩

theorem rec_few {l : List UInt8} {t : Nat} {ps : List (AV × List UInt8)} {E : Int} (h : recOf l = (t, says ps, E)) : ps.length ≤ 4 ∧ (∀ p ∈ ps, p.2.length ≤ 512) := by
  have hs : ∀ {cs : List (List UInt8)}, cs = says ps → (mayS cs = true ∨ cs = []) → ps.length ≤ 4 ∧ (∀ p ∈ ps, p.2.length ≤ 512) := by
    rintro cs rfl (hm | hm)
    · obtain ⟨_, h2, h3⟩ := mayS_small hm
      rw [says_len] at h2
      exact ⟨h2, fun p hp => (h3 p.2 (List.mem_map_of_mem hp)).2⟩
    · have : ps = [] := by simpa [says] using hm
      subst this
      exact ⟨by simp, fun p hp => by simp at hp⟩
  rcases rec_dec h with ⟨_, h1, _⟩ | ⟨_, _, h1⟩
  · exact hs rfl (.inl h1)
  · exact hs rfl (.inr h1)
theorem item_few {lf ex : List UInt8} {t : Nat} {ps : List (AV × List UInt8)} {E : Int} (h : itemOf lf ex = (t, says ps, E)) : ps.length ≤ 4 ∧ (∀ p ∈ ps, p.2.length ≤ 512) := by
  have hs : ∀ {cs : List (List UInt8)}, cs = says ps → (mayS cs = true ∨ cs = []) → ps.length ≤ 4 ∧ (∀ p ∈ ps, p.2.length ≤ 512) := by
    rintro cs rfl (hm | hm)
    · obtain ⟨_, h2, h3⟩ := mayS_small hm
      rw [says_len] at h2
      exact ⟨h2, fun p hp => (h3 p.2 (List.mem_map_of_mem hp)).2⟩
    · have : ps = [] := by simpa [says] using hm
      subst this
      exact ⟨by simp, fun p hp => by simp at hp⟩
  rcases item_dec h with ⟨_, h1, _⟩ | ⟨_, _, h1⟩
  · exact hs rfl (.inl h1)
  · exact hs rfl (.inr h1)
theorem rec_one {l : List UInt8} {t t' : Nat} {ps qs : List (AV × List UInt8)} {E E' : Int} (h : recOf l = (t, says ps, E)) (h' : recOf l = (t', says qs, E')) : E = E' ∧ sameE t ps t' qs = true := by
  rw [h] at h'
  simp only [Prod.mk.injEq] at h'
  exact ⟨h'.2.2, by simp [sameE, h'.1, h'.2.1]⟩
theorem item_one {lf ex : List UInt8} {t t' : Nat} {ps qs : List (AV × List UInt8)} {E E' : Int} (h : itemOf lf ex = (t, says ps, E)) (h' : itemOf lf ex = (t', says qs, E')) : E = E' ∧ sameE t ps t' qs = true := by
  rw [h] at h'
  simp only [Prod.mk.injEq] at h'
  exact ⟨h'.2.2, by simp [sameE, h'.1, h'.2.1]⟩

attribute [local irreducible] recOf itemOf sameE
set_option maxHeartbeats 16000000 in
theorem takes_run {h : H} {v y x : AV} {l lf ex : List UInt8} (hv : Bs h v l) (hy : Bs h y lf) (hx : Bs h x ex) (ov : Cok v) (oy : Cok y) (ox : Cok x) (hl : l.length ≤ maxRow) (hl1 : lf.length ≤ maxRow) (hl2 : ex.length ≤ maxRow) : ∃ r h', Runs TF 11 [v, itemV y x] h r h' ∧ r = .bool true := by
  refine Runs.ofP f11 rfl ?_
  have hmx : 200000000000000 = maxRow := rfl
  have m1 := hv.bq
  have k2 := hv.parts
  have m3 := hy.bq
  have k4 := hy.parts
  have m5 := hx.bq
  have k6 := hx.parts
  refine Wp.seq ?_
  refine Wp.region ?_
  obtain ⟨H7, e7, P7, X7, n7⟩ := pt_new h 78 [y, x] (ones_cons k4.2.1 (ones_cons k6.2.1 ones_nil))
  refine Wo.val (.ptr ⟨H.n h, 0, 0⟩) H7 (by kernel_rfl) (e7 (v := AV.agg [y, x]) (by kernel_rfl) rfl) ?_
  clear e7
  have m8 := X7.1
  refine Wo.pre 1 (by kernel_rfl) ?_
  refine Wo.nil ?_
  refine Wp.seq ?_
  refine Wp.region ?_
  obtain ⟨H9, e9, P9, X9, n9⟩ := bsl_new H7 5 [] ones_nil
  refine Wo.val (.sl ⟨H.n H7, 0, 0⟩ 0 (.ex 0)) H9 (by kernel_rfl) (e9 rfl) ?_
  clear e9
  have m10 := X9.1
  refine Wo.pre 1 (by kernel_rfl) ?_
  have F11 := (hv.fr (X7.trans0 X9) (.inr id))
  obtain ⟨v12, H13, a14, q15, X16, q17⟩ := app5_lit P9 F11 hl
  refine Wo.val _ _ (by kernel_rfl) (iop_appG (v := AV.sl { b := H7.n, g := 0, o := 0 } 0 (Cp.ex 0)) (w := v) (by kernel_rfl) (by kernel_rfl) k2.2.2 a14) ?_
  have m18 := q15.bq
  have k19 := q15.parts
  have m20 := X16.1
  refine Wo.pre 1 (by kernel_rfl) ?_
  refine Wo.nil ?_
  refine Wp.seq ?_
  refine Wp.draw ?_
  obtain ⟨H21, e21, P21, X21, n21⟩ := bsl_new H13 5 [] ones_nil
  refine Wd.make (.sl ⟨H.n H13, 0, 0⟩ 0 (.ex 0)) H21 (by kernel_rfl) (by kernel_rfl) (e21 rfl) ?_
  clear e21
  have m22 := X21.1
  refine Wd.pure (by kernel_rfl) (by kernel_rfl) ?_
  have F23 := (P7.fr ((X9.trans0 X16).trans0 X21) id)
  refine Wd.read (y) (.ld none (.c (.ptr { b := h.n, g := 0, o := 0 }))) (by kernel_rfl) (by kernel_rfl) (iop_ldP F23 (a := { b := h.n, g := 0, o := 0 }) (by kernel_rfl) rfl (by kernel_rfl)) ?_
  obtain ⟨H24, e24, P24, X24, n24⟩ := bsl_new H21 5 [] ones_nil
  refine Wd.make (.sl ⟨H.n H21, 0, 0⟩ 0 (.ex 0)) H24 (by kernel_rfl) (by kernel_rfl) (e24 rfl) ?_
  clear e24
  have m25 := X24.1
  refine Wd.pure (by kernel_rfl) (by kernel_rfl) ?_
  have F26 := (F23.fr X24 id)
  refine Wd.read (x) (.ld none (.c (.ptr { b := h.n, g := 0, o := 1 }))) (by kernel_rfl) (by kernel_rfl) (iop_ldP F26 (a := { b := h.n, g := 0, o := 1 }) (by kernel_rfl) rfl (by kernel_rfl)) ?_
  obtain ⟨H27, e27, P27, X27, n27⟩ := pt_new H24 78 [AV.nils, AV.nils] (ones_cons rfl (ones_cons rfl ones_nil))
  refine Wd.make (.ptr ⟨H.n H24, 0, 0⟩) H27 (by kernel_rfl) (by kernel_rfl) (e27 (v := AV.agg [AV.nils, AV.nils]) (by kernel_rfl) rfl) ?_
  clear e27
  have m28 := X27.1
  have F29 := (F26.fr X27 id)
  have F30 := (P21.fr (X24.trans0 X27) id)
  have F31 := (hy.fr (((((X7.trans0 X9).trans0 X16).trans0 X21).trans0 X24).trans0 X27) (.inr id))
  obtain ⟨v32, H33, a34, q35, X36, q37⟩ := app5_lit F30 F31 hl1
  refine Wd.act _ _ (by kernel_rfl) (iop_appG (v := AV.sl { b := H13.n, g := 0, o := 0 } 0 (Cp.ex 0)) (w := y) (by kernel_rfl) (by kernel_rfl) k4.2.2 a34) (holds_of [(IOp.ld none (IX.c (AV.ptr { b := h.n, g := 0, o := 1 })), x, 6), (IOp.ld none (IX.c (AV.ptr { b := h.n, g := 0, o := 0 })), y, 2)] (by kernel_rfl) (holds_and (rd_ldP F29 rfl (by kernel_rfl)) (holds_and (rd_ldP F29 rfl (by kernel_rfl)) rfl))) ?_
  have m38 := q35.bq
  have k39 := q35.parts
  have m40 := X36.1
  have F41 := (F29.fr X36 id)
  have F42 := (P24.fr (X27.trans0 X36) id)
  have F43 := (hx.fr ((((((X7.trans0 X9).trans0 X16).trans0 X21).trans0 X24).trans0 X27).trans0 X36) (.inr id))
  obtain ⟨v44, H45, a46, q47, X48, q49⟩ := app5_lit F42 F43 hl2
  refine Wd.act _ _ (by kernel_rfl) (iop_appG (v := AV.sl { b := H21.n, g := 0, o := 0 } 0 (Cp.ex 0)) (w := x) (by kernel_rfl) (by kernel_rfl) k6.2.2 a46) (holds_of [(IOp.ld none (IX.c (AV.ptr { b := h.n, g := 0, o := 1 })), x, 6)] (by kernel_rfl) (holds_and (rd_ldP F41 rfl (by kernel_rfl)) rfl)) ?_
  have m50 := q47.bq
  have k51 := q47.parts
  have m52 := X48.1
  refine Wd.make (.agg [v32, v44]) H45 (by kernel_rfl) (by kernel_rfl) (iop_buildP (fill_cons (v := v32) (vs := [v32]) (by kernel_rfl) k39.1 (by kernel_rfl) (fill_cons (v := v44) (vs := [v44]) (by kernel_rfl) k51.1 (by kernel_rfl) rfl))) ?_
  have F53 := (P27.fr (X36.trans0 X48) id)
  obtain ⟨H54, e54, P54, X54, n54⟩ := F53.st 0 [v32, v44] (by simp) (ones_cons k39.2.1 (ones_cons k51.2.1 ones_nil))
  refine Wd.act .undef H54 (by kernel_rfl) (iop_stP (a := { b := H24.n, g := 0, o := 0 }) (v := AV.agg [v32, v44]) (vs := [v32, v44]) (by kernel_rfl) (by kernel_rfl) rfl rfl e54) (holds_of [] (by kernel_rfl) rfl) ?_
  have m55 := X54.1
  replace P54 : Pt H54 H24.n (Blk.cells 0 78 [v32, v44] 0 false) := P54
  refine Wd.done (holds_of [] (by kernel_rfl) rfl) ?_
  refine Wp.seq ?_
  refine Wp.region ?_
  refine Wo.pre 1 (by kernel_rfl) ?_
  have F56 := (q15.fr (((((X21.trans0 X24).trans0 X27).trans0 X36).trans0 X48).transL X54) (by have d0 := q17.e; have d1 := m18.1.e; (first | omega | (intro s hs; omega) | (dsimp only; omega) | (intro s hs; dsimp only at hs; omega) | (simp only [blk_nils, blk_sl]; omega) | (intro s hs; simp only [blk_nils, blk_sl] at hs ⊢; omega) | (simp; done))))
  obtain ⟨r57, H58, c59, t60, z61, ps62, E63, rfl, X65, q66, q67⟩ := takerecI F56.bs hl
  have m68 := X65.1
  have m69 := q66.bq
  have k70 := q66.parts
  refine Wo.call (by kernel_rfl) (by kernel_rfl) c59 ?_
  clear c59
  refine Wo.pre 3 (by kernel_rfl) ?_
  obtain ⟨H71, e71, P71, X71, n71⟩ := pt_new H58 70 [AV.int IntKind.u64 0, AV.nils] (ones_cons rfl (ones_cons rfl ones_nil))
  refine Wo.val (.ptr ⟨H.n H58, 0, 0⟩) H71 (by kernel_rfl) (e71 (v := AV.agg [AV.int IntKind.u64 0, AV.nils]) (by kernel_rfl) rfl) ?_
  clear e71
  have m72 := X71.1
  obtain ⟨H73, e73, P73, X73, n73⟩ := P71.st 0 [AV.int IntKind.u64 ↑t60, z61] (by simp) (ones_cons rfl (ones_cons k70.2.1 ones_nil))
  refine Wo.val .undef H73 (by kernel_rfl) (iop_stP (a := { b := H58.n, g := 0, o := 0 }) (v := AV.agg [AV.int IntKind.u64 ↑t60, z61]) (vs := [AV.int IntKind.u64 ↑t60, z61]) (by kernel_rfl) (by kernel_rfl) rfl rfl e73) ?_
  have m74 := X73.1
  replace P73 : Pt H73 H58.n (Blk.cells 0 70 [AV.int IntKind.u64 ↑t60, z61] 0 false) := P73
  refine Wo.pre 1 (by kernel_rfl) ?_
  refine Wo.nil ?_
  refine Wp.seq ?_
  refine Wp.region ?_
  refine Wo.pre 1 (by kernel_rfl) ?_
  have F75 := (F11.fr (((((((((X16.trans0 X21).trans0 X24).trans0 X27).trans0 X36).trans0 X48).transL X54).transR X65.fr).transR X71).trans X73) (by (first | omega | (intro s hs; omega) | (dsimp only; omega) | (intro s hs; dsimp only at hs; omega) | (simp only [blk_nils, blk_sl]; omega) | (intro s hs; simp only [blk_nils, blk_sl] at hs ⊢; omega) | (simp; done))))
  obtain ⟨r76, H77, c78, t79, z80, ps81, E82, rfl, X84, q85, q86⟩ := rtakerecI F75 ov hl
  have m87 := X84.1
  have m88 := q85.bq
  have k89 := q85.parts
  refine Wo.call (by kernel_rfl) (by kernel_rfl) c78 ?_
  clear c78
  refine Wo.pre 3 (by kernel_rfl) ?_
  obtain ⟨H90, e90, P90, X90, n90⟩ := pt_new H77 70 [AV.int IntKind.u64 0, AV.nils] (ones_cons rfl (ones_cons rfl ones_nil))
  refine Wo.val (.ptr ⟨H.n H77, 0, 0⟩) H90 (by kernel_rfl) (e90 (v := AV.agg [AV.int IntKind.u64 0, AV.nils]) (by kernel_rfl) rfl) ?_
  clear e90
  have m91 := X90.1
  obtain ⟨H92, e92, P92, X92, n92⟩ := P90.st 0 [AV.int IntKind.u64 ↑t79, z80] (by simp) (ones_cons rfl (ones_cons k89.2.1 ones_nil))
  refine Wo.val .undef H92 (by kernel_rfl) (iop_stP (a := { b := H77.n, g := 0, o := 0 }) (v := AV.agg [AV.int IntKind.u64 ↑t79, z80]) (vs := [AV.int IntKind.u64 ↑t79, z80]) (by kernel_rfl) (by kernel_rfl) rfl rfl e92) ?_
  have m93 := X92.1
  replace P92 : Pt H92 H77.n (Blk.cells 0 70 [AV.int IntKind.u64 ↑t79, z80] 0 false) := P92
  refine Wo.pre 1 (by kernel_rfl) ?_
  refine Wo.nil ?_
  refine Wp.seq ?_
  refine Wp.region ?_
  have F94 := (P54.fr (((((X65.fr.trans0 X71).transL X73).transR X84.fr).transR X90).trans X92) (by (first | omega | (intro s hs; omega) | (dsimp only; omega) | (intro s hs; dsimp only at hs; omega) | (simp only [blk_nils, blk_sl]; omega) | (intro s hs; simp only [blk_nils, blk_sl] at hs ⊢; omega) | (simp; done))))
  refine Wo.val (AV.agg [v32, v44]) H92 (by kernel_rfl) (iop_ldP F94 (a := { b := H24.n, g := 0, o := 0 }) (by kernel_rfl) rfl (by kernel_rfl)) ?_
  have F95 := (q35.fr (((((((X48.transL X54).transR X65.fr).transR X71).trans X73).transR X84.fr).transR X90).trans X92) (by have d0 := q37.e; have d1 := m38.1.e; (first | omega | (intro s hs; omega) | (dsimp only; omega) | (intro s hs; dsimp only at hs; omega) | (simp only [blk_nils, blk_sl]; omega) | (intro s hs; simp only [blk_nils, blk_sl] at hs ⊢; omega) | (simp; done))))
  have F96 := (q47.fr ((((((X54.transR X65.fr).transR X71).trans X73).transR X84.fr).transR X90).trans X92) (by have d0 := q49.e; have d1 := m50.1.e; (first | omega | (intro s hs; omega) | (dsimp only; omega) | (intro s hs; dsimp only at hs; omega) | (simp only [blk_nils, blk_sl]; omega) | (intro s hs; simp only [blk_nils, blk_sl] at hs ⊢; omega) | (simp; done))))
  obtain ⟨r97, H98, c99, t100, z101, ps102, E103, rfl, X105, q106, q107⟩ := takeitemI F95.bs F96.bs hl1 hl2
  have m108 := X105.1
  have m109 := q106.bq
  have k110 := q106.parts
  refine Wo.call (by kernel_rfl) (by kernel_rfl) c99 ?_
  clear c99
  refine Wo.pre 3 (by kernel_rfl) ?_
  obtain ⟨H111, e111, P111, X111, n111⟩ := pt_new H98 70 [AV.int IntKind.u64 0, AV.nils] (ones_cons rfl (ones_cons rfl ones_nil))
  refine Wo.val (.ptr ⟨H.n H98, 0, 0⟩) H111 (by kernel_rfl) (e111 (v := AV.agg [AV.int IntKind.u64 0, AV.nils]) (by kernel_rfl) rfl) ?_
  clear e111
  have m112 := X111.1
  obtain ⟨H113, e113, P113, X113, n113⟩ := P111.st 0 [AV.int IntKind.u64 ↑t100, z101] (by simp) (ones_cons rfl (ones_cons k110.2.1 ones_nil))
  refine Wo.val .undef H113 (by kernel_rfl) (iop_stP (a := { b := H98.n, g := 0, o := 0 }) (v := AV.agg [AV.int IntKind.u64 ↑t100, z101]) (vs := [AV.int IntKind.u64 ↑t100, z101]) (by kernel_rfl) (by kernel_rfl) rfl rfl e113) ?_
  have m114 := X113.1
  replace P113 : Pt H113 H98.n (Blk.cells 0 70 [AV.int IntKind.u64 ↑t100, z101] 0 false) := P113
  refine Wo.pre 1 (by kernel_rfl) ?_
  refine Wo.nil ?_
  refine Wp.seq ?_
  refine Wp.region ?_
  have F115 := (F41.fr ((((((((((X48.transL X54).transR X65.fr).transR X71).trans X73).transR X84.fr).transR X90).trans X92).transR X105.fr).transR X111).trans X113) (by (first | omega | (intro s hs; omega) | (dsimp only; omega) | (intro s hs; dsimp only at hs; omega) | (simp only [blk_nils, blk_sl]; omega) | (intro s hs; simp only [blk_nils, blk_sl] at hs ⊢; omega) | (simp; done))))
  refine Wo.val (AV.agg [y, x]) H113 (by kernel_rfl) (iop_ldP F115 (a := { b := h.n, g := 0, o := 0 }) (by kernel_rfl) rfl (by kernel_rfl)) ?_
  have F116 := (F31.fr (((((((((((X36.trans0 X48).transL X54).transR X65.fr).transR X71).trans X73).transR X84.fr).transR X90).trans X92).transR X105.fr).transR X111).trans X113) (by (first | omega | (intro s hs; omega) | (dsimp only; omega) | (intro s hs; dsimp only at hs; omega) | (simp only [blk_nils, blk_sl]; omega) | (intro s hs; simp only [blk_nils, blk_sl] at hs ⊢; omega) | (simp; done))))
  have F117 := (F43.fr ((((((((((X48.transL X54).transR X65.fr).transR X71).trans X73).transR X84.fr).transR X90).trans X92).transR X105.fr).transR X111).trans X113) (by (first | omega | (intro s hs; omega) | (dsimp only; omega) | (intro s hs; dsimp only at hs; omega) | (simp only [blk_nils, blk_sl]; omega) | (intro s hs; simp only [blk_nils, blk_sl] at hs ⊢; omega) | (simp; done))))
  obtain ⟨r118, H119, c120, t121, z122, ps123, E124, rfl, X126, q127, q128⟩ := rtakeitemI F116 F117 oy ox hl1 hl2
  have m129 := X126.1
  have m130 := q127.bq
  have k131 := q127.parts
  refine Wo.call (by kernel_rfl) (by kernel_rfl) c120 ?_
  clear c120
  refine Wo.pre 3 (by kernel_rfl) ?_
  obtain ⟨H132, e132, P132, X132, n132⟩ := pt_new H119 70 [AV.int IntKind.u64 0, AV.nils] (ones_cons rfl (ones_cons rfl ones_nil))
  refine Wo.val (.ptr ⟨H.n H119, 0, 0⟩) H132 (by kernel_rfl) (e132 (v := AV.agg [AV.int IntKind.u64 0, AV.nils]) (by kernel_rfl) rfl) ?_
  clear e132
  have m133 := X132.1
  obtain ⟨H134, e134, P134, X134, n134⟩ := P132.st 0 [AV.int IntKind.u64 ↑t121, z122] (by simp) (ones_cons rfl (ones_cons k131.2.1 ones_nil))
  refine Wo.val .undef H134 (by kernel_rfl) (iop_stP (a := { b := H119.n, g := 0, o := 0 }) (v := AV.agg [AV.int IntKind.u64 ↑t121, z122]) (vs := [AV.int IntKind.u64 ↑t121, z122]) (by kernel_rfl) (by kernel_rfl) rfl rfl e134) ?_
  have m135 := X134.1
  replace P134 : Pt H134 H119.n (Blk.cells 0 70 [AV.int IntKind.u64 ↑t121, z122] 0 false) := P134
  refine Wo.pre 1 (by kernel_rfl) ?_
  refine Wo.nil ?_
  refine Wp.seq ?_
  refine Wp.region ?_
  refine Wo.pre 2 (by kernel_rfl) ?_
  refine Wo.cmp (op := .eql) (x := IX.t 48) (y := IX.t 49) (k := IntKind.i64) (a := E63) (b := E82) ((E63 : Int) = (E82 : Int)) (by kernel_rfl) (by kernel_rfl) (by kernel_rfl) (by kernel_rfl) (by simp) (by kernel_rfl) (fun q136 => ?_) (fun q136 => ?_)
  · skip
    have m137 := P7.1
    have m138 := P9.1
    have m139 := F11.bq
    have k140 := F11.parts
    have m141 := P21.1
    have m142 := F23.1
    have m143 := P24.1
    have m144 := F26.1
    have m145 := P27.1
    have m146 := F29.1
    have m147 := F30.1
    have m148 := F31.bq
    have k149 := F31.parts
    have m150 := F41.1
    have m151 := F42.1
    have m152 := F43.bq
    have k153 := F43.parts
    have m154 := F53.1
    have m155 := P54.1
    have m156 := F56.bq
    have k157 := F56.parts
    have m158 := P71.1
    have m159 := P73.1
    have m160 := F75.bq
    have k161 := F75.parts
    have m162 := P90.1
    have m163 := P92.1
    have m164 := F94.1
    have m165 := F95.bq
    have k166 := F95.parts
    have m167 := F96.bq
    have k168 := F96.parts
    have m169 := P111.1
    have m170 := P113.1
    have m171 := F115.1
    have m172 := F116.bq
    have k173 := F116.parts
    have m174 := F117.bq
    have k175 := F117.parts
    have m176 := P132.1
    have m177 := P134.1
    refine Wo.pre 1 (by kernel_rfl) ?_
    have F178 := (P73.fr ((((((((X84.fr.trans0 X90).transL X92).transR X105.fr).transR X111).trans X113).transR X126.fr).transR X132).trans X134) (by (first | omega | (intro s hs; omega) | (dsimp only; omega) | (intro s hs; dsimp only at hs; omega) | (simp only [blk_nils, blk_sl]; omega) | (intro s hs; simp only [blk_nils, blk_sl] at hs ⊢; omega) | (simp; done))))
    refine Wo.val (AV.agg [AV.int IntKind.u64 ↑t60, z61]) H134 (by kernel_rfl) (iop_ldP F178 (a := { b := H58.n, g := 0, o := 0 }) (by kernel_rfl) rfl (by kernel_rfl)) ?_
    have F179 := (P92.fr (((((X105.fr.trans0 X111).transL X113).transR X126.fr).transR X132).trans X134) (by (first | omega | (intro s hs; omega) | (dsimp only; omega) | (intro s hs; dsimp only at hs; omega) | (simp only [blk_nils, blk_sl]; omega) | (intro s hs; simp only [blk_nils, blk_sl] at hs ⊢; omega) | (simp; done))))
    refine Wo.val (AV.agg [AV.int IntKind.u64 ↑t79, z80]) H134 (by kernel_rfl) (iop_ldP F179 (a := { b := H77.n, g := 0, o := 0 }) (by kernel_rfl) rfl (by kernel_rfl)) ?_
    have F180 := (q66.fr ((((((((((X71.transL X73).transR X84.fr).transR X90).trans X92).transR X105.fr).transR X111).trans X113).transR X126.fr).transR X132).trans X134) (by have d0 := m69.1.e; (first | omega | (intro s hs; omega) | (dsimp only; omega) | (intro s hs; dsimp only at hs; omega) | (simp only [blk_nils, blk_sl]; omega) | (intro s hs; simp only [blk_nils, blk_sl] at hs ⊢; omega) | (simp; done))))
    have F181 := (q85.fr (((((((X90.transL X92).transR X105.fr).transR X111).trans X113).transR X126.fr).transR X132).trans X134) (by have d0 := m88.1.e; (first | omega | (intro s hs; omega) | (dsimp only; omega) | (intro s hs; dsimp only at hs; omega) | (simp only [blk_nils, blk_sl]; omega) | (intro s hs; simp only [blk_nils, blk_sl] at hs ⊢; omega) | (simp; done))))
    obtain ⟨r182, H183, c184, rfl, X186⟩ := rsamee_run F180.ch F181.ch (by first | omega | (simp; omega) | (simp; done) | assumption | (exact Nat.lt_of_le_of_lt (rec_few (by with_reducible assumption)).1 (by decide)) | (exact Nat.lt_of_le_of_lt (item_few (by with_reducible assumption)).1 (by decide)) | ((intro p hp; have h := (rec_few (by with_reducible assumption)).2 p hp; omega)) | ((intro p hp; have h := (item_few (by with_reducible assumption)).2 p hp; omega))) (t60) (t79)
    have m187 := X186.1
    refine Wo.call (by kernel_rfl) (by kernel_rfl) c184 ?_
    clear c184
    refine Wo.boolS (fun q188 => ?_) (fun q188 => ?_)
    · skip
      have m189 := F178.1
      have m190 := F179.1
      have m191 := F180.bq
      have k192 := F180.parts
      have m193 := F181.bq
      have k194 := F181.parts
      refine Wo.pre 4 (by kernel_rfl) ?_
      refine Wo.cmp (op := .eql) (x := IX.t 57) (y := IX.t 58) (k := IntKind.i64) (a := E103) (b := E124) ((E103 : Int) = (E124 : Int)) (by kernel_rfl) (by kernel_rfl) (by kernel_rfl) (by kernel_rfl) (by simp) (by kernel_rfl) (fun q195 => ?_) (fun q195 => ?_)
      · skip
        refine Wo.pre 2 (by kernel_rfl) ?_
        have F196 := (P113.fr (((X126.fr.trans0 X132).transL X134).transR X186.fr) (by (first | omega | (intro s hs; omega) | (dsimp only; omega) | (intro s hs; dsimp only at hs; omega) | (simp only [blk_nils, blk_sl]; omega) | (intro s hs; simp only [blk_nils, blk_sl] at hs ⊢; omega) | (simp; done))))
        refine Wo.val (AV.agg [AV.int IntKind.u64 ↑t100, z101]) H183 (by kernel_rfl) (iop_ldP F196 (a := { b := H98.n, g := 0, o := 0 }) (by kernel_rfl) rfl (by kernel_rfl)) ?_
        have F197 := (P134.fr X186.fr id)
        refine Wo.val (AV.agg [AV.int IntKind.u64 ↑t121, z122]) H183 (by kernel_rfl) (iop_ldP F197 (a := { b := H119.n, g := 0, o := 0 }) (by kernel_rfl) rfl (by kernel_rfl)) ?_
        have F198 := (q106.fr (((((X111.transL X113).transR X126.fr).transR X132).trans X134).transR X186.fr) (by have d0 := m109.1.e; (first | omega | (intro s hs; omega) | (dsimp only; omega) | (intro s hs; dsimp only at hs; omega) | (simp only [blk_nils, blk_sl]; omega) | (intro s hs; simp only [blk_nils, blk_sl] at hs ⊢; omega) | (simp; done))))
        have F199 := (q127.fr ((X132.transL X134).transR X186.fr) (by have d0 := m130.1.e; (first | omega | (intro s hs; omega) | (dsimp only; omega) | (intro s hs; dsimp only at hs; omega) | (simp only [blk_nils, blk_sl]; omega) | (intro s hs; simp only [blk_nils, blk_sl] at hs ⊢; omega) | (simp; done))))
        obtain ⟨r200, H201, c202, rfl, X204⟩ := rsamee_run F198.ch F199.ch (by first | omega | (simp; omega) | (simp; done) | assumption | (exact Nat.lt_of_le_of_lt (rec_few (by with_reducible assumption)).1 (by decide)) | (exact Nat.lt_of_le_of_lt (item_few (by with_reducible assumption)).1 (by decide)) | ((intro p hp; have h := (rec_few (by with_reducible assumption)).2 p hp; omega)) | ((intro p hp; have h := (item_few (by with_reducible assumption)).2 p hp; omega))) (t100) (t121)
        have m205 := X204.1
        refine Wo.call (by kernel_rfl) (by kernel_rfl) c202 ?_
        clear c202
        refine Wo.boolS (fun q206 => ?_) (fun q206 => ?_)
        · skip
          have m207 := F196.1
          have m208 := F197.1
          have m209 := F198.bq
          have k210 := F198.parts
          have m211 := F199.bq
          have k212 := F199.parts
          refine Wo.pre 2 (by kernel_rfl) ?_
          refine Wo.nil ?_
          refine Wp.seq ?_
          refine Wp.region ?_
          refine Wo.pre 1 (by kernel_rfl) ?_
          have F213 := (F178.fr (X186.fr.trans0 X204.fr) id)
          refine Wo.val (z61) H201 (by kernel_rfl) (iop_ldP F213 (a := { b := H58.n, g := 0, o := 1 }) (by kernel_rfl) rfl (by kernel_rfl)) ?_
          have F214 := (F180.fr (X186.fr.trans0 X204.fr) (fun _ e => e.elim))
          obtain ⟨r215, H216, c217, rfl, X219⟩ := spoilk_run F214 (by first | omega | (simp; omega) | (simp; done) | assumption | (exact Nat.lt_of_le_of_lt (rec_few (by with_reducible assumption)).1 (by decide)) | (exact Nat.lt_of_le_of_lt (item_few (by with_reducible assumption)).1 (by decide)) | ((intro p hp; have h := (rec_few (by with_reducible assumption)).2 p hp; omega)) | ((intro p hp; have h := (item_few (by with_reducible assumption)).2 p hp; omega))) (by first | omega | (simp; omega) | (simp; done) | assumption | (exact Nat.lt_of_le_of_lt (rec_few (by with_reducible assumption)).1 (by decide)) | (exact Nat.lt_of_le_of_lt (item_few (by with_reducible assumption)).1 (by decide)) | ((intro p hp; have h := (rec_few (by with_reducible assumption)).2 p hp; omega)) | ((intro p hp; have h := (item_few (by with_reducible assumption)).2 p hp; omega)))
          have m220 := X219.1
          refine Wo.call (by kernel_rfl) (by kernel_rfl) c217 ?_
          clear c217
          refine Wo.nil ?_
          refine Wp.seq ?_
          refine Wp.region ?_
          refine Wo.pre 1 (by kernel_rfl) ?_
          have F221 := (F196.fr (X204.fr.transL X219) (by (first | omega | (intro s hs; omega) | (dsimp only; omega) | (intro s hs; dsimp only at hs; omega) | (simp only [blk_nils, blk_sl]; omega) | (intro s hs; simp only [blk_nils, blk_sl] at hs ⊢; omega) | (simp; done))))
          refine Wo.val (z101) H216 (by kernel_rfl) (iop_ldP F221 (a := { b := H98.n, g := 0, o := 1 }) (by kernel_rfl) rfl (by kernel_rfl)) ?_
          have F222 := (F198.fr (X204.fr.transL X219) (by have d0 := m109.1.e; have d1 := m209.1.e; (first | omega | (intro s hs; omega) | (dsimp only; omega) | (intro s hs; dsimp only at hs; omega) | (simp only [blk_nils, blk_sl]; omega) | (intro s hs; simp only [blk_nils, blk_sl] at hs ⊢; omega) | (simp; done))))
          obtain ⟨r223, H224, c225, rfl, X227⟩ := spoilk_run F222 (by first | omega | (simp; omega) | (simp; done) | assumption | (exact Nat.lt_of_le_of_lt (rec_few (by with_reducible assumption)).1 (by decide)) | (exact Nat.lt_of_le_of_lt (item_few (by with_reducible assumption)).1 (by decide)) | ((intro p hp; have h := (rec_few (by with_reducible assumption)).2 p hp; omega)) | ((intro p hp; have h := (item_few (by with_reducible assumption)).2 p hp; omega))) (by first | omega | (simp; omega) | (simp; done) | assumption | (exact Nat.lt_of_le_of_lt (rec_few (by with_reducible assumption)).1 (by decide)) | (exact Nat.lt_of_le_of_lt (item_few (by with_reducible assumption)).1 (by decide)) | ((intro p hp; have h := (rec_few (by with_reducible assumption)).2 p hp; omega)) | ((intro p hp; have h := (item_few (by with_reducible assumption)).2 p hp; omega)))
          have m228 := X227.1
          refine Wo.call (by kernel_rfl) (by kernel_rfl) c225 ?_
          clear c225
          refine Wo.nil ?_
          refine Wp.seq ?_
          refine Wp.region ?_
          have c229 := awake_run (H224)
          refine Wo.call (by kernel_rfl) (by kernel_rfl) c229 ?_
          clear c229
          refine Wo.pre 6 (by kernel_rfl) ?_
          have F230 := (F56.fr (((((((((((((((X65.fr.trans0 X71).transL X73).transR X84.fr).transR X90).trans X92).transR X105.fr).transR X111).trans X113).transR X126.fr).transR X132).trans X134).transR X186.fr).transR X204.fr).trans X219).trans X227) (by have d0 := q17.e; have d1 := m18.1.e; have d2 := m156.1.e; (first | omega | (intro s hs; omega) | (dsimp only; omega) | (intro s hs; dsimp only at hs; omega) | (simp only [blk_nils, blk_sl]; omega) | (intro s hs; simp only [blk_nils, blk_sl] at hs ⊢; omega) | (simp; done))))
          have F231 := (F75.fr ((((((((((((X84.fr.trans0 X90).transL X92).transR X105.fr).transR X111).trans X113).transR X126.fr).transR X132).trans X134).transR X186.fr).transR X204.fr).trans X219).trans X227) (by (first | omega | (intro s hs; omega) | (dsimp only; omega) | (intro s hs; dsimp only at hs; omega) | (simp only [blk_nils, blk_sl]; omega) | (intro s hs; simp only [blk_nils, blk_sl] at hs ⊢; omega) | (simp; done))))
          have c232 := equal_run F230.bs F231
          refine Wo.call (by kernel_rfl) (by kernel_rfl) c232 ?_
          clear c232
          refine Wo.boolS (fun q233 => ?_) (fun q233 => ?_)
          · skip
            have m234 := F213.1
            have m235 := F214.bq
            have k236 := F214.parts
            have m237 := F221.1
            have m238 := F222.bq
            have k239 := F222.parts
            have m240 := F230.bq
            have k241 := F230.parts
            have m242 := F231.bq
            have k243 := F231.parts
            refine Wo.pre 3 (by kernel_rfl) ?_
            have F244 := (F94.fr (((((((((X105.fr.trans0 X111).transL X113).transR X126.fr).transR X132).trans X134).transR X186.fr).transR X204.fr).trans X219).trans X227) (by (first | omega | (intro s hs; omega) | (dsimp only; omega) | (intro s hs; dsimp only at hs; omega) | (simp only [blk_nils, blk_sl]; omega) | (intro s hs; simp only [blk_nils, blk_sl] at hs ⊢; omega) | (simp; done))))
            refine Wo.val (v32) H224 (by kernel_rfl) (iop_ldP F244 (a := { b := H24.n, g := 0, o := 0 }) (by kernel_rfl) rfl (by kernel_rfl)) ?_
            refine Wo.pre 1 (by kernel_rfl) ?_
            have F245 := (F115.fr ((((((X126.fr.trans0 X132).transL X134).transR X186.fr).transR X204.fr).trans X219).trans X227) (by (first | omega | (intro s hs; omega) | (dsimp only; omega) | (intro s hs; dsimp only at hs; omega) | (simp only [blk_nils, blk_sl]; omega) | (intro s hs; simp only [blk_nils, blk_sl] at hs ⊢; omega) | (simp; done))))
            refine Wo.val (y) H224 (by kernel_rfl) (iop_ldP F245 (a := { b := h.n, g := 0, o := 0 }) (by kernel_rfl) rfl (by kernel_rfl)) ?_
            have F246 := (F95.fr (((((((((X105.fr.trans0 X111).transL X113).transR X126.fr).transR X132).trans X134).transR X186.fr).transR X204.fr).trans X219).trans X227) (by have d0 := q37.e; have d1 := m38.1.e; have d2 := m165.1.e; (first | omega | (intro s hs; omega) | (dsimp only; omega) | (intro s hs; dsimp only at hs; omega) | (simp only [blk_nils, blk_sl]; omega) | (intro s hs; simp only [blk_nils, blk_sl] at hs ⊢; omega) | (simp; done))))
            have F247 := (F116.fr ((((((X126.fr.trans0 X132).transL X134).transR X186.fr).transR X204.fr).trans X219).trans X227) (by (first | omega | (intro s hs; omega) | (dsimp only; omega) | (intro s hs; dsimp only at hs; omega) | (simp only [blk_nils, blk_sl]; omega) | (intro s hs; simp only [blk_nils, blk_sl] at hs ⊢; omega) | (simp; done))))
            have c248 := equal_run F246.bs F247
            refine Wo.call (by kernel_rfl) (by kernel_rfl) c248 ?_
            clear c248
            refine Wo.boolS (fun q249 => ?_) (fun q249 => ?_)
            · skip
              have m250 := F244.1
              have m251 := F245.1
              have m252 := F246.bq
              have k253 := F246.parts
              have m254 := F247.bq
              have k255 := F247.parts
              refine Wo.pre 3 (by kernel_rfl) ?_
              refine Wo.val (v44) H224 (by kernel_rfl) (iop_ldP F244 (a := { b := H24.n, g := 0, o := 1 }) (by kernel_rfl) rfl (by kernel_rfl)) ?_
              refine Wo.pre 1 (by kernel_rfl) ?_
              refine Wo.val (x) H224 (by kernel_rfl) (iop_ldP F245 (a := { b := h.n, g := 0, o := 1 }) (by kernel_rfl) rfl (by kernel_rfl)) ?_
              have F256 := (F96.fr (((((((((X105.fr.trans0 X111).transL X113).transR X126.fr).transR X132).trans X134).transR X186.fr).transR X204.fr).trans X219).trans X227) (by have d0 := q49.e; have d1 := m50.1.e; have d2 := m167.1.e; (first | omega | (intro s hs; omega) | (dsimp only; omega) | (intro s hs; dsimp only at hs; omega) | (simp only [blk_nils, blk_sl]; omega) | (intro s hs; simp only [blk_nils, blk_sl] at hs ⊢; omega) | (simp; done))))
              have F257 := (F117.fr ((((((X126.fr.trans0 X132).transL X134).transR X186.fr).transR X204.fr).trans X219).trans X227) (by (first | omega | (intro s hs; omega) | (dsimp only; omega) | (intro s hs; dsimp only at hs; omega) | (simp only [blk_nils, blk_sl]; omega) | (intro s hs; simp only [blk_nils, blk_sl] at hs ⊢; omega) | (simp; done))))
              have c258 := equal_run F256.bs F257
              refine Wo.call (by kernel_rfl) (by kernel_rfl) c258 ?_
              clear c258
              refine Wo.boolS (fun q259 => ?_) (fun q259 => ?_)
              · skip
                have m260 := F256.bq
                have k261 := F256.parts
                have m262 := F257.bq
                have k263 := F257.parts
                refine Wo.pre 2 (by kernel_rfl) ?_
                refine Wo.nil ?_
                refine Wp.ret ?_
                refine ⟨.inr rfl, (AV.bool true), (ret_one (res_tmp (by kernel_rfl) res_nil)), ?_⟩
                dsimp only
              · skip
                exact absurd ‹(_ == _) = false› (by simp)
            · skip
              exact absurd ‹(_ == _) = false› (by simp)
          · skip
            exact absurd ‹(_ == _) = false› (by simp)
        · skip
          exact Bool.noConfusion (‹sameE _ _ _ _ = false›.symm.trans (item_one (by with_reducible assumption) (by with_reducible assumption)).2)
      · skip
        exact (‹¬ (_ : Int) = _› (item_one (by with_reducible assumption) (by with_reducible assumption)).1).elim
    · skip
      exact Bool.noConfusion (‹sameE _ _ _ _ = false›.symm.trans (rec_one (by with_reducible assumption) (by with_reducible assumption)).2)
  · skip
    exact (‹¬ (_ : Int) = _› (rec_one (by with_reducible assumption) (by with_reducible assumption)).1).elim
end Go.Det

