/- The law EntryMakes. -/
import Derived.Test.YthahfhdibhgboaaSpoilR
set_option linter.unusedVariables false
set_option linter.unusedSimpArgs false
set_option linter.unusedSectionVars false
namespace Go.Det
open Go.Proofs
attribute [local irreducible] Wp Wo Wd iop ev slots quiets wanted put

/-- A block of two cells, made and filled. -/
theorem made2 {h : H} (ty : Nat) {z1 z2 x y : AV} (hz : ([z1, z2] : List AV).all AV.one = true) (hx : x.one = true) (hy : y.one = true) :
    ∃ H1 H2, Ext h H2 ∧ H2.n = h.n + 1 ∧ H2.get h.n = some (.cells 0 ty [x, y] 0 false) ∧ (∀ {u : IX} {ρ : IX → AV}, ρ u = .agg [z1, z2] → iop (.new ty u) ρ h = some (.val (.ptr ⟨h.n, 0, 0⟩) H1)) ∧
      (∀ {u w : IX} {ρ : IX → AV}, ρ u = .ptr ⟨h.n, 0, 0⟩ → ρ w = .agg [x, y] → iop (.st 2 u w) ρ H1 = some (.val .undef H2)) ∧ Ext h H1 ∧ H1.n = h.n + 1 := by
  refine ⟨h.new (.cells 0 ty [z1, z2] 0 false), (h.new (.cells 0 ty [z1, z2] 0 false)).set h.n (.cells 0 ty [x, y] 0 false), ⟨Nat.le_succ _, fun b hb => ?_⟩, rfl, H.get_set _ _ _, fun hu => iop_new hu hz, fun hu hw => iop_stA (a := ⟨h.n, 0, 0⟩) (cs := [x, y]) hu hw rfl ?_, Ext.new _ _, rfl⟩
  · rw [H.get_set_ne _ _ _ _ (by omega)]; exact h.get_new_ne b _ (by omega)
  · unfold H.st
    simp only [H.get_new]
    rw [if_pos (by simp [hx, hy])]
    rfl

theorem ld_two {h : H} {b ty : Nat} {x y : AV} (hg : h.get b = some (.cells 0 ty [x, y] 0 false)) : h.ldg ⟨b, 0, 0⟩ (some 2) = some (.agg [x, y]) ∧ h.ldg ⟨b, 0, 0⟩ none = some x ∧ h.ldg ⟨b, 0, 1⟩ none = some y := by
  simp [H.ldg, H.ld, H.ldn, H.row, hg, getL, cut]

theorem iop_eqbo {x y : IX} {ρ : IX → AV} {h : H} {a b : Bool} (hx : ρ x = .bool a) (hy : ρ y = .bool b) (e : a = b) : iop (.eq .bo false false x y) ρ h = some (.val (.bool true) h) := by
  subst e
  simp [iop, hx, hy, eqv]

theorem says_may {xs ys : List (AV × List UInt8)} (e : says ys = says xs) : mayE ys = mayE xs := by
  have h : ∀ l : List (AV × List UInt8), mayE l = (decide (1 ≤ (says l).length ∧ (says l).length ≤ 4) && (says l).all mayC) := fun l => by simp only [mayE, says, List.length_map, List.all_map]; rfl
  rw [h, h, e]
theorem says_c0 {xs ys : List (AV × List UInt8)} (e : says ys = says xs) : c0 ys = c0 xs := by
  have h : ∀ l : List (AV × List UInt8), c0 l = (says l).headD [] := fun l => by cases l <;> rfl
  rw [h, h, e]
theorem says_inner {xs ys : List (AV × List UInt8)} (e : says ys = says xs) : inner ys = inner xs := by
  have h : ∀ l : List (AV × List UInt8), inner l = ((says l).map certB).flatten := fun l => by simp only [inner, says, List.map_map]; rfl
  rw [h, h, e]
theorem says_drop1 {xs ys : List (AV × List UInt8)} (e : says ys = says xs) : says (ys.drop 1) = says (xs.drop 1) := by
  simp only [says, List.map_drop] at e ⊢; rw [e]
theorem says_made {xs ys : List (AV × List UInt8)} (e : says ys = says xs) (t : Nat) : leafE ys = leafE xs ∧ leafX t ys = leafX t xs ∧ extraX ys = extraX xs ∧ recX t ys = recX t xs := by
  simp only [leafE, leafX, extraX, recX, listB, says_may e, says_c0 e, says_inner e, says_inner (says_drop1 e), and_self]
theorem made_len (xs : List (AV × List UInt8)) (t : Nat) : (leafX t xs).length ≤ 3000 ∧ (extraX xs).length ≤ 3000 ∧ (recX t xs).length ≤ 3000 := by
  unfold leafX extraX recX
  by_cases hm : mayE xs = true
  · obtain ⟨p, h1, h2, h3, h4, h5⟩ := mayE_first hm
    obtain ⟨hs, _⟩ := mayE_small hm
    have i1 := inner_len xs hs.2
    have i2 := inner_len (xs.drop 1) (fun q hq => hs.2 q (List.mem_of_mem_drop hq))
    have hl := hs.1
    have hd : (xs.drop 1).length ≤ 4 := by rw [List.length_drop]; omega
    simp only [if_pos hm, leafB, listB, List.length_append, digits_len, h2, List.length_cons, List.length_nil]
    refine ⟨by omega, by omega, by omega⟩
  · simp [if_neg hm]

set_option maxHeartbeats 8000000 in
theorem makes_run {h : H} {v w : AV} {xs ys : List (AV × List UInt8)} (hc : Ch h v xs) (hd : Ch h w ys) (hx : ∀ p ∈ xs, p.2.length ≤ maxRow) (hlx : xs.length * 24 ≤ 140737488355328) (hly : ys.length < 2 ^ 62) {t u : Nat} (ht : t < 2 ^ 64) (hu : u < 2 ^ 64) :
    ∃ r h', Runs TF 10 [entV t v, entV u w] h r h' ∧ r = .bool true := by
  have hmx : 200000000000000 = maxRow := rfl
  have hlen : xs.length < 2 ^ 62 := by omega
  refine Runs.ofP f10 rfl ?_
  obtain ⟨H1, X1, n1, en1, Ld1⟩ := ent_new hc t
  obtain ⟨H2, X2, n2, en2, Ld2⟩ := ent_new (hd.ext X1) u
  obtain ⟨r3, H3, c3, v', zs, rfl, X3, O3, hsy⟩ := owne_run (hc.ext (X1.trans X2)) hx hlx t
  have zl : zs.length = xs.length := by rw [← says_len, hsy, says_len]
  obtain ⟨e1, e2, e3, e4⟩ := says_made hsy t
  obtain ⟨l1, l2, l3⟩ := made_len xs t
  have pv := hc.parts
  obtain ⟨H4a, H4, X4, n4, g4, en4, st4, _, _⟩ := made2 (h := H3) 70 (z1 := .int .u64 0) (z2 := .nils) (x := .int .u64 t) (y := v') rfl rfl O3.ch.parts.2.1
  have D4 := ((X1.trans X2).trans X3).trans X4
  have S1 := (X2.trans X3).trans X4
  have S2 := X3.trans X4
  have hch := O3.ch.ext X4
  have he := hc.ext D4
  have hoth := hd.ext D4
  have b4 : H3.n < H4.n := by omega
  have E4 := Ext.refl H4
  have F4 := ld_two ((E4.2 _ b4).trans g4)
  have G4 := Ld1 H4 (S1.trans E4)
  have M4 := Ld2 H4 (S2.trans E4)
  obtain ⟨r5, H5, c5, z5, rfl, X5, o5⟩ := leaf_run (hch.ext E4) (by omega) ht
  have E5 := E4.trans X5
  rw [e1] at c5
  rw [e2] at o5
  have F5 := ld_two ((E5.2 _ b4).trans g4)
  have G5 := Ld1 H5 (S1.trans E5)
  have M5 := Ld2 H5 (S2.trans E5)
  obtain ⟨r6, H6, c6, z6, rfl, X6, o6⟩ := rleaf_run (he.ext E5) (by omega) ht
  have E6 := E5.trans X6
  have F6 := ld_two ((E6.2 _ b4).trans g4)
  have G6 := Ld1 H6 (S1.trans E6)
  have M6 := Ld2 H6 (S2.trans E6)
  obtain ⟨r7, H7, c7, z7, rfl, X7, o7⟩ := extra_run (hch.ext E6) (by omega) ht
  have E7 := E6.trans X7
  rw [e1] at c7
  rw [e3] at o7
  have F7 := ld_two ((E7.2 _ b4).trans g4)
  have G7 := Ld1 H7 (S1.trans E7)
  have M7 := Ld2 H7 (S2.trans E7)
  obtain ⟨r8, H8, c8, z8, rfl, X8, o8⟩ := rextra_run (he.ext E7) (by omega) ht
  have E8 := E7.trans X8
  have F8 := ld_two ((E8.2 _ b4).trans g4)
  have G8 := Ld1 H8 (S1.trans E8)
  have M8 := Ld2 H8 (S2.trans E8)
  obtain ⟨r9, H9, c9, z9, rfl, X9, o9⟩ := record_run (hch.ext E8) (by omega) ht
  have E9 := E8.trans X9
  rw [e1] at c9
  rw [e4] at o9
  have F9 := ld_two ((E9.2 _ b4).trans g4)
  have G9 := Ld1 H9 (S1.trans E9)
  have M9 := Ld2 H9 (S2.trans E9)
  obtain ⟨r10, H10, c10, z10, rfl, X10, o10⟩ := rrecord_run (he.ext E9) (by omega) ht
  have E10 := E9.trans X10
  have F10 := ld_two ((E10.2 _ b4).trans g4)
  have G10 := Ld1 H10 (S1.trans E10)
  have M10 := Ld2 H10 (S2.trans E10)
  obtain ⟨r11, H11, c11, z11, rfl, X11, o11⟩ := sct_run (hch.ext E10) (by omega) ht
  have E11 := E10.trans X11
  rw [e1] at c11
  rw [e2] at o11
  have F11 := ld_two ((E11.2 _ b4).trans g4)
  have G11 := Ld1 H11 (S1.trans E11)
  have M11 := Ld2 H11 (S2.trans E11)
  obtain ⟨r12, H12, c12, z12, rfl, X12, o12⟩ := rsct_run (he.ext E11) (by omega) ht
  have E12 := E11.trans X12
  have F12 := ld_two ((E12.2 _ b4).trans g4)
  have G12 := Ld1 H12 (S1.trans E12)
  have M12 := Ld2 H12 (S2.trans E12)
  obtain ⟨r13, H13, c13, z13, w13, rfl, X13, o13, q13, _⟩ := item_run (hch.ext E12) (by omega) ht
  rw [e1] at c13
  rw [e2] at o13
  rw [e3] at q13
  have E13 := E12.trans X13
  obtain ⟨H14a, H14, X14, n14, g14, en14, st14, _, _⟩ := made2 (h := H13) 78 (z1 := .nils) (z2 := .nils) (x := z13) (y := w13) rfl o13.bs.parts.2.1 q13.bs.parts.2.1
  have E14 := E13.trans X14
  have F14 := ld_two ((E14.2 _ b4).trans g4)
  have G14 := Ld1 H14 (S1.trans E14)
  have M14 := Ld2 H14 (S2.trans E14)
  obtain ⟨r15, H15, c15, z15, w15, rfl, X15, o15, q15, _⟩ := ritem_run (he.ext E14) (by omega) ht
  have E15 := E14.trans X15
  obtain ⟨H16a, H16, X16, n16, g16, en16, st16, _, _⟩ := made2 (h := H15) 78 (z1 := .nils) (z2 := .nils) (x := z15) (y := w15) rfl o15.bs.parts.2.1 q15.bs.parts.2.1
  have E16 := E15.trans X16
  have F16 := ld_two ((E16.2 _ b4).trans g4)
  have G16 := Ld1 H16 (S1.trans E16)
  have M16 := Ld2 H16 (S2.trans E16)
  have R5 := o5.ext (((((((((((X6).trans X7).trans X8).trans X9).trans X10).trans X11).trans X12).trans X13).trans X14).trans X15).trans X16)
  have R6 := o6.ext ((((((((((X7).trans X8).trans X9).trans X10).trans X11).trans X12).trans X13).trans X14).trans X15).trans X16)
  have R7 := o7.ext (((((((((X8).trans X9).trans X10).trans X11).trans X12).trans X13).trans X14).trans X15).trans X16)
  have R8 := o8.ext ((((((((X9).trans X10).trans X11).trans X12).trans X13).trans X14).trans X15).trans X16)
  have R9 := o9.ext (((((((X10).trans X11).trans X12).trans X13).trans X14).trans X15).trans X16)
  have R10 := o10.ext ((((((X11).trans X12).trans X13).trans X14).trans X15).trans X16)
  have R11 := o11.ext (((((X12).trans X13).trans X14).trans X15).trans X16)
  have R12 := o12.ext ((((X13).trans X14).trans X15).trans X16)
  have R13 := o13.ext (((X14).trans X15).trans X16)
  have T13 := q13.ext (((X14).trans X15).trans X16)
  have R15 := o15.ext X16
  have T15 := q15.ext X16
  have p0 := equal_run R5.bs R6.bs
  rw [beq_self_eq_true] at p0
  have p1 := equal_run R7.bs R8.bs
  rw [beq_self_eq_true] at p1
  have p2 := equal_run R9.bs R10.bs
  rw [beq_self_eq_true] at p2
  have p3 := equal_run R11.bs R12.bs
  rw [beq_self_eq_true] at p3
  have p4 := equal_run R13.bs R15.bs
  rw [beq_self_eq_true] at p4
  have p5 := equal_run T13.bs T15.bs
  rw [beq_self_eq_true] at p5
  have m1 := X13.1
  have m2 := X14.1
  have m3 := X15.1
  have m4 := X16.1
  have g14' : H16.get H13.n = some (.cells 0 78 [z13, w13] 0 false) := by rw [X16.2 _ (by omega), X15.2 _ (by omega)]; exact g14
  have A := ld_two g14'
  have B := ld_two g16
  obtain ⟨r17, H17, c17, rfl, X17⟩ := may_run (hch.ext E16) (by omega) t
  rw [says_may hsy] at c17
  have E17 := E16.trans X17
  have F17 := ld_two ((E17.2 _ b4).trans g4)
  have G17 := Ld1 H17 (S1.trans E17)
  have M17 := Ld2 H17 (S2.trans E17)
  obtain ⟨r18, H18, c18, rfl, X18⟩ := rmay_run (he.ext E17) (by omega) t
  have E18 := E17.trans X18
  have F18 := ld_two ((E18.2 _ b4).trans g4)
  have G18 := Ld1 H18 (S1.trans E18)
  have M18 := Ld2 H18 (S2.trans E18)
  obtain ⟨r19, H19, c19, rfl, X19⟩ := samee_run (hch.ext E18) (hoth.ext E18) (by omega) t u
  have sE : sameE t zs u ys = sameE t xs u ys := by simp only [sameE, hsy]
  rw [sE] at c19
  have E19 := E18.trans X19
  have F19 := ld_two ((E19.2 _ b4).trans g4)
  have G19 := Ld1 H19 (S1.trans E19)
  have M19 := Ld2 H19 (S2.trans E19)
  obtain ⟨r20, H20, c20, rfl, X20⟩ := rsamee_run (he.ext E19) (hoth.ext E19) (by omega) t u
  have E20 := E19.trans X20
  have Y := ((X17.trans X18).trans X19).trans X20
  have Z := (X15.trans X16).trans Y
  have g14'' : H20.get H13.n = some (.cells 0 78 [z13, w13] 0 false) := by rw [Y.2 _ (by omega)]; exact g14'
  have A20 := ld_two g14''
  obtain ⟨rs, hrs⟩ : ∃ rs : List (AV × List UInt8), rs = [(z5, leafX t xs), (z7, extraX xs), (z9, recX t xs), (z11, leafX t xs), (z13, leafX t xs), (w13, extraX xs)] := ⟨_, rfl⟩
  obtain ⟨H21, hH21⟩ : ∃ H21, H21 = H20.new (.cells 0 22 [z5, z7, z9, z11, z13, w13] 0 false) := ⟨_, rfl⟩
  have X21 : Ext H20 H21 := by rw [hH21]; exact Ext.new _ _
  have g21 : H21.get H20.n = some (.cells 0 22 (rs.map (·.1)) 0 false) := by rw [hH21, hrs]; exact H20.get_new _
  have pa := o5.bs.parts
  have pb := o7.bs.parts
  have pc := o9.bs.parts
  have pd := o11.bs.parts
  have pe := o13.bs.parts
  have pf := q13.bs.parts
  have bslc : ∀ {y1 y2 y3 y4 y5 y6 : IX} {ρ : IX → AV}, ρ y1 = z5 → ρ y2 = z7 → ρ y3 = z9 → ρ y4 = z11 → ρ y5 = z13 → ρ y6 = w13 → iop (.bsl 22 [.nils, .nils, .nils, .nils, .nils, .nils] 6 [(0, 1, y1), (1, 1, y2), (2, 1, y3), (3, 1, y4), (4, 1, y5), (5, 1, y6)]) ρ H20 = some (.val (.sl ⟨H20.n, 0, 0⟩ 6 (.ex 6)) H21) := by
    intro y1 y2 y3 y4 y5 y6 ρ a1 a2 a3 a4 a5 a6
    simp [iop, fillL, a1, a2, a3, a4, a5, a6, pa.1, pb.1, pc.1, pd.1, pe.1, pf.1, pa.2.1, pb.2.1, pc.2.1, pd.2.1, pe.2.1, pf.2.1, putAt, ← hH21]
  have k5 := E5.1
  have k6 := X6.1
  have k7 := X7.1
  have k8 := X8.1
  have k9 := X9.1
  have k10 := X10.1
  have k11 := X11.1
  have k12 := X12.1
  have k4 := X5.1
  have ho : ∀ p ∈ rs, Ow H4.n H21 p.1 p.2 := by
    have Y2 := Y.trans X21
    rw [hrs]
    intro p hp
    simp only [List.mem_cons, List.not_mem_nil, or_false] at hp
    rcases hp with rfl | rfl | rfl | rfl | rfl | rfl
    · exact (R5.ext Y2).mono (by omega)
    · exact (R7.ext Y2).mono (by omega)
    · exact (R9.ext Y2).mono (by omega)
    · exact (R11.ext Y2).mono (by omega)
    · exact (R13.ext Y2).mono (by omega)
    · exact (T13.ext Y2).mono (by omega)
  have hm : ∀ p ∈ rs, p.2.length ≤ maxRow := by
    rw [hrs]
    intro p hp
    simp only [List.mem_cons, List.not_mem_nil, or_false] at hp
    rcases hp with rfl | rfl | rfl | rfl | rfl | rfl <;> (first | exact Nat.le_trans l1 (by decide) | exact Nat.le_trans l2 (by decide) | exact Nat.le_trans l3 (by decide))
  obtain ⟨r22, H22, c22, S22⟩ := spoile_run (lo := H4.n) g21 (by rw [hrs]; simp) hm ho
  rw [show rs.length = 6 by rw [hrs]; rfl] at c22
  have E21 := E20.trans X21
  have m21 := E21.1
  have E22 : Ext H4 H22 := ⟨by rw [S22.1]; exact m21, fun b hb => by rw [S22.2 b (.inl hb)]; exact E21.2 b hb⟩
  have F22 := ld_two ((E22.2 _ b4).trans g4)
  have G22 := Ld1 H22 (S1.trans E22)
  have M22 := Ld2 H22 (S2.trans E22)
  obtain ⟨r23, H23, c23, rfl, _⟩ := rsamee_run (hch.ext E22) (he.ext E22) (by omega) t t
  rw [show sameE t zs t xs = true by simp [sameE, hsy]] at c23
  refine Wp.seq ?_
  refine Wp.region ?_
  refine Wo.val _ _ (by kernel_rfl) (en1 (by kernel_rfl)) ?_
  refine Wo.val _ _ (by kernel_rfl) (en2 (by kernel_rfl)) ?_
  refine Wo.pre 1 (by kernel_rfl) ?_
  refine Wo.nil ?_
  refine Wp.seq ?_
  refine Wp.region ?_
  refine Wo.val (entV t v) H2 (by kernel_rfl) (iop_ld (a := ⟨h.n, 0, 0⟩) (by kernel_rfl) (Ld1 H2 X2).2.2) ?_
  refine Wo.call (by kernel_rfl) (by kernel_rfl) (c3) ?_
  refine Wo.val _ _ (by kernel_rfl) (en4 (by kernel_rfl)) ?_
  refine Wo.val _ _ (by kernel_rfl) (st4 (by kernel_rfl) (by kernel_rfl)) ?_
  refine Wo.nil ?_
  refine Wp.seq ?_
  refine Wp.region ?_
  refine Wo.val (entV t v') H4 (by kernel_rfl) (iop_ld (a := ⟨H3.n, 0, 0⟩) (by kernel_rfl) F4.1) ?_
  refine Wo.call (by kernel_rfl) (by kernel_rfl) (c5) ?_
  refine Wo.pre 1 (by kernel_rfl) ?_
  refine Wo.pre 1 (by kernel_rfl) ?_
  refine Wo.pre 1 (by kernel_rfl) ?_
  refine Wo.pre 1 (by kernel_rfl) ?_
  refine Wo.pre 1 (by kernel_rfl) ?_
  refine Wo.nil ?_
  refine Wp.seq ?_
  refine Wp.region ?_
  refine Wo.val (entV t v) H5 (by kernel_rfl) (iop_ld (a := ⟨h.n, 0, 0⟩) (by kernel_rfl) G5.2.2) ?_
  refine Wo.call (by kernel_rfl) (by kernel_rfl) (c6) ?_
  refine Wo.pre 1 (by kernel_rfl) ?_
  refine Wo.pre 1 (by kernel_rfl) ?_
  refine Wo.pre 1 (by kernel_rfl) ?_
  refine Wo.pre 1 (by kernel_rfl) ?_
  refine Wo.pre 1 (by kernel_rfl) ?_
  refine Wo.nil ?_
  refine Wp.seq ?_
  refine Wp.region ?_
  refine Wo.val (entV t v') H6 (by kernel_rfl) (iop_ld (a := ⟨H3.n, 0, 0⟩) (by kernel_rfl) F6.1) ?_
  refine Wo.call (by kernel_rfl) (by kernel_rfl) (c7) ?_
  refine Wo.pre 1 (by kernel_rfl) ?_
  refine Wo.pre 1 (by kernel_rfl) ?_
  refine Wo.pre 1 (by kernel_rfl) ?_
  refine Wo.pre 1 (by kernel_rfl) ?_
  refine Wo.pre 1 (by kernel_rfl) ?_
  refine Wo.nil ?_
  refine Wp.seq ?_
  refine Wp.region ?_
  refine Wo.val (entV t v) H7 (by kernel_rfl) (iop_ld (a := ⟨h.n, 0, 0⟩) (by kernel_rfl) G7.2.2) ?_
  refine Wo.call (by kernel_rfl) (by kernel_rfl) (c8) ?_
  refine Wo.pre 1 (by kernel_rfl) ?_
  refine Wo.pre 1 (by kernel_rfl) ?_
  refine Wo.pre 1 (by kernel_rfl) ?_
  refine Wo.pre 1 (by kernel_rfl) ?_
  refine Wo.pre 1 (by kernel_rfl) ?_
  refine Wo.nil ?_
  refine Wp.seq ?_
  refine Wp.region ?_
  refine Wo.val (entV t v') H8 (by kernel_rfl) (iop_ld (a := ⟨H3.n, 0, 0⟩) (by kernel_rfl) F8.1) ?_
  refine Wo.call (by kernel_rfl) (by kernel_rfl) (c9) ?_
  refine Wo.pre 1 (by kernel_rfl) ?_
  refine Wo.pre 1 (by kernel_rfl) ?_
  refine Wo.pre 1 (by kernel_rfl) ?_
  refine Wo.pre 1 (by kernel_rfl) ?_
  refine Wo.pre 1 (by kernel_rfl) ?_
  refine Wo.nil ?_
  refine Wp.seq ?_
  refine Wp.region ?_
  refine Wo.val (entV t v) H9 (by kernel_rfl) (iop_ld (a := ⟨h.n, 0, 0⟩) (by kernel_rfl) G9.2.2) ?_
  refine Wo.call (by kernel_rfl) (by kernel_rfl) (c10) ?_
  refine Wo.pre 1 (by kernel_rfl) ?_
  refine Wo.pre 1 (by kernel_rfl) ?_
  refine Wo.pre 1 (by kernel_rfl) ?_
  refine Wo.pre 1 (by kernel_rfl) ?_
  refine Wo.pre 1 (by kernel_rfl) ?_
  refine Wo.nil ?_
  refine Wp.seq ?_
  refine Wp.region ?_
  refine Wo.val (entV t v') H10 (by kernel_rfl) (iop_ld (a := ⟨H3.n, 0, 0⟩) (by kernel_rfl) F10.1) ?_
  refine Wo.call (by kernel_rfl) (by kernel_rfl) (c11) ?_
  refine Wo.pre 1 (by kernel_rfl) ?_
  refine Wo.pre 1 (by kernel_rfl) ?_
  refine Wo.pre 1 (by kernel_rfl) ?_
  refine Wo.pre 1 (by kernel_rfl) ?_
  refine Wo.pre 1 (by kernel_rfl) ?_
  refine Wo.nil ?_
  refine Wp.seq ?_
  refine Wp.region ?_
  refine Wo.val (entV t v) H11 (by kernel_rfl) (iop_ld (a := ⟨h.n, 0, 0⟩) (by kernel_rfl) G11.2.2) ?_
  refine Wo.call (by kernel_rfl) (by kernel_rfl) (c12) ?_
  refine Wo.pre 1 (by kernel_rfl) ?_
  refine Wo.pre 1 (by kernel_rfl) ?_
  refine Wo.pre 1 (by kernel_rfl) ?_
  refine Wo.pre 1 (by kernel_rfl) ?_
  refine Wo.pre 1 (by kernel_rfl) ?_
  refine Wo.nil ?_
  refine Wp.seq ?_
  refine Wp.region ?_
  refine Wo.val (entV t v') H12 (by kernel_rfl) (iop_ld (a := ⟨H3.n, 0, 0⟩) (by kernel_rfl) F12.1) ?_
  refine Wo.call (by kernel_rfl) (by kernel_rfl) (c13) ?_
  refine Wo.pre 1 (by kernel_rfl) ?_
  refine Wo.pre 1 (by kernel_rfl) ?_
  refine Wo.pre 1 (by kernel_rfl) ?_
  refine Wo.val _ _ (by kernel_rfl) (en14 (by kernel_rfl)) ?_
  refine Wo.val _ _ (by kernel_rfl) (st14 (by kernel_rfl) (by kernel_rfl)) ?_
  refine Wo.pre 1 (by kernel_rfl) ?_
  refine Wo.nil ?_
  refine Wp.seq ?_
  refine Wp.region ?_
  refine Wo.val (entV t v) H14 (by kernel_rfl) (iop_ld (a := ⟨h.n, 0, 0⟩) (by kernel_rfl) G14.2.2) ?_
  refine Wo.call (by kernel_rfl) (by kernel_rfl) (c15) ?_
  refine Wo.pre 1 (by kernel_rfl) ?_
  refine Wo.pre 1 (by kernel_rfl) ?_
  refine Wo.pre 1 (by kernel_rfl) ?_
  refine Wo.val _ _ (by kernel_rfl) (en16 (by kernel_rfl)) ?_
  refine Wo.val _ _ (by kernel_rfl) (st16 (by kernel_rfl) (by kernel_rfl)) ?_
  refine Wo.pre 1 (by kernel_rfl) ?_
  refine Wo.nil ?_
  refine Wp.seq ?_
  refine Wp.draw ?_
  refine Wd.pure (by kernel_rfl) (by kernel_rfl) ?_
  refine Wd.pure (by kernel_rfl) (by kernel_rfl) ?_
  refine Wd.make (.bool true) H16 (by kernel_rfl) (by kernel_rfl) (iop_eqI (k := .i64) (a := leafE xs) (b := leafE xs) (by kernel_rfl) (by kernel_rfl) rfl) ?_
  refine Wd.pure (by kernel_rfl) (by kernel_rfl) ?_
  refine Wd.pure (by kernel_rfl) (by kernel_rfl) ?_
  refine Wd.pure (by kernel_rfl) (by kernel_rfl) ?_
  refine Wd.call (by kernel_rfl) (by kernel_rfl) p0 (holds_of [] (by kernel_rfl) rfl) ?_
  refine Wd.pure (by kernel_rfl) (by kernel_rfl) ?_
  refine Wd.pure (by kernel_rfl) (by kernel_rfl) ?_
  refine Wd.pure (by kernel_rfl) (by kernel_rfl) ?_
  refine Wd.pure (by kernel_rfl) (by kernel_rfl) ?_
  refine Wd.make (.bool true) H16 (by kernel_rfl) (by kernel_rfl) (iop_eqI (k := .i64) (a := leafE xs) (b := leafE xs) (by kernel_rfl) (by kernel_rfl) rfl) ?_
  refine Wd.pure (by kernel_rfl) (by kernel_rfl) ?_
  refine Wd.pure (by kernel_rfl) (by kernel_rfl) ?_
  refine Wd.pure (by kernel_rfl) (by kernel_rfl) ?_
  refine Wd.pure (by kernel_rfl) (by kernel_rfl) ?_
  refine Wd.call (by kernel_rfl) (by kernel_rfl) p1 (holds_of [] (by kernel_rfl) rfl) ?_
  refine Wd.pure (by kernel_rfl) (by kernel_rfl) ?_
  refine Wd.pure (by kernel_rfl) (by kernel_rfl) ?_
  refine Wd.pure (by kernel_rfl) (by kernel_rfl) ?_
  refine Wd.pure (by kernel_rfl) (by kernel_rfl) ?_
  refine Wd.make (.bool true) H16 (by kernel_rfl) (by kernel_rfl) (iop_eqI (k := .i64) (a := leafE xs) (b := leafE xs) (by kernel_rfl) (by kernel_rfl) rfl) ?_
  refine Wd.pure (by kernel_rfl) (by kernel_rfl) ?_
  refine Wd.pure (by kernel_rfl) (by kernel_rfl) ?_
  refine Wd.pure (by kernel_rfl) (by kernel_rfl) ?_
  refine Wd.pure (by kernel_rfl) (by kernel_rfl) ?_
  refine Wd.call (by kernel_rfl) (by kernel_rfl) p2 (holds_of [] (by kernel_rfl) rfl) ?_
  refine Wd.pure (by kernel_rfl) (by kernel_rfl) ?_
  refine Wd.pure (by kernel_rfl) (by kernel_rfl) ?_
  refine Wd.pure (by kernel_rfl) (by kernel_rfl) ?_
  refine Wd.pure (by kernel_rfl) (by kernel_rfl) ?_
  refine Wd.make (.bool true) H16 (by kernel_rfl) (by kernel_rfl) (iop_eqI (k := .i64) (a := leafE xs) (b := leafE xs) (by kernel_rfl) (by kernel_rfl) rfl) ?_
  refine Wd.pure (by kernel_rfl) (by kernel_rfl) ?_
  refine Wd.pure (by kernel_rfl) (by kernel_rfl) ?_
  refine Wd.pure (by kernel_rfl) (by kernel_rfl) ?_
  refine Wd.pure (by kernel_rfl) (by kernel_rfl) ?_
  refine Wd.call (by kernel_rfl) (by kernel_rfl) p3 (holds_of [] (by kernel_rfl) rfl) ?_
  refine Wd.pure (by kernel_rfl) (by kernel_rfl) ?_
  refine Wd.pure (by kernel_rfl) (by kernel_rfl) ?_
  refine Wd.pure (by kernel_rfl) (by kernel_rfl) ?_
  refine Wd.pure (by kernel_rfl) (by kernel_rfl) ?_
  refine Wd.make (.bool true) H16 (by kernel_rfl) (by kernel_rfl) (iop_eqI (k := .i64) (a := leafE xs) (b := leafE xs) (by kernel_rfl) (by kernel_rfl) rfl) ?_
  refine Wd.pure (by kernel_rfl) (by kernel_rfl) ?_
  refine Wd.pure (by kernel_rfl) (by kernel_rfl) ?_
  refine Wd.pure (by kernel_rfl) (by kernel_rfl) ?_
  refine Wd.read z13 (.ld none (.c (.ptr ⟨H13.n, 0, 0⟩))) (by kernel_rfl) (by kernel_rfl) (iop_ld (a := ⟨H13.n, 0, 0⟩) (by kernel_rfl) A.2.1) ?_
  refine Wd.pure (by kernel_rfl) (by kernel_rfl) ?_
  refine Wd.read z15 (.ld none (.c (.ptr ⟨H15.n, 0, 0⟩))) (by kernel_rfl) (by kernel_rfl) (iop_ld (a := ⟨H15.n, 0, 0⟩) (by kernel_rfl) B.2.1) ?_
  refine Wd.call (by kernel_rfl) (by kernel_rfl) p4 (holds_of [(.ld none (.c (.ptr ⟨H15.n, 0, 0⟩)), z15, 47), (.ld none (.c (.ptr ⟨H13.n, 0, 0⟩)), z13, 45)] (by kernel_rfl) (holds_and (rd_ld B.2.1) (holds_and (rd_ld A.2.1) rfl))) ?_
  refine Wd.pure (by kernel_rfl) (by kernel_rfl) ?_
  refine Wd.pure (by kernel_rfl) (by kernel_rfl) ?_
  refine Wd.pure (by kernel_rfl) (by kernel_rfl) ?_
  refine Wd.read w13 (.ld none (.c (.ptr ⟨H13.n, 0, 1⟩))) (by kernel_rfl) (by kernel_rfl) (iop_ld (a := ⟨H13.n, 0, 1⟩) (by kernel_rfl) A.2.2) ?_
  refine Wd.pure (by kernel_rfl) (by kernel_rfl) ?_
  refine Wd.read w15 (.ld none (.c (.ptr ⟨H15.n, 0, 1⟩))) (by kernel_rfl) (by kernel_rfl) (iop_ld (a := ⟨H15.n, 0, 1⟩) (by kernel_rfl) B.2.2) ?_
  refine Wd.call (by kernel_rfl) (by kernel_rfl) p5 (holds_of [(.ld none (.c (.ptr ⟨H15.n, 0, 1⟩)), w15, 54), (.ld none (.c (.ptr ⟨H13.n, 0, 1⟩)), w13, 52)] (by kernel_rfl) (holds_and (rd_ld B.2.2) (holds_and (rd_ld A.2.2) rfl))) ?_
  refine Wd.pure (by kernel_rfl) (by kernel_rfl) ?_
  refine Wd.pure (by kernel_rfl) (by kernel_rfl) ?_
  refine Wd.read (entV t v') (.ld (some 2) (.c (.ptr ⟨H3.n, 0, 0⟩))) (by kernel_rfl) (by kernel_rfl) (iop_ld (a := ⟨H3.n, 0, 0⟩) (by kernel_rfl) F16.1) ?_
  refine Wd.read (entV t v) (.ld (some 2) (.c (.ptr ⟨h.n, 0, 0⟩))) (by kernel_rfl) (by kernel_rfl) (iop_ld (a := ⟨h.n, 0, 0⟩) (by kernel_rfl) G16.2.2) ?_
  refine Wd.call (by kernel_rfl) (by kernel_rfl) c17 (holds_of [(.ld (some 2) (.c (.ptr ⟨h.n, 0, 0⟩)), entV t v, 60), (.ld (some 2) (.c (.ptr ⟨H3.n, 0, 0⟩)), entV t v', 58)] (by kernel_rfl) (holds_and (rd_ld G16.2.2) (holds_and (rd_ld F16.1) rfl))) ?_
  refine Wd.call (by kernel_rfl) (by kernel_rfl) c18 (holds_of [(.ld (some 2) (.c (.ptr ⟨h.n, 0, 0⟩)), entV t v, 60)] (by kernel_rfl) (holds_and (rd_ld G17.2.2) rfl)) ?_
  refine Wd.make (.bool true) H18 (by kernel_rfl) (by kernel_rfl) (iop_eqbo (a := mayE xs) (b := mayE xs) (by kernel_rfl) (by kernel_rfl) rfl) ?_
  refine Wd.pure (by kernel_rfl) (by kernel_rfl) ?_
  refine Wd.pure (by kernel_rfl) (by kernel_rfl) ?_
  refine Wd.read (entV t v') (.ld (some 2) (.c (.ptr ⟨H3.n, 0, 0⟩))) (by kernel_rfl) (by kernel_rfl) (iop_ld (a := ⟨H3.n, 0, 0⟩) (by kernel_rfl) F18.1) ?_
  refine Wd.read (entV u w) (.ld (some 2) (.c (.ptr ⟨H1.n, 0, 0⟩))) (by kernel_rfl) (by kernel_rfl) (iop_ld (a := ⟨H1.n, 0, 0⟩) (by kernel_rfl) M18.2.2) ?_
  refine Wd.read (entV t v) (.ld (some 2) (.c (.ptr ⟨h.n, 0, 0⟩))) (by kernel_rfl) (by kernel_rfl) (iop_ld (a := ⟨h.n, 0, 0⟩) (by kernel_rfl) G18.2.2) ?_
  refine Wd.read (entV u w) (.ld (some 2) (.c (.ptr ⟨H1.n, 0, 0⟩))) (by kernel_rfl) (by kernel_rfl) (iop_ld (a := ⟨H1.n, 0, 0⟩) (by kernel_rfl) M18.2.2) ?_
  refine Wd.call (by kernel_rfl) (by kernel_rfl) c19 (holds_of [(.ld (some 2) (.c (.ptr ⟨H1.n, 0, 0⟩)), entV u w, 69), (.ld (some 2) (.c (.ptr ⟨h.n, 0, 0⟩)), entV t v, 68), (.ld (some 2) (.c (.ptr ⟨H1.n, 0, 0⟩)), entV u w, 66), (.ld (some 2) (.c (.ptr ⟨H3.n, 0, 0⟩)), entV t v', 65)] (by kernel_rfl) (holds_and (rd_ld M18.2.2) (holds_and (rd_ld G18.2.2) (holds_and (rd_ld M18.2.2) (holds_and (rd_ld F18.1) rfl))))) ?_
  refine Wd.call (by kernel_rfl) (by kernel_rfl) c20 (holds_of [(.ld (some 2) (.c (.ptr ⟨H1.n, 0, 0⟩)), entV u w, 69), (.ld (some 2) (.c (.ptr ⟨h.n, 0, 0⟩)), entV t v, 68)] (by kernel_rfl) (holds_and (rd_ld M19.2.2) (holds_and (rd_ld G19.2.2) rfl))) ?_
  refine Wd.make (.bool true) H20 (by kernel_rfl) (by kernel_rfl) (iop_eqbo (a := sameE t xs u ys) (b := sameE t xs u ys) (by kernel_rfl) (by kernel_rfl) rfl) ?_
  refine Wd.pure (by kernel_rfl) (by kernel_rfl) ?_
  refine Wd.pure (by kernel_rfl) (by kernel_rfl) ?_
  refine Wd.done (holds_of [] (by kernel_rfl) rfl) ?_
  refine Wp.seq ?_
  refine Wp.region ?_
  refine Wo.pre 1 (by kernel_rfl) ?_
  refine Wo.pre 1 (by kernel_rfl) ?_
  refine Wo.pre 1 (by kernel_rfl) ?_
  refine Wo.pre 1 (by kernel_rfl) ?_
  refine Wo.pre 1 (by kernel_rfl) ?_
  refine Wo.val z13 H20 (by kernel_rfl) (iop_ld (a := ⟨H13.n, 0, 0⟩) (by kernel_rfl) A20.2.1) ?_
  refine Wo.pre 1 (by kernel_rfl) ?_
  refine Wo.val w13 H20 (by kernel_rfl) (iop_ld (a := ⟨H13.n, 0, 1⟩) (by kernel_rfl) A20.2.2) ?_
  refine Wo.val _ _ (by kernel_rfl) (bslc (by kernel_rfl) (by kernel_rfl) (by kernel_rfl) (by kernel_rfl) (by kernel_rfl) (by kernel_rfl)) ?_
  refine Wo.call (by kernel_rfl) (by kernel_rfl) (c22) ?_
  refine Wo.nil ?_
  refine Wp.seq ?_
  refine Wp.region ?_
  refine Wo.call (by kernel_rfl) (by kernel_rfl) ((awake_run H22)) ?_
  refine Wo.pre 1 (by kernel_rfl) ?_
  refine Wo.pre 1 (by kernel_rfl) ?_
  refine Wo.pre 1 (by kernel_rfl) ?_
  refine Wo.pre 1 (by kernel_rfl) ?_
  refine Wo.val (entV t v') H22 (by kernel_rfl) (iop_ld (a := ⟨H3.n, 0, 0⟩) (by kernel_rfl) F22.1) ?_
  refine Wo.val (entV t v) H22 (by kernel_rfl) (iop_ld (a := ⟨h.n, 0, 0⟩) (by kernel_rfl) G22.2.2) ?_
  refine Wo.call (by kernel_rfl) (by kernel_rfl) (c23) ?_
  refine Wo.pre 1 (by kernel_rfl) ?_
  refine Wo.pre 1 (by kernel_rfl) ?_
  refine Wo.nil ?_
  exact Wp.ret ⟨.inr rfl, .bool true, by kernel_rfl, rfl⟩
end Go.Det
