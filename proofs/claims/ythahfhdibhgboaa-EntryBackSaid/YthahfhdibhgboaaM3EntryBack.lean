/- Texts of the proof, one behind the other (EBackR). -/
import Derived.Test.YthahfhdibhgboaaM2EntryBack
/- The law EntryBack, walked. -/
set_option linter.unusedVariables false
set_option linter.unusedSimpArgs false
set_option linter.unusedSectionVars false
namespace Go.Det
open Go.Proofs
attribute [local irreducible] Wp Wo Wd iop ev slots quiets wanted put

theorem recX_dec {t : Nat} (ht : t < 2 ^ 64) {xs : List (AV × List UInt8)} (hm : mayE xs = true) : recOf (recX t xs) = (t, says xs, 0) := by
  rw [recX, if_pos hm, list_says]
  exact rec_enc ht (by rw [← may_says]; exact hm)
theorem itemX_dec {t : Nat} (ht : t < 2 ^ 64) {xs : List (AV × List UInt8)} (hm : mayE xs = true) : itemOf (leafX t xs) (extraX xs) = (t, says xs, 0) := by
  rw [leafX, if_pos hm, extraX, if_pos hm, list_says]
  cases xs with
  | nil => simp [mayE] at hm
  | cons p ps => exact item_enc ht (by rw [may_says] at hm; exact hm)
theorem recX_of {l : List UInt8} {t : Nat} {ps : List (AV × List UInt8)} {E : Int} (h : recOf l = (t, says ps, E)) (hE : E = 0) : mayE ps = true ∧ recX t ps = l ∧ t < 2 ^ 64 := by
  rcases rec_dec h with ⟨_, h1, h2, h3⟩ | ⟨h1, _⟩
  · have hm : mayE ps = true := by rw [may_says]; exact h1
    exact ⟨hm, by rw [recX, if_pos hm, list_says]; exact h2, h3⟩
  · omega
theorem itemX_of {lf ex : List UInt8} {t : Nat} {ps : List (AV × List UInt8)} {E : Int} (h : itemOf lf ex = (t, says ps, E)) (hE : E = 0) : mayE ps = true ∧ leafX t ps = lf ∧ extraX ps = ex ∧ t < 2 ^ 64 := by
  rcases item_dec h with ⟨_, h1, h2, c, l, h3, h4, h5⟩ | ⟨h1, _⟩
  · have hm : mayE ps = true := by rw [may_says]; exact h1
    cases ps with
    | nil => cases h3
    | cons p ps =>
      have h3' : p.2 = c ∧ says ps = l := by
        have : p.2 :: says ps = c :: l := h3
        simpa using this
      refine ⟨hm, by rw [leafX, if_pos hm, ← h4, ← h3'.1]; rfl, ?_, h2⟩
      rw [extraX, if_pos hm, ← h5, ← h3'.2, List.drop_one, List.tail_cons, list_says]
  · omega
theorem leafE_ok {xs : List (AV × List UInt8)} (h : mayE xs = true) : leafE xs = 0 := if_pos h
def backQ : Ex → St → Prop := fun e s => (e = .normal ∨ e = .ret) ∧ ∃ v, retV s.2 s.1 [(6, none)] = some v ∧ v = .bool true
def sndS : IC → IC
  | .seq _ b => b
  | c => c
def bk1 : IC := sndS (sndS (sndS (sndS (sndS ir12.body))))
def bk2 : IC := sndS bk1

attribute [local irreducible] recOf itemOf sameE leafE leafX extraX recX mayE
set_option maxHeartbeats 16000000 in
theorem back_3 {h : H} {v y x : AV} {b5 : Nat} {lf ex : List UInt8} {ts : List AV} (hy : Bs h y lf) (hx : Bs h x ex) (hl1 : lf.length ≤ maxRow) (hl2 : ex.length ≤ maxRow) (p5 : Pt h b5 (.cells 0 78 [y, x] 0 false)) (t0 : ts.length = 126) (t1 : getL ts 1 = some v) (t5 : getL ts 5 = some (.ptr ⟨b5, 0, 0⟩)) : Wp TF bk2 (ts, h) backQ := by
  have hmx : 200000000000000 = maxRow := rfl
  rw [laid_eq t0 [(1, v), (5, .ptr ⟨b5, 0, 0⟩)] (by simp [t1, t5])]
  unfold backQ
  have m1 := hy.bq
  have k2 := hy.parts
  have m3 := hx.bq
  have k4 := hx.parts
  have m5 := p5.1
  refine Wp.seq ?_
  refine Wp.seq ?_
  refine Wp.region ?_
  refine Wo.val (AV.agg [y, x]) h (by kernel_rfl) (iop_ldP p5 (a := { b := b5, g := 0, o := 0 }) (by kernel_rfl) rfl (by kernel_rfl)) ?_
  obtain ⟨r6, H7, c8, t9, z10, ps11, E12, rfl, X14, q15, q16⟩ := takeitemI hy hx hl1 hl2
  have m17 := X14.1
  have m18 := q15.bq
  have k19 := q15.parts
  refine Wo.call (by kernel_rfl) (by kernel_rfl) c8 ?_
  clear c8
  refine Wo.pre 3 (by kernel_rfl) ?_
  obtain ⟨H20, e20, P20, X20, n20⟩ := pt_new H7 70 [AV.int IntKind.u64 0, AV.nils] (ones_cons rfl (ones_cons rfl ones_nil))
  refine Wo.val (.ptr ⟨H.n H7, 0, 0⟩) H20 (by kernel_rfl) (e20 (v := AV.agg [AV.int IntKind.u64 0, AV.nils]) (by kernel_rfl) rfl) ?_
  clear e20
  have m21 := X20.1
  obtain ⟨H22, e22, P22, X22, n22⟩ := P20.st 0 [AV.int IntKind.u64 ↑t9, z10] (by simp) (ones_cons rfl (ones_cons k19.2.1 ones_nil))
  refine Wo.val .undef H22 (by kernel_rfl) (iop_stP (a := { b := H7.n, g := 0, o := 0 }) (v := AV.agg [AV.int IntKind.u64 ↑t9, z10]) (vs := [AV.int IntKind.u64 ↑t9, z10]) (by kernel_rfl) (by kernel_rfl) rfl rfl e22) ?_
  have m23 := X22.1
  replace P22 : Pt H22 H7.n (Blk.cells 0 70 [AV.int IntKind.u64 ↑t9, z10] 0 false) := P22
  refine Wo.pre 1 (by kernel_rfl) ?_
  refine Wo.nil ?_
  refine Wp.seq ?_
  refine Wp.region ?_
  refine Wo.pre 1 (by kernel_rfl) ?_
  refine Wo.cmp (op := .eql) (x := IX.t 100) (y := IX.c (AV.int IntKind.i64 0)) (k := IntKind.i64) (a := E12) (b := 0) ((E12 : Int) = (0 : Int)) (by kernel_rfl) (by kernel_rfl) (by kernel_rfl) (by kernel_rfl) (by simp) (by kernel_rfl) (fun q24 => ?_) (fun q24 => ?_)
  · skip
    have m25 := P20.1
    have m26 := P22.1
    refine Wo.nil ?_
    refine Wp.cond true (by kernel_rfl) ?_
    refine Wp.seq ?_
    refine Wp.region ?_
    refine Wo.val (AV.agg [AV.int IntKind.u64 ↑t9, z10]) H22 (by kernel_rfl) (iop_ldP P22 (a := { b := H7.n, g := 0, o := 0 }) (by kernel_rfl) rfl (by kernel_rfl)) ?_
    have F27 := (q15.fr (X20.transL X22) (by have d0 := m18.1.e; (first | omega | (intro s hs; omega) | (dsimp only; omega) | (intro s hs; dsimp only at hs; omega) | (simp only [blk_nils, blk_sl]; omega) | (intro s hs; simp only [blk_nils, blk_sl] at hs ⊢; omega) | (simp; done))))
    obtain ⟨r28, H29, c30, z31, w32, rfl, X34, q35, q36, q37⟩ := item_run (t := t9) F27.ch (by first | omega | (simp; omega) | (simp; done) | assumption | (exact Nat.lt_of_le_of_lt (item_few (by with_reducible assumption)).1 (by decide)) | (exact (itemX_of (by with_reducible assumption) (by with_reducible assumption)).2.2.2)) (by first | omega | (simp; omega) | (simp; done) | assumption | (exact Nat.lt_of_le_of_lt (item_few (by with_reducible assumption)).1 (by decide)) | (exact (itemX_of (by with_reducible assumption) (by with_reducible assumption)).2.2.2))
    have m38 := X34.1
    have m39 := q35.bq
    have k40 := q35.parts
    have m41 := q36.bq
    have k42 := q36.parts
    refine Wo.call (by kernel_rfl) (by kernel_rfl) c30 ?_
    clear c30
    refine Wo.pre 3 (by kernel_rfl) ?_
    obtain ⟨H43, e43, P43, X43, n43⟩ := pt_new H29 78 [AV.nils, AV.nils] (ones_cons rfl (ones_cons rfl ones_nil))
    refine Wo.val (.ptr ⟨H.n H29, 0, 0⟩) H43 (by kernel_rfl) (e43 (v := AV.agg [AV.nils, AV.nils]) (by kernel_rfl) rfl) ?_
    clear e43
    have m44 := X43.1
    obtain ⟨H45, e45, P45, X45, n45⟩ := P43.st 0 [z31, w32] (by simp) (ones_cons k40.2.1 (ones_cons k42.2.1 ones_nil))
    refine Wo.val .undef H45 (by kernel_rfl) (iop_stP (a := { b := H29.n, g := 0, o := 0 }) (v := AV.agg [z31, w32]) (vs := [z31, w32]) (by kernel_rfl) (by kernel_rfl) rfl rfl e45) ?_
    have m46 := X45.1
    replace P45 : Pt H45 H29.n (Blk.cells 0 78 [z31, w32] 0 false) := P45
    refine Wo.pre 1 (by kernel_rfl) ?_
    refine Wo.nil ?_
    refine Wp.seq ?_
    refine Wp.region ?_
    refine Wo.pre 1 (by kernel_rfl) ?_
    refine Wo.cmpN (op := .neq) (x := IX.t 107) (y := IX.c (AV.int IntKind.i64 0)) (k := IntKind.i64) (a := leafE ps11) (b := 0) ((leafE ps11 : Int) = (0 : Int)) (by kernel_rfl) (by kernel_rfl) (by kernel_rfl) (by kernel_rfl) (by simp) (by kernel_rfl) (fun q47 => ?_) (fun q47 => ?_)
    · skip
      have m48 := F27.bq
      have k49 := F27.parts
      have m50 := P43.1
      have m51 := P45.1
      refine Wo.pre 2 (by kernel_rfl) ?_
      refine Wo.val (z31) H45 (by kernel_rfl) (iop_ldP P45 (a := { b := H29.n, g := 0, o := 0 }) (by kernel_rfl) rfl (by kernel_rfl)) ?_
      refine Wo.pre 1 (by kernel_rfl) ?_
      have F52 := (p5.fr (((((X14.fr.trans0 X20).transL X22).transR X34.fr).transR X43).trans X45) (by (first | omega | (intro s hs; omega) | (dsimp only; omega) | (intro s hs; dsimp only at hs; omega) | (simp only [blk_nils, blk_sl]; omega) | (intro s hs; simp only [blk_nils, blk_sl] at hs ⊢; omega) | (simp; done))))
      refine Wo.val (y) H45 (by kernel_rfl) (iop_ldP F52 (a := { b := b5, g := 0, o := 0 }) (by kernel_rfl) rfl (by kernel_rfl)) ?_
      have F53 := (q35.fr (X43.transL X45) (by have d0 := m39.1.e; (first | omega | (intro s hs; omega) | (dsimp only; omega) | (intro s hs; dsimp only at hs; omega) | (simp only [blk_nils, blk_sl]; omega) | (intro s hs; simp only [blk_nils, blk_sl] at hs ⊢; omega) | (simp; done))))
      have F54 := (hy.fr (((((X14.fr.trans0 X20).transL X22).transR X34.fr).transR X43).trans X45) (by (first | omega | (intro s hs; omega) | (dsimp only; omega) | (intro s hs; dsimp only at hs; omega) | (simp only [blk_nils, blk_sl]; omega) | (intro s hs; simp only [blk_nils, blk_sl] at hs ⊢; omega) | (simp; done))))
      have c55 := equal_run F53.bs F54
      refine Wo.call (by kernel_rfl) (by kernel_rfl) c55 ?_
      clear c55
      refine Wo.boolS (fun q56 => ?_) (fun q56 => ?_)
      · skip
        have m57 := F52.1
        have m58 := F53.bq
        have k59 := F53.parts
        have m60 := F54.bq
        have k61 := F54.parts
        refine Wo.pre 4 (by kernel_rfl) ?_
        refine Wo.val (w32) H45 (by kernel_rfl) (iop_ldP P45 (a := { b := H29.n, g := 0, o := 1 }) (by kernel_rfl) rfl (by kernel_rfl)) ?_
        refine Wo.pre 1 (by kernel_rfl) ?_
        refine Wo.val (x) H45 (by kernel_rfl) (iop_ldP F52 (a := { b := b5, g := 0, o := 1 }) (by kernel_rfl) rfl (by kernel_rfl)) ?_
        have F62 := (q36.fr (X43.transL X45) (by have d0 := m41.1.e; (first | omega | (intro s hs; omega) | (dsimp only; omega) | (intro s hs; dsimp only at hs; omega) | (simp only [blk_nils, blk_sl]; omega) | (intro s hs; simp only [blk_nils, blk_sl] at hs ⊢; omega) | (simp; done))))
        have F63 := (hx.fr (((((X14.fr.trans0 X20).transL X22).transR X34.fr).transR X43).trans X45) (by (first | omega | (intro s hs; omega) | (dsimp only; omega) | (intro s hs; dsimp only at hs; omega) | (simp only [blk_nils, blk_sl]; omega) | (intro s hs; simp only [blk_nils, blk_sl] at hs ⊢; omega) | (simp; done))))
        have c64 := equal_run F62.bs F63
        refine Wo.call (by kernel_rfl) (by kernel_rfl) c64 ?_
        clear c64
        refine Wo.boolS (fun q65 => ?_) (fun q65 => ?_)
        · skip
          have m66 := F62.bq
          have k67 := F62.parts
          have m68 := F63.bq
          have k69 := F63.parts
          refine Wo.pre 2 (by kernel_rfl) ?_
          refine Wo.nil ?_
          refine Wp.cond false (by kernel_rfl) ?_
          refine Wp.skip ?_
          refine Wp.seq ?_
          refine Wp.region ?_
          have c70 := awake_run (H45)
          refine Wo.call (by kernel_rfl) (by kernel_rfl) c70 ?_
          clear c70
          refine Wo.pre 1 (by kernel_rfl) ?_
          refine Wo.nil ?_
          refine Wp.ret ?_
          refine ⟨.inr rfl, (AV.bool true), (ret_one (res_tmp (by kernel_rfl) res_nil)), ?_⟩
          dsimp only
        · skip
          exact (ne_of_beq_false ‹(extraX _ == _) = false› (itemX_of (by with_reducible assumption) (by with_reducible assumption)).2.2.1).elim
      · skip
        exact (ne_of_beq_false ‹(leafX _ _ == _) = false› (itemX_of (by with_reducible assumption) (by with_reducible assumption)).2.1).elim
    · skip
      exact (‹¬ leafE _ = 0› (leafE_ok (itemX_of (by with_reducible assumption) (by with_reducible assumption)).1)).elim
  · skip
    have m71 := P20.1
    have m72 := P22.1
    refine Wo.nil ?_
    refine Wp.cond false (by kernel_rfl) ?_
    refine Wp.skip ?_
    refine Wp.seq ?_
    refine Wp.region ?_
    have c73 := awake_run (H22)
    refine Wo.call (by kernel_rfl) (by kernel_rfl) c73 ?_
    clear c73
    refine Wo.pre 1 (by kernel_rfl) ?_
    refine Wo.nil ?_
    refine Wp.ret ?_
    refine ⟨.inr rfl, (AV.bool true), (ret_one (res_tmp (by kernel_rfl) res_nil)), ?_⟩
    dsimp only

set_option maxHeartbeats 16000000 in
theorem back_2 {h : H} {v y x : AV} {b5 : Nat} {l lf ex : List UInt8} {ts : List AV} (hv : Bs h v l) (hy : Bs h y lf) (hx : Bs h x ex) (hl : l.length ≤ maxRow) (hl1 : lf.length ≤ maxRow) (hl2 : ex.length ≤ maxRow) (p5 : Pt h b5 (.cells 0 78 [y, x] 0 false)) (t0 : ts.length = 126) (t1 : getL ts 1 = some v) (t5 : getL ts 5 = some (.ptr ⟨b5, 0, 0⟩)) : Wp TF bk1 (ts, h) backQ := by
  have hmx : 200000000000000 = maxRow := rfl
  rw [laid_eq t0 [(1, v), (5, .ptr ⟨b5, 0, 0⟩)] (by simp [t1, t5])]
  unfold backQ
  have m1 := hv.bq
  have k2 := hv.parts
  have m3 := hy.bq
  have k4 := hy.parts
  have m5 := hx.bq
  have k6 := hx.parts
  have m7 := p5.1
  refine Wp.seq ?_
  refine Wp.seq ?_
  refine Wp.region ?_
  refine Wo.pre 1 (by kernel_rfl) ?_
  obtain ⟨r8, H9, c10, t11, z12, ps13, E14, rfl, X16, q17, q18⟩ := takerecI hv hl
  have m19 := X16.1
  have m20 := q17.bq
  have k21 := q17.parts
  refine Wo.call (by kernel_rfl) (by kernel_rfl) c10 ?_
  clear c10
  refine Wo.pre 3 (by kernel_rfl) ?_
  obtain ⟨H22, e22, P22, X22, n22⟩ := pt_new H9 70 [AV.int IntKind.u64 0, AV.nils] (ones_cons rfl (ones_cons rfl ones_nil))
  refine Wo.val (.ptr ⟨H.n H9, 0, 0⟩) H22 (by kernel_rfl) (e22 (v := AV.agg [AV.int IntKind.u64 0, AV.nils]) (by kernel_rfl) rfl) ?_
  clear e22
  have m23 := X22.1
  obtain ⟨H24, e24, P24, X24, n24⟩ := P22.st 0 [AV.int IntKind.u64 ↑t11, z12] (by simp) (ones_cons rfl (ones_cons k21.2.1 ones_nil))
  refine Wo.val .undef H24 (by kernel_rfl) (iop_stP (a := { b := H9.n, g := 0, o := 0 }) (v := AV.agg [AV.int IntKind.u64 ↑t11, z12]) (vs := [AV.int IntKind.u64 ↑t11, z12]) (by kernel_rfl) (by kernel_rfl) rfl rfl e24) ?_
  have m25 := X24.1
  replace P24 : Pt H24 H9.n (Blk.cells 0 70 [AV.int IntKind.u64 ↑t11, z12] 0 false) := P24
  refine Wo.pre 1 (by kernel_rfl) ?_
  refine Wo.nil ?_
  refine Wp.seq ?_
  refine Wp.region ?_
  refine Wo.pre 1 (by kernel_rfl) ?_
  refine Wo.cmp (op := .eql) (x := IX.t 80) (y := IX.c (AV.int IntKind.i64 0)) (k := IntKind.i64) (a := E14) (b := 0) ((E14 : Int) = (0 : Int)) (by kernel_rfl) (by kernel_rfl) (by kernel_rfl) (by kernel_rfl) (by simp) (by kernel_rfl) (fun q26 => ?_) (fun q26 => ?_)
  · skip
    have m27 := P22.1
    have m28 := P24.1
    refine Wo.nil ?_
    refine Wp.cond true (by kernel_rfl) ?_
    refine Wp.seq ?_
    refine Wp.region ?_
    refine Wo.val (AV.agg [AV.int IntKind.u64 ↑t11, z12]) H24 (by kernel_rfl) (iop_ldP P24 (a := { b := H9.n, g := 0, o := 0 }) (by kernel_rfl) rfl (by kernel_rfl)) ?_
    have F29 := (q17.fr (X22.transL X24) (by have d0 := m20.1.e; (first | omega | (intro s hs; omega) | (dsimp only; omega) | (intro s hs; dsimp only at hs; omega) | (simp only [blk_nils, blk_sl]; omega) | (intro s hs; simp only [blk_nils, blk_sl] at hs ⊢; omega) | (simp; done))))
    obtain ⟨r30, H31, c32, z33, rfl, X35, q36⟩ := record_run (t := t11) F29.ch (by first | omega | (simp; omega) | (simp; done) | assumption | (exact Nat.lt_of_le_of_lt (rec_few (by with_reducible assumption)).1 (by decide)) | (exact (recX_of (by with_reducible assumption) (by with_reducible assumption)).2.2)) (by first | omega | (simp; omega) | (simp; done) | assumption | (exact Nat.lt_of_le_of_lt (rec_few (by with_reducible assumption)).1 (by decide)) | (exact (recX_of (by with_reducible assumption) (by with_reducible assumption)).2.2))
    have m37 := X35.1
    have m38 := q36.bq
    have k39 := q36.parts
    refine Wo.call (by kernel_rfl) (by kernel_rfl) c32 ?_
    clear c32
    refine Wo.pre 5 (by kernel_rfl) ?_
    refine Wo.nil ?_
    refine Wp.seq ?_
    refine Wp.region ?_
    refine Wo.pre 1 (by kernel_rfl) ?_
    refine Wo.cmpN (op := .neq) (x := IX.t 87) (y := IX.c (AV.int IntKind.i64 0)) (k := IntKind.i64) (a := leafE ps13) (b := 0) ((leafE ps13 : Int) = (0 : Int)) (by kernel_rfl) (by kernel_rfl) (by kernel_rfl) (by kernel_rfl) (by simp) (by kernel_rfl) (fun q40 => ?_) (fun q40 => ?_)
    · skip
      have m41 := F29.bq
      have k42 := F29.parts
      refine Wo.pre 3 (by kernel_rfl) ?_
      have F43 := (hv.fr (((X16.fr.trans0 X22).transL X24).transR X35.fr) (by (first | omega | (intro s hs; omega) | (dsimp only; omega) | (intro s hs; dsimp only at hs; omega) | (simp only [blk_nils, blk_sl]; omega) | (intro s hs; simp only [blk_nils, blk_sl] at hs ⊢; omega) | (simp; done))))
      have c44 := equal_run q36.bs F43
      refine Wo.call (by kernel_rfl) (by kernel_rfl) c44 ?_
      clear c44
      refine Wo.boolS (fun q45 => ?_) (fun q45 => ?_)
      · skip
        have m46 := F43.bq
        have k47 := F43.parts
        refine Wo.pre 2 (by kernel_rfl) ?_
        refine Wo.nil ?_
        refine Wp.cond false (by kernel_rfl) ?_
        refine Wp.skip ?_
        exact  back_3 (v := v) (b5 := b5) (hy.fr (((X16.fr.trans0 X22).transL X24).transR X35.fr) (by (first | omega | (intro s hs; omega) | (dsimp only; omega) | (intro s hs; dsimp only at hs; omega) | (simp only [blk_nils, blk_sl]; omega) | (intro s hs; simp only [blk_nils, blk_sl] at hs ⊢; omega) | (simp; done)))) (hx.fr (((X16.fr.trans0 X22).transL X24).transR X35.fr) (by (first | omega | (intro s hs; omega) | (dsimp only; omega) | (intro s hs; dsimp only at hs; omega) | (simp only [blk_nils, blk_sl]; omega) | (intro s hs; simp only [blk_nils, blk_sl] at hs ⊢; omega) | (simp; done)))) hl1 hl2 (p5.fr (((X16.fr.trans0 X22).transL X24).transR X35.fr) (by (first | omega | (intro s hs; omega) | (dsimp only; omega) | (intro s hs; dsimp only at hs; omega) | (simp only [blk_nils, blk_sl]; omega) | (intro s hs; simp only [blk_nils, blk_sl] at hs ⊢; omega) | (simp; done)))) (by kernel_rfl) (by kernel_rfl) (by kernel_rfl)
      · skip
        exact (ne_of_beq_false ‹(recX _ _ == _) = false› (recX_of (by with_reducible assumption) (by with_reducible assumption)).2.1).elim
    · skip
      exact (‹¬ leafE _ = 0› (leafE_ok (recX_of (by with_reducible assumption) (by with_reducible assumption)).1)).elim
  · skip
    have m48 := P22.1
    have m49 := P24.1
    refine Wo.nil ?_
    refine Wp.cond false (by kernel_rfl) ?_
    refine Wp.skip ?_
    exact  back_3 (v := v) (b5 := b5) (hy.fr ((X16.fr.trans0 X22).transL X24) (by (first | omega | (intro s hs; omega) | (dsimp only; omega) | (intro s hs; dsimp only at hs; omega) | (simp only [blk_nils, blk_sl]; omega) | (intro s hs; simp only [blk_nils, blk_sl] at hs ⊢; omega) | (simp; done)))) (hx.fr ((X16.fr.trans0 X22).transL X24) (by (first | omega | (intro s hs; omega) | (dsimp only; omega) | (intro s hs; dsimp only at hs; omega) | (simp only [blk_nils, blk_sl]; omega) | (intro s hs; simp only [blk_nils, blk_sl] at hs ⊢; omega) | (simp; done)))) hl1 hl2 (p5.fr ((X16.fr.trans0 X22).transL X24) (by (first | omega | (intro s hs; omega) | (dsimp only; omega) | (intro s hs; dsimp only at hs; omega) | (simp only [blk_nils, blk_sl]; omega) | (intro s hs; simp only [blk_nils, blk_sl] at hs ⊢; omega) | (simp; done)))) (by kernel_rfl) (by kernel_rfl) (by kernel_rfl)

set_option maxHeartbeats 16000000 in
theorem back_run {h : H} {w v y x : AV} {xs : List (AV × List UInt8)} {l lf ex : List UInt8} (hc : Ch h w xs) (hlen : xs.length < 2 ^ 62) {t : Nat} (ht : t < 2 ^ 64) (hv : Bs h v l) (hy : Bs h y lf) (hx : Bs h x ex) (hl : l.length ≤ maxRow) (hl1 : lf.length ≤ maxRow) (hl2 : ex.length ≤ maxRow) : ∃ r h', Runs TF 12 [entV t w, v, itemV y x] h r h' ∧ r = .bool true := by
  refine Runs.ofP f12 rfl ?_
  have hmx : 200000000000000 = maxRow := rfl
  have l1 := (made_len xs t).1
  have l2 := (made_len xs t).2.1
  have l3 := (made_len xs t).2.2
  have m1 := hc.bq
  have k2 := hc.parts
  have m3 := hv.bq
  have k4 := hv.parts
  have m5 := hy.bq
  have k6 := hy.parts
  have m7 := hx.bq
  have k8 := hx.parts
  refine Wp.seq ?_
  refine Wp.region ?_
  obtain ⟨H9, e9, P9, X9, n9⟩ := pt_new h 70 [AV.int IntKind.u64 ↑t, w] (ones_cons rfl (ones_cons k2.2.1 ones_nil))
  refine Wo.val (.ptr ⟨H.n h, 0, 0⟩) H9 (by kernel_rfl) (e9 (v := AV.agg [AV.int IntKind.u64 ↑t, w]) (by kernel_rfl) rfl) ?_
  clear e9
  have m10 := X9.1
  obtain ⟨H11, e11, P11, X11, n11⟩ := pt_new H9 78 [y, x] (ones_cons k6.2.1 (ones_cons k8.2.1 ones_nil))
  refine Wo.val (.ptr ⟨H.n H9, 0, 0⟩) H11 (by kernel_rfl) (e11 (v := AV.agg [y, x]) (by kernel_rfl) rfl) ?_
  clear e11
  have m12 := X11.1
  refine Wo.pre 1 (by kernel_rfl) ?_
  refine Wo.nil ?_
  refine Wp.seq ?_
  refine Wp.region ?_
  have F13 := (P9.fr X11 id)
  refine Wo.val (AV.agg [AV.int IntKind.u64 ↑t, w]) H11 (by kernel_rfl) (iop_ldP F13 (a := { b := h.n, g := 0, o := 0 }) (by kernel_rfl) rfl (by kernel_rfl)) ?_
  have F14 := (hc.fr (X9.trans0 X11) (fun _ e => e.elim))
  obtain ⟨r15, H16, c17, z18, rfl, X20, q21⟩ := record_run (t := t) F14 hlen ht
  have m22 := X20.1
  have m23 := q21.bq
  have k24 := q21.parts
  refine Wo.call (by kernel_rfl) (by kernel_rfl) c17 ?_
  clear c17
  refine Wo.pre 5 (by kernel_rfl) ?_
  refine Wo.nil ?_
  refine Wp.seq ?_
  refine Wp.region ?_
  have F25 := (F13.fr X20.fr id)
  refine Wo.val (AV.agg [AV.int IntKind.u64 ↑t, w]) H16 (by kernel_rfl) (iop_ldP F25 (a := { b := h.n, g := 0, o := 0 }) (by kernel_rfl) rfl (by kernel_rfl)) ?_
  have F26 := (F14.fr X20.fr (fun _ e => e.elim))
  obtain ⟨r27, H28, c29, z30, w31, rfl, X33, q34, q35, q36⟩ := item_run (t := t) F26 hlen ht
  have m37 := X33.1
  have m38 := q34.bq
  have k39 := q34.parts
  have m40 := q35.bq
  have k41 := q35.parts
  refine Wo.call (by kernel_rfl) (by kernel_rfl) c29 ?_
  clear c29
  refine Wo.pre 3 (by kernel_rfl) ?_
  obtain ⟨H42, e42, P42, X42, n42⟩ := pt_new H28 78 [AV.nils, AV.nils] (ones_cons rfl (ones_cons rfl ones_nil))
  refine Wo.val (.ptr ⟨H.n H28, 0, 0⟩) H42 (by kernel_rfl) (e42 (v := AV.agg [AV.nils, AV.nils]) (by kernel_rfl) rfl) ?_
  clear e42
  have m43 := X42.1
  obtain ⟨H44, e44, P44, X44, n44⟩ := P42.st 0 [z30, w31] (by simp) (ones_cons k39.2.1 (ones_cons k41.2.1 ones_nil))
  refine Wo.val .undef H44 (by kernel_rfl) (iop_stP (a := { b := H28.n, g := 0, o := 0 }) (v := AV.agg [z30, w31]) (vs := [z30, w31]) (by kernel_rfl) (by kernel_rfl) rfl rfl e44) ?_
  have m45 := X44.1
  replace P44 : Pt H44 H28.n (Blk.cells 0 78 [z30, w31] 0 false) := P44
  refine Wo.pre 1 (by kernel_rfl) ?_
  refine Wo.nil ?_
  refine Wp.seq ?_
  refine Wp.seq ?_
  refine Wp.region ?_
  have F46 := (F25.fr ((X33.fr.trans0 X42).transL X44) (by (first | omega | (intro s hs; omega) | (dsimp only; omega) | (intro s hs; dsimp only at hs; omega) | (simp only [blk_nils, blk_sl]; omega) | (intro s hs; simp only [blk_nils, blk_sl] at hs ⊢; omega) | (simp; done))))
  refine Wo.val (AV.agg [AV.int IntKind.u64 ↑t, w]) H44 (by kernel_rfl) (iop_ldP F46 (a := { b := h.n, g := 0, o := 0 }) (by kernel_rfl) rfl (by kernel_rfl)) ?_
  have F47 := (F26.fr ((X33.fr.trans0 X42).transL X44) (by (first | omega | (intro s hs; omega) | (dsimp only; omega) | (intro s hs; dsimp only at hs; omega) | (simp only [blk_nils, blk_sl]; omega) | (intro s hs; simp only [blk_nils, blk_sl] at hs ⊢; omega) | (simp; done))))
  obtain ⟨r48, H49, c50, rfl, X52⟩ := may_run F47 hlen (t)
  have m53 := X52.1
  refine Wo.call (by kernel_rfl) (by kernel_rfl) c50 ?_
  clear c50
  refine Wo.boolS (fun q54 => ?_) (fun q54 => ?_)
  · skip
    have m55 := P9.1
    have m56 := P11.1
    have m57 := F13.1
    have m58 := F14.bq
    have k59 := F14.parts
    have m60 := F25.1
    have m61 := F26.bq
    have k62 := F26.parts
    have m63 := P42.1
    have m64 := P44.1
    have m65 := F46.1
    have m66 := F47.bq
    have k67 := F47.parts
    refine Wo.pre 1 (by kernel_rfl) ?_
    refine Wo.cmp (op := .eql) (x := IX.t 35) (y := IX.c (AV.int IntKind.i64 0)) (k := IntKind.i64) (a := leafE xs) (b := 0) ((leafE xs : Int) = (0 : Int)) (by kernel_rfl) (by kernel_rfl) (by kernel_rfl) (by kernel_rfl) (by simp) (by kernel_rfl) (fun q68 => ?_) (fun q68 => ?_)
    · skip
      refine Wo.pre 2 (by kernel_rfl) ?_
      have F69 := (F46.fr X52.fr id)
      refine Wo.val (AV.agg [AV.int IntKind.u64 ↑t, w]) H49 (by kernel_rfl) (iop_ldP F69 (a := { b := h.n, g := 0, o := 0 }) (by kernel_rfl) rfl (by kernel_rfl)) ?_
      have F70 := (F47.fr X52.fr (fun _ e => e.elim))
      obtain ⟨r71, H72, c73, rfl, X75⟩ := may_run F70 hlen (t)
      have m76 := X75.1
      refine Wo.call (by kernel_rfl) (by kernel_rfl) c73 ?_
      clear c73
      refine Wo.boolS (fun q77 => ?_) (fun q77 => ?_)
      · skip
        have m78 := F69.1
        have m79 := F70.bq
        have k80 := F70.parts
        refine Wo.pre 1 (by kernel_rfl) ?_
        refine Wo.cmp (op := .eql) (x := IX.t 41) (y := IX.c (AV.int IntKind.i64 0)) (k := IntKind.i64) (a := leafE xs) (b := 0) ((leafE xs : Int) = (0 : Int)) (by kernel_rfl) (by kernel_rfl) (by kernel_rfl) (by kernel_rfl) (by simp) (by kernel_rfl) (fun q81 => ?_) (fun q81 => ?_)
        · skip
          refine Wo.pre 2 (by kernel_rfl) ?_
          refine Wo.nil ?_
          refine Wp.cond false (by kernel_rfl) ?_
          refine Wp.skip ?_
          refine Wp.seq ?_
          refine Wp.seq ?_
          refine Wp.region ?_
          refine Wo.pre 1 (by kernel_rfl) ?_
          refine Wo.cmp (op := .eql) (x := IX.t 45) (y := IX.c (AV.int IntKind.i64 0)) (k := IntKind.i64) (a := leafE xs) (b := 0) ((leafE xs : Int) = (0 : Int)) (by kernel_rfl) (by kernel_rfl) (by kernel_rfl) (by kernel_rfl) (by simp) (by kernel_rfl) (fun q82 => ?_) (fun q82 => ?_)
          · skip
            refine Wo.nil ?_
            refine Wp.cond true (by kernel_rfl) ?_
            refine Wp.seq ?_
            refine Wp.region ?_
            refine Wo.pre 1 (by kernel_rfl) ?_
            have F83 := (q21.fr ((((X33.fr.trans0 X42).transL X44).transR X52.fr).transR X75.fr) (by have d0 := m23.1.e; (first | omega | (intro s hs; omega) | (dsimp only; omega) | (intro s hs; dsimp only at hs; omega) | (simp only [blk_nils, blk_sl]; omega) | (intro s hs; simp only [blk_nils, blk_sl] at hs ⊢; omega) | (simp; done))))
            obtain ⟨r84, H85, c86, t87, z88, ps89, E90, rfl, X92, q93, q94⟩ := takerecI F83.bs (by first | omega | (simp; omega) | (simp; done) | assumption | (exact Nat.lt_of_le_of_lt (rec_few (by with_reducible assumption)).1 (by decide)) | (exact Nat.lt_of_le_of_lt (item_few (by with_reducible assumption)).1 (by decide)))
            have m95 := X92.1
            have m96 := q93.bq
            have k97 := q93.parts
            refine Wo.call (by kernel_rfl) (by kernel_rfl) c86 ?_
            clear c86
            refine Wo.pre 3 (by kernel_rfl) ?_
            obtain ⟨H98, e98, P98, X98, n98⟩ := pt_new H85 70 [AV.int IntKind.u64 0, AV.nils] (ones_cons rfl (ones_cons rfl ones_nil))
            refine Wo.val (.ptr ⟨H.n H85, 0, 0⟩) H98 (by kernel_rfl) (e98 (v := AV.agg [AV.int IntKind.u64 0, AV.nils]) (by kernel_rfl) rfl) ?_
            clear e98
            have m99 := X98.1
            obtain ⟨H100, e100, P100, X100, n100⟩ := P98.st 0 [AV.int IntKind.u64 ↑t87, z88] (by simp) (ones_cons rfl (ones_cons k97.2.1 ones_nil))
            refine Wo.val .undef H100 (by kernel_rfl) (iop_stP (a := { b := H85.n, g := 0, o := 0 }) (v := AV.agg [AV.int IntKind.u64 ↑t87, z88]) (vs := [AV.int IntKind.u64 ↑t87, z88]) (by kernel_rfl) (by kernel_rfl) rfl rfl e100) ?_
            have m101 := X100.1
            replace P100 : Pt H100 H85.n (Blk.cells 0 70 [AV.int IntKind.u64 ↑t87, z88] 0 false) := P100
            refine Wo.pre 1 (by kernel_rfl) ?_
            refine Wo.nil ?_
            refine Wp.seq ?_
            refine Wp.region ?_
            have F102 := (P44.fr ((((X52.fr.trans0 X75.fr).trans0 X92.fr).trans0 X98).transL X100) (by (first | omega | (intro s hs; omega) | (dsimp only; omega) | (intro s hs; dsimp only at hs; omega) | (simp only [blk_nils, blk_sl]; omega) | (intro s hs; simp only [blk_nils, blk_sl] at hs ⊢; omega) | (simp; done))))
            refine Wo.val (AV.agg [z30, w31]) H100 (by kernel_rfl) (iop_ldP F102 (a := { b := H28.n, g := 0, o := 0 }) (by kernel_rfl) rfl (by kernel_rfl)) ?_
            have F103 := (q34.fr ((((((X42.transL X44).transR X52.fr).transR X75.fr).transR X92.fr).transR X98).trans X100) (by have d0 := m38.1.e; (first | omega | (intro s hs; omega) | (dsimp only; omega) | (intro s hs; dsimp only at hs; omega) | (simp only [blk_nils, blk_sl]; omega) | (intro s hs; simp only [blk_nils, blk_sl] at hs ⊢; omega) | (simp; done))))
            have F104 := (q35.fr ((((((X42.transL X44).transR X52.fr).transR X75.fr).transR X92.fr).transR X98).trans X100) (by have d0 := m40.1.e; (first | omega | (intro s hs; omega) | (dsimp only; omega) | (intro s hs; dsimp only at hs; omega) | (simp only [blk_nils, blk_sl]; omega) | (intro s hs; simp only [blk_nils, blk_sl] at hs ⊢; omega) | (simp; done))))
            obtain ⟨r105, H106, c107, t108, z109, ps110, E111, rfl, X113, q114, q115⟩ := takeitemI F103.bs F104.bs (by first | omega | (simp; omega) | (simp; done) | assumption | (exact Nat.lt_of_le_of_lt (rec_few (by with_reducible assumption)).1 (by decide)) | (exact Nat.lt_of_le_of_lt (item_few (by with_reducible assumption)).1 (by decide))) (by first | omega | (simp; omega) | (simp; done) | assumption | (exact Nat.lt_of_le_of_lt (rec_few (by with_reducible assumption)).1 (by decide)) | (exact Nat.lt_of_le_of_lt (item_few (by with_reducible assumption)).1 (by decide)))
            have m116 := X113.1
            have m117 := q114.bq
            have k118 := q114.parts
            refine Wo.call (by kernel_rfl) (by kernel_rfl) c107 ?_
            clear c107
            refine Wo.pre 3 (by kernel_rfl) ?_
            obtain ⟨H119, e119, P119, X119, n119⟩ := pt_new H106 70 [AV.int IntKind.u64 0, AV.nils] (ones_cons rfl (ones_cons rfl ones_nil))
            refine Wo.val (.ptr ⟨H.n H106, 0, 0⟩) H119 (by kernel_rfl) (e119 (v := AV.agg [AV.int IntKind.u64 0, AV.nils]) (by kernel_rfl) rfl) ?_
            clear e119
            have m120 := X119.1
            obtain ⟨H121, e121, P121, X121, n121⟩ := P119.st 0 [AV.int IntKind.u64 ↑t108, z109] (by simp) (ones_cons rfl (ones_cons k118.2.1 ones_nil))
            refine Wo.val .undef H121 (by kernel_rfl) (iop_stP (a := { b := H106.n, g := 0, o := 0 }) (v := AV.agg [AV.int IntKind.u64 ↑t108, z109]) (vs := [AV.int IntKind.u64 ↑t108, z109]) (by kernel_rfl) (by kernel_rfl) rfl rfl e121) ?_
            have m122 := X121.1
            replace P121 : Pt H121 H106.n (Blk.cells 0 70 [AV.int IntKind.u64 ↑t108, z109] 0 false) := P121
            refine Wo.pre 1 (by kernel_rfl) ?_
            refine Wo.nil ?_
            refine Wp.seq ?_
            refine Wp.region ?_
            refine Wo.pre 1 (by kernel_rfl) ?_
            refine Wo.cmpN (op := .neq) (x := IX.t 57) (y := IX.c (AV.int IntKind.i64 0)) (k := IntKind.i64) (a := E90) (b := 0) ((E90 : Int) = (0 : Int)) (by kernel_rfl) (by kernel_rfl) (by kernel_rfl) (by kernel_rfl) (by simp) (by kernel_rfl) (fun q123 => ?_) (fun q123 => ?_)
            · skip
              have m124 := F83.bq
              have k125 := F83.parts
              have m126 := P98.1
              have m127 := P100.1
              have m128 := F102.1
              have m129 := F103.bq
              have k130 := F103.parts
              have m131 := F104.bq
              have k132 := F104.parts
              have m133 := P119.1
              have m134 := P121.1
              refine Wo.pre 1 (by kernel_rfl) ?_
              have F135 := (P100.fr ((X113.fr.trans0 X119).transL X121) (by (first | omega | (intro s hs; omega) | (dsimp only; omega) | (intro s hs; dsimp only at hs; omega) | (simp only [blk_nils, blk_sl]; omega) | (intro s hs; simp only [blk_nils, blk_sl] at hs ⊢; omega) | (simp; done))))
              refine Wo.val (AV.agg [AV.int IntKind.u64 ↑t87, z88]) H121 (by kernel_rfl) (iop_ldP F135 (a := { b := H85.n, g := 0, o := 0 }) (by kernel_rfl) rfl (by kernel_rfl)) ?_
              have F136 := (F69.fr ((((((X75.fr.trans0 X92.fr).trans0 X98).transL X100).transR X113.fr).transR X119).trans X121) (by (first | omega | (intro s hs; omega) | (dsimp only; omega) | (intro s hs; dsimp only at hs; omega) | (simp only [blk_nils, blk_sl]; omega) | (intro s hs; simp only [blk_nils, blk_sl] at hs ⊢; omega) | (simp; done))))
              refine Wo.val (AV.agg [AV.int IntKind.u64 ↑t, w]) H121 (by kernel_rfl) (iop_ldP F136 (a := { b := h.n, g := 0, o := 0 }) (by kernel_rfl) rfl (by kernel_rfl)) ?_
              have F137 := (q93.fr ((((X98.transL X100).transR X113.fr).transR X119).trans X121) (by have d0 := m96.1.e; (first | omega | (intro s hs; omega) | (dsimp only; omega) | (intro s hs; dsimp only at hs; omega) | (simp only [blk_nils, blk_sl]; omega) | (intro s hs; simp only [blk_nils, blk_sl] at hs ⊢; omega) | (simp; done))))
              have F138 := (F70.fr ((((((X75.fr.trans0 X92.fr).trans0 X98).transL X100).transR X113.fr).transR X119).trans X121) (by (first | omega | (intro s hs; omega) | (dsimp only; omega) | (intro s hs; dsimp only at hs; omega) | (simp only [blk_nils, blk_sl]; omega) | (intro s hs; simp only [blk_nils, blk_sl] at hs ⊢; omega) | (simp; done))))
              obtain ⟨r139, H140, c141, rfl, X143⟩ := rsamee_run F137.ch F138 (by first | omega | (simp; omega) | (simp; done) | assumption | (exact Nat.lt_of_le_of_lt (rec_few (by with_reducible assumption)).1 (by decide)) | (exact Nat.lt_of_le_of_lt (item_few (by with_reducible assumption)).1 (by decide))) (t87) (t)
              have m144 := X143.1
              refine Wo.call (by kernel_rfl) (by kernel_rfl) c141 ?_
              clear c141
              refine Wo.boolS (fun q145 => ?_) (fun q145 => ?_)
              · skip
                have m146 := F135.1
                have m147 := F136.1
                have m148 := F137.bq
                have k149 := F137.parts
                have m150 := F138.bq
                have k151 := F138.parts
                refine Wo.pre 4 (by kernel_rfl) ?_
                refine Wo.cmpN (op := .neq) (x := IX.t 66) (y := IX.c (AV.int IntKind.i64 0)) (k := IntKind.i64) (a := E111) (b := 0) ((E111 : Int) = (0 : Int)) (by kernel_rfl) (by kernel_rfl) (by kernel_rfl) (by kernel_rfl) (by simp) (by kernel_rfl) (fun q152 => ?_) (fun q152 => ?_)
                · skip
                  refine Wo.pre 2 (by kernel_rfl) ?_
                  have F153 := (P121.fr X143.fr id)
                  refine Wo.val (AV.agg [AV.int IntKind.u64 ↑t108, z109]) H140 (by kernel_rfl) (iop_ldP F153 (a := { b := H106.n, g := 0, o := 0 }) (by kernel_rfl) rfl (by kernel_rfl)) ?_
                  have F154 := (F136.fr X143.fr id)
                  refine Wo.val (AV.agg [AV.int IntKind.u64 ↑t, w]) H140 (by kernel_rfl) (iop_ldP F154 (a := { b := h.n, g := 0, o := 0 }) (by kernel_rfl) rfl (by kernel_rfl)) ?_
                  have F155 := (q114.fr ((X119.transL X121).transR X143.fr) (by have d0 := m117.1.e; (first | omega | (intro s hs; omega) | (dsimp only; omega) | (intro s hs; dsimp only at hs; omega) | (simp only [blk_nils, blk_sl]; omega) | (intro s hs; simp only [blk_nils, blk_sl] at hs ⊢; omega) | (simp; done))))
                  have F156 := (F138.fr X143.fr (fun _ e => e.elim))
                  obtain ⟨r157, H158, c159, rfl, X161⟩ := rsamee_run F155.ch F156 (by first | omega | (simp; omega) | (simp; done) | assumption | (exact Nat.lt_of_le_of_lt (rec_few (by with_reducible assumption)).1 (by decide)) | (exact Nat.lt_of_le_of_lt (item_few (by with_reducible assumption)).1 (by decide))) (t108) (t)
                  have m162 := X161.1
                  refine Wo.call (by kernel_rfl) (by kernel_rfl) c159 ?_
                  clear c159
                  refine Wo.boolS (fun q163 => ?_) (fun q163 => ?_)
                  · skip
                    have m164 := F153.1
                    have m165 := F154.1
                    have m166 := F155.bq
                    have k167 := F155.parts
                    have m168 := F156.bq
                    have k169 := F156.parts
                    refine Wo.pre 2 (by kernel_rfl) ?_
                    refine Wo.nil ?_
                    refine Wp.cond false (by kernel_rfl) ?_
                    refine Wp.skip ?_
                    exact  back_2 (v := v) (b5 := H9.n) (hv.fr (((((((((((((((X9.trans0 X11).trans0 X20.fr).trans0 X33.fr).trans0 X42).transL X44).transR X52.fr).transR X75.fr).transR X92.fr).transR X98).trans X100).transR X113.fr).transR X119).trans X121).transR X143.fr).transR X161.fr) (by (first | omega | (intro s hs; omega) | (dsimp only; omega) | (intro s hs; dsimp only at hs; omega) | (simp only [blk_nils, blk_sl]; omega) | (intro s hs; simp only [blk_nils, blk_sl] at hs ⊢; omega) | (simp; done)))) (hy.fr (((((((((((((((X9.trans0 X11).trans0 X20.fr).trans0 X33.fr).trans0 X42).transL X44).transR X52.fr).transR X75.fr).transR X92.fr).transR X98).trans X100).transR X113.fr).transR X119).trans X121).transR X143.fr).transR X161.fr) (by (first | omega | (intro s hs; omega) | (dsimp only; omega) | (intro s hs; dsimp only at hs; omega) | (simp only [blk_nils, blk_sl]; omega) | (intro s hs; simp only [blk_nils, blk_sl] at hs ⊢; omega) | (simp; done)))) (hx.fr (((((((((((((((X9.trans0 X11).trans0 X20.fr).trans0 X33.fr).trans0 X42).transL X44).transR X52.fr).transR X75.fr).transR X92.fr).transR X98).trans X100).transR X113.fr).transR X119).trans X121).transR X143.fr).transR X161.fr) (by (first | omega | (intro s hs; omega) | (dsimp only; omega) | (intro s hs; dsimp only at hs; omega) | (simp only [blk_nils, blk_sl]; omega) | (intro s hs; simp only [blk_nils, blk_sl] at hs ⊢; omega) | (simp; done)))) hl hl1 hl2 (P11.fr (((((((((((((X20.fr.trans0 X33.fr).trans0 X42).transL X44).transR X52.fr).transR X75.fr).transR X92.fr).transR X98).trans X100).transR X113.fr).transR X119).trans X121).transR X143.fr).transR X161.fr) (by (first | omega | (intro s hs; omega) | (dsimp only; omega) | (intro s hs; dsimp only at hs; omega) | (simp only [blk_nils, blk_sl]; omega) | (intro s hs; simp only [blk_nils, blk_sl] at hs ⊢; omega) | (simp; done)))) (by kernel_rfl) (by kernel_rfl) (by kernel_rfl)
                  · skip
                    exact Bool.noConfusion (‹sameE _ _ _ _ = false›.symm.trans (item_one (by with_reducible assumption) (itemX_dec ht ‹mayE _ = true›)).2)
                · skip
                  exact (‹¬ (_ : Int) = 0› (item_one (by with_reducible assumption) (itemX_dec ht ‹mayE _ = true›)).1).elim
              · skip
                exact Bool.noConfusion (‹sameE _ _ _ _ = false›.symm.trans (rec_one (by with_reducible assumption) (recX_dec ht ‹mayE _ = true›)).2)
            · skip
              exact (‹¬ (_ : Int) = 0› (rec_one (by with_reducible assumption) (recX_dec ht ‹mayE _ = true›)).1).elim
          · skip
            exact (‹¬ leafE _ = 0› (leafE_ok ‹mayE _ = true›)).elim
        · skip
          exact (‹¬ leafE _ = 0› (leafE_ok ‹mayE _ = true›)).elim
      · skip
        exact Bool.noConfusion (‹mayE _ = false›.symm.trans (leafE_zero ‹leafE _ = 0›))
    · skip
      exact (‹¬ leafE _ = 0› (leafE_ok ‹mayE _ = true›)).elim
  · skip
    have m170 := P9.1
    have m171 := P11.1
    have m172 := F13.1
    have m173 := F14.bq
    have k174 := F14.parts
    have m175 := F25.1
    have m176 := F26.bq
    have k177 := F26.parts
    have m178 := P42.1
    have m179 := P44.1
    have m180 := F46.1
    have m181 := F47.bq
    have k182 := F47.parts
    refine Wo.pre 1 (by kernel_rfl) ?_
    refine Wo.cmp (op := .eql) (x := IX.t 35) (y := IX.c (AV.int IntKind.i64 0)) (k := IntKind.i64) (a := leafE xs) (b := 0) ((leafE xs : Int) = (0 : Int)) (by kernel_rfl) (by kernel_rfl) (by kernel_rfl) (by kernel_rfl) (by simp) (by kernel_rfl) (fun q183 => ?_) (fun q183 => ?_)
    · skip
      exact Bool.noConfusion (‹mayE _ = false›.symm.trans (leafE_zero ‹leafE _ = 0›))
    · skip
      refine Wo.pre 2 (by kernel_rfl) ?_
      have F184 := (F46.fr X52.fr id)
      refine Wo.val (AV.agg [AV.int IntKind.u64 ↑t, w]) H49 (by kernel_rfl) (iop_ldP F184 (a := { b := h.n, g := 0, o := 0 }) (by kernel_rfl) rfl (by kernel_rfl)) ?_
      have F185 := (F47.fr X52.fr (fun _ e => e.elim))
      obtain ⟨r186, H187, c188, rfl, X190⟩ := may_run F185 hlen (t)
      have m191 := X190.1
      refine Wo.call (by kernel_rfl) (by kernel_rfl) c188 ?_
      clear c188
      refine Wo.boolS (fun q192 => ?_) (fun q192 => ?_)
      · skip
        exact (‹¬ leafE _ = 0› (leafE_ok ‹mayE _ = true›)).elim
      · skip
        have m193 := F184.1
        have m194 := F185.bq
        have k195 := F185.parts
        refine Wo.pre 1 (by kernel_rfl) ?_
        refine Wo.cmp (op := .eql) (x := IX.t 41) (y := IX.c (AV.int IntKind.i64 0)) (k := IntKind.i64) (a := leafE xs) (b := 0) ((leafE xs : Int) = (0 : Int)) (by kernel_rfl) (by kernel_rfl) (by kernel_rfl) (by kernel_rfl) (by simp) (by kernel_rfl) (fun q196 => ?_) (fun q196 => ?_)
        · skip
          exact Bool.noConfusion (‹mayE _ = false›.symm.trans (leafE_zero ‹leafE _ = 0›))
        · skip
          refine Wo.pre 2 (by kernel_rfl) ?_
          refine Wo.nil ?_
          refine Wp.cond false (by kernel_rfl) ?_
          refine Wp.skip ?_
          refine Wp.seq ?_
          refine Wp.seq ?_
          refine Wp.region ?_
          refine Wo.pre 1 (by kernel_rfl) ?_
          refine Wo.cmp (op := .eql) (x := IX.t 45) (y := IX.c (AV.int IntKind.i64 0)) (k := IntKind.i64) (a := leafE xs) (b := 0) ((leafE xs : Int) = (0 : Int)) (by kernel_rfl) (by kernel_rfl) (by kernel_rfl) (by kernel_rfl) (by simp) (by kernel_rfl) (fun q197 => ?_) (fun q197 => ?_)
          · skip
            exact Bool.noConfusion (‹mayE _ = false›.symm.trans (leafE_zero ‹leafE _ = 0›))
          · skip
            refine Wo.nil ?_
            refine Wp.cond false (by kernel_rfl) ?_
            refine Wp.skip ?_
            exact  back_2 (v := v) (b5 := H9.n) (hv.fr (((((((X9.trans0 X11).trans0 X20.fr).trans0 X33.fr).trans0 X42).transL X44).transR X52.fr).transR X190.fr) (by (first | omega | (intro s hs; omega) | (dsimp only; omega) | (intro s hs; dsimp only at hs; omega) | (simp only [blk_nils, blk_sl]; omega) | (intro s hs; simp only [blk_nils, blk_sl] at hs ⊢; omega) | (simp; done)))) (hy.fr (((((((X9.trans0 X11).trans0 X20.fr).trans0 X33.fr).trans0 X42).transL X44).transR X52.fr).transR X190.fr) (by (first | omega | (intro s hs; omega) | (dsimp only; omega) | (intro s hs; dsimp only at hs; omega) | (simp only [blk_nils, blk_sl]; omega) | (intro s hs; simp only [blk_nils, blk_sl] at hs ⊢; omega) | (simp; done)))) (hx.fr (((((((X9.trans0 X11).trans0 X20.fr).trans0 X33.fr).trans0 X42).transL X44).transR X52.fr).transR X190.fr) (by (first | omega | (intro s hs; omega) | (dsimp only; omega) | (intro s hs; dsimp only at hs; omega) | (simp only [blk_nils, blk_sl]; omega) | (intro s hs; simp only [blk_nils, blk_sl] at hs ⊢; omega) | (simp; done)))) hl hl1 hl2 (P11.fr (((((X20.fr.trans0 X33.fr).trans0 X42).transL X44).transR X52.fr).transR X190.fr) (by (first | omega | (intro s hs; omega) | (dsimp only; omega) | (intro s hs; dsimp only at hs; omega) | (simp only [blk_nils, blk_sl]; omega) | (intro s hs; simp only [blk_nils, blk_sl] at hs ⊢; omega) | (simp; done)))) (by kernel_rfl) (by kernel_rfl) (by kernel_rfl)
end Go.Det

