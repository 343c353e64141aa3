/- Texts of the proof, one behind the other (BunR, EntsOf). -/
import Derived.Test.YthahfhdibhgboaaM3BundleBytes
/- The laws of bundles, walked. -/
set_option linter.unusedVariables false
set_option linter.unusedSimpArgs false
set_option linter.unusedSectionVars false
namespace Go.Det
open Go.Proofs
attribute [local irreducible] Wp Wo Wd iop ev slots quiets wanted put

def FewR (rs : List Rec) : Prop := (rs.length + 1) * 32 ≤ 200000000000000 ∧ ∀ r ∈ rs, r.2.length * 24 ≤ 140737488355328 ∧ ∀ l ∈ r.2, l.length ≤ maxRow
theorem few_iff {xs : List Ent} : FewE xs ↔ FewR (recsE xs) := by
  unfold FewE FewR
  rw [recs_len]
  refine and_congr Iff.rfl ⟨fun h r hr => ?_, fun h e he => ?_⟩
  · obtain ⟨e, he, rfl⟩ := List.mem_map.1 hr
    refine ⟨?_, fun l hl => ?_⟩
    · have := (h e he).1
      show (says e.ps).length * 24 ≤ _
      rw [says_len]; exact this
    · obtain ⟨p, hp, rfl⟩ := List.mem_map.1 (show l ∈ says e.ps from hl)
      exact (h e he).2 p hp
  · have := h e.tell (List.mem_map_of_mem he)
    refine ⟨?_, fun p hp => this.2 p.2 (List.mem_map_of_mem hp)⟩
    have h1 : (says e.ps).length * 24 ≤ 140737488355328 := this.1
    rw [says_len] at h1; exact h1
theorem few_of {xs ys : List Ent} (e : recsE ys = recsE xs) (hf : FewE xs) : FewE ys := by rw [few_iff, e, ← few_iff]; exact hf
theorem few_may {rs : List Rec} (hm : mayR rs = true) : FewR rs := by
  have hmx : 200000000000000 = maxRow := rfl
  obtain ⟨h1, h2, h3⟩ := mayR_iff.1 hm
  refine ⟨by omega, fun r hr => ?_⟩
  obtain ⟨g1, g2, g3⟩ := mayS_small (h3 r hr)
  exact ⟨by omega, fun l hl => by have := (g3 l hl).2; omega⟩
theorem few_take {l : List UInt8} {xs : List Ent} {E : Int} (h : takeOf l = (recsE xs, E)) : FewE xs := by
  rw [few_iff]
  rcases take_dec h with ⟨_, hm, _⟩ | ⟨_, e⟩
  · exact few_may hm
  · rw [e]; exact ⟨by simp, fun r hr => by simp at hr⟩
theorem take_mays {l : List UInt8} {xs : List Ent} {E : Int} (h : takeOf l = (recsE xs, E)) : ∀ e ∈ xs, mayE e.ps = true := fun e he => by
  rcases take_dec h with ⟨_, hm, _⟩ | ⟨_, e1⟩
  · rw [may_says]
    exact (mayR_iff.1 hm).2.2 e.tell (List.mem_map_of_mem he)
  · have : xs = [] := by simpa [recsE] using e1
    rw [this] at he; simp at he
theorem take_few {l : List UInt8} {xs : List Ent} {E : Int} (h : takeOf l = (recsE xs, E)) : xs.length ≤ 16 := by
  rw [← recs_len]
  rcases take_dec h with ⟨_, hm, _⟩ | ⟨_, e1⟩
  · exact (mayR_iff.1 hm).2.1
  · rw [e1]; simp
theorem take_one {l : List UInt8} {xs ys : List Ent} {E E' : Int} (h : takeOf l = (recsE xs, E)) (h' : takeOf l = (recsE ys, E')) : E = E' ∧ decide (recsE xs = recsE ys) = true := by
  rw [h] at h'
  simp only [Prod.mk.injEq] at h'
  exact ⟨h'.2, by simp [h'.1]⟩
theorem take_one0 {l : List UInt8} {xs ys : List Ent} {E E' : Int} (h : takeOf ([] ++ l) = (recsE xs, E)) (h' : takeOf l = (recsE ys, E')) : E = E' ∧ decide (recsE xs = recsE ys) = true := take_one h h'
/-- A range of entries' rows whose bytes may be spoiled. -/
structure OwEI (lo hi : Nat) (h : H) (v : AV) (xs : List Ent) : Prop where
  k : OwE lo h v xs
  hi : Go.Det.blk v ≤ hi ∧ ∀ e ∈ xs, Go.Det.blk e.z ≤ hi ∧ ∀ p ∈ e.ps, Go.Det.blk p.1 ≤ hi
theorem OwE.rng {lo : Nat} {h : H} {v : AV} {xs : List Ent} (o : OwE lo h v xs) : Go.Det.blk v ≤ h.n ∧ ∀ e ∈ xs, Go.Det.blk e.z ≤ h.n ∧ ∀ p ∈ e.ps, Go.Det.blk p.1 ≤ h.n :=
  ⟨o.row.bd.2, fun e he => ⟨(o.el e he).1.bd.2, fun p hp => ((o.el e he).1.el p hp).bd.2⟩⟩

theorem same68_run {h : H} {v w : AV} {xs ys : List Ent} (hc : Es h v xs) (hd : Es h w ys) (hf : FewE xs) : ∃ r h', Runs TF 68 [v, w] h r h' ∧ r = .bool (decide (recsE xs = recsE ys)) ∧ Ext h h' := by
  refine Runs.ofP f68 rfl ?_
  have hmx : 200000000000000 = maxRow := rfl
  by_cases hl : xs.length = ys.length
  · have m1 := hc.bq
    have k2 := hc.parts
    have m3 := hd.bq
    have k4 := hd.parts
    refine Wp.seq ?_
    refine Wp.region ?_
    refine Wo.pre 1 (by kernel_rfl) ?_
    refine Wo.nil ?_
    refine Wp.seq ?_
    refine Wp.seq ?_
    refine Wp.region ?_
    refine Wo.pre 1 (by kernel_rfl) ?_
    refine Wo.val (.int .i64 (List.length (xs) : Nat)) h (by kernel_rfl) (iop_lenS (v := v) (by kernel_rfl) hc.lenS) ?_
    refine Wo.pre 1 (by kernel_rfl) ?_
    refine Wo.val (.int .i64 (List.length (ys) : Nat)) h (by kernel_rfl) (iop_lenS (v := w) (by kernel_rfl) hd.lenS) ?_
    refine Wo.cmpN (op := .neq) (x := IX.t 7) (y := IX.t 9) (k := IntKind.i64) (a := ↑xs.length) (b := ↑ys.length) ((↑xs.length : Int) = (↑ys.length : Int)) (by kernel_rfl) (by kernel_rfl) (by kernel_rfl) (by kernel_rfl) (by simp) (by kernel_rfl) (fun q5 => ?_) (fun q5 => ?_)
    rotate_left
    · (exfalso; omega)
    refine Wo.nil ?_
    refine Wp.cond false (by kernel_rfl) ?_
    refine Wp.skip ?_
    refine Wp.seq ?_
    refine Wp.seq ?_
    refine Wp.region ?_
    refine Wo.pre 1 (by kernel_rfl) ?_
    refine Wo.nil ?_
    refine Wp.block ?_
    refine same68_loop hc hd hl hf xs.length 0 (by omega) h _ (Ext.refl _) (by simp [recsE]) (by kernel_rfl) (by kernel_rfl) (by kernel_rfl) (by kernel_rfl) _ ?_ ?_
    · intro ts' h' hE hm t0
      rw [hm]
      show Wp TF _ _ _
      rw [laid_eq t0 [] (by simp)]
      have m1 := hc.bq
      have k2 := hc.parts
      have m3 := hd.bq
      have k4 := hd.parts
      have m5 := hE.1
      refine Wp.seq ?_
      refine Wp.region ?_
      refine Wo.pre 1 (by kernel_rfl) ?_
      refine Wo.nil ?_
      refine Wp.ret ?_
      refine ⟨.inr rfl, (AV.bool true), (ret_one (res_tmp (by kernel_rfl) res_nil)), ?_⟩
      dsimp only
      exact ⟨rfl, hE⟩
    · intro ts' h' hm hE t4
      rw [hm]
      exact ⟨.inr rfl, .bool false, ret_one (res_tmp (by rw [t4]; rfl) res_nil), rfl, hE⟩
  · have e : decide (recsE xs = recsE ys) = false := by
      simp only [decide_eq_false_iff_not]
      intro e
      have := congrArg List.length e
      rw [recs_len, recs_len] at this
      exact hl this
    rw [e]
    have m1 := hc.bq
    have k2 := hc.parts
    have m3 := hd.bq
    have k4 := hd.parts
    refine Wp.seq ?_
    refine Wp.region ?_
    refine Wo.pre 1 (by kernel_rfl) ?_
    refine Wo.nil ?_
    refine Wp.seq ?_
    refine Wp.seq ?_
    refine Wp.region ?_
    refine Wo.pre 1 (by kernel_rfl) ?_
    refine Wo.val (.int .i64 (List.length (xs) : Nat)) h (by kernel_rfl) (iop_lenS (v := v) (by kernel_rfl) hc.lenS) ?_
    refine Wo.pre 1 (by kernel_rfl) ?_
    refine Wo.val (.int .i64 (List.length (ys) : Nat)) h (by kernel_rfl) (iop_lenS (v := w) (by kernel_rfl) hd.lenS) ?_
    refine Wo.cmpN (op := .neq) (x := IX.t 7) (y := IX.t 9) (k := IntKind.i64) (a := ↑xs.length) (b := ↑ys.length) ((↑xs.length : Int) = (↑ys.length : Int)) (by kernel_rfl) (by kernel_rfl) (by kernel_rfl) (by kernel_rfl) (by simp) (by kernel_rfl) (fun q5 => ?_) (fun q5 => ?_)
    · (exfalso; omega)
    refine Wo.nil ?_
    refine Wp.cond true (by kernel_rfl) ?_
    refine Wp.seq ?_
    refine Wp.region ?_
    refine Wo.pre 1 (by kernel_rfl) ?_
    refine Wo.nil ?_
    refine Wp.ret ?_
    refine ⟨.inr rfl, (AV.bool false), (ret_one (res_tmp (by kernel_rfl) res_nil)), ?_⟩
    dsimp only
    exact ⟨rfl, (Ext.refl _)⟩

attribute [local irreducible] takeOf putX putE mayR recsE
set_option maxHeartbeats 16000000 in
theorem bytes15_run {h : H} {v w : AV} {xs : List Ent} {l : List UInt8} (hc : Es h v xs) (hf : FewE xs) (hw : Bs h w l) (ok : Cok w) (hl : l.length ≤ maxRow) : ∃ r h', Runs TF 15 [v, w] h r h' ∧ r = .bool true := by
  refine Runs.ofP f15 rfl ?_
  have hmx : 200000000000000 = maxRow := rfl
  have m1 := hc.bq
  have k2 := hc.parts
  have m3 := hw.bq
  have k4 := hw.parts
  refine Wp.seq ?_
  refine Wp.region ?_
  refine Wo.pre 1 (by kernel_rfl) ?_
  refine Wo.nil ?_
  refine Wp.seq ?_
  refine Wp.region ?_
  refine Wo.pre 1 (by kernel_rfl) ?_
  obtain ⟨r5, H6, c7, ys8, X9, q10, q11⟩ := own63_run hc hf
  have m12 := X9.1
  have m13 := q10.bq
  have k14 := q10.parts
  refine Wo.call (by kernel_rfl) (by kernel_rfl) c7 ?_
  clear c7
  refine Wo.pre 1 (by kernel_rfl) ?_
  have F15 := (hw.fr X9.fr (.inr id))
  obtain ⟨v16, H17, a18, q19, X20, q21⟩ := Ow.appF (Ow.nil0 (lo := H6.n)) F15 (by first | omega | (simp; omega) | (simp; done) | assumption | (exact few_of (by with_reducible assumption) hf) | (exact few_take (by with_reducible assumption))) (by first | omega | (simp; omega) | (simp; done) | assumption | (exact few_of (by with_reducible assumption) hf) | (exact few_take (by with_reducible assumption)))
  refine Wo.val _ _ (by kernel_rfl) (iop_appG (v := AV.nils) (w := w) (by kernel_rfl) (by kernel_rfl) k4.2.2 a18) ?_
  have m22 := q19.bq
  have k23 := q19.parts
  have m24 := X20.1
  refine Wo.pre 2 (by kernel_rfl) ?_
  refine Wo.nil ?_
  refine Wp.seq ?_
  refine Wp.region ?_
  refine Wo.pre 1 (by kernel_rfl) ?_
  have F25 := (q10.fr X20 (by have d0 := m13.1.e; (first | omega | (intro s hs; omega) | (dsimp only; omega) | (intro s hs; dsimp only at hs; omega) | (simp only [blk_nils, blk_sl]; omega) | (intro s hs; simp only [blk_nils, blk_sl] at hs ⊢; omega) | (simp; done))))
  obtain ⟨r26, H27, c28, z29, rfl, X31, q32⟩ := put64_run F25.es (by first | omega | (simp; omega) | (simp; done) | assumption | (exact few_of (by with_reducible assumption) hf) | (exact few_take (by with_reducible assumption)))
  have m33 := X31.1
  have m34 := q32.bq
  have k35 := q32.parts
  refine Wo.call (by kernel_rfl) (by kernel_rfl) c28 ?_
  clear c28
  refine Wo.pre 5 (by kernel_rfl) ?_
  refine Wo.nil ?_
  refine Wp.seq ?_
  refine Wp.region ?_
  refine Wo.pre 1 (by kernel_rfl) ?_
  have F36 := (hc.fr ((X9.fr.transL X20).transR X31.fr) (by (first | omega | (intro s hs; omega) | (dsimp only; omega) | (intro s hs; dsimp only at hs; omega) | (simp only [blk_nils, blk_sl]; omega) | (intro s hs; simp only [blk_nils, blk_sl] at hs ⊢; omega) | (simp; done))))
  obtain ⟨r37, H38, c39, z40, rfl, X42, q43⟩ := rput65_run F36 hf
  have m44 := X42.1
  have m45 := q43.bq
  have k46 := q43.parts
  refine Wo.call (by kernel_rfl) (by kernel_rfl) c39 ?_
  clear c39
  refine Wo.pre 5 (by kernel_rfl) ?_
  refine Wo.nil ?_
  refine Wp.seq ?_
  refine Wp.region ?_
  refine Wo.pre 1 (by kernel_rfl) ?_
  have F47 := (q19.fr (X31.fr.trans0 X42.fr) (.inr id))
  obtain ⟨r48, H49, c50, z51, xs52, E53, rfl, X55, q56, q57⟩ := take66_run F47.bs (by first | omega | (simp; omega) | (simp; done) | assumption | (exact few_of (by with_reducible assumption) hf) | (exact few_take (by with_reducible assumption)))
  have m58 := X55.1
  have m59 := q56.bq
  have k60 := q56.parts
  refine Wo.call (by kernel_rfl) (by kernel_rfl) c50 ?_
  clear c50
  refine Wo.pre 5 (by kernel_rfl) ?_
  refine Wo.nil ?_
  refine Wp.seq ?_
  refine Wp.region ?_
  refine Wo.pre 1 (by kernel_rfl) ?_
  have F61 := (F15.fr (((X20.transR X31.fr).transR X42.fr).transR X55.fr) (by (first | omega | (intro s hs; omega) | (dsimp only; omega) | (intro s hs; dsimp only at hs; omega) | (simp only [blk_nils, blk_sl]; omega) | (intro s hs; simp only [blk_nils, blk_sl] at hs ⊢; omega) | (simp; done))))
  obtain ⟨r62, H63, c64, z65, xs66, E67, rfl, X69, q70, q71⟩ := rtake67_run F61 ok hl
  have m72 := X69.1
  have m73 := q70.bq
  have k74 := q70.parts
  refine Wo.call (by kernel_rfl) (by kernel_rfl) c64 ?_
  clear c64
  refine Wo.pre 5 (by kernel_rfl) ?_
  refine Wo.nil ?_
  refine Wp.seq ?_
  refine Wp.region ?_
  refine Wo.pre 1 (by kernel_rfl) ?_
  have F75 := (q32.fr ((X42.fr.trans0 X55.fr).trans0 X69.fr) (.inr id))
  refine Wo.val (.str (putX (recsE ys8))) H63 (by kernel_rfl) (iop_cvBS (v := z29) (by kernel_rfl) F75.bs) ?_
  refine Wo.pre 1 (by kernel_rfl) ?_
  have F76 := (q43.fr (X55.fr.trans0 X69.fr) (.inr id))
  refine Wo.val (.str (putX (recsE xs))) H63 (by kernel_rfl) (iop_cvBS (v := z40) (by kernel_rfl) F76.bs) ?_
  refine Wo.cmpS (x := IX.t 43) (y := IX.t 45) (a := putX (recsE ys8)) (b := putX (recsE xs)) (by kernel_rfl) (by kernel_rfl) (by kernel_rfl) (by kernel_rfl) (fun q77 => ?_) (fun q77 => ?_)
  rotate_left
  · exact (‹putX _ ≠ putX _› (by rw [‹recsE _ = recsE xs›])).elim
  have m78 := F15.bq
  have k79 := F15.parts
  have m80 := F25.bq
  have k81 := F25.parts
  have m82 := F36.bq
  have k83 := F36.parts
  have m84 := F47.bq
  have k85 := F47.parts
  have m86 := F61.bq
  have k87 := F61.parts
  have m88 := F75.bq
  have k89 := F75.parts
  have m90 := F76.bq
  have k91 := F76.parts
  refine Wo.pre 3 (by kernel_rfl) ?_
  refine Wo.cmp (op := .eql) (x := IX.t 48) (y := IX.t 49) (k := IntKind.i64) (a := putE (recsE ys8)) (b := putE (recsE xs)) ((putE (recsE ys8) : Int) = (putE (recsE xs) : Int)) (by kernel_rfl) (by kernel_rfl) (by kernel_rfl) (by kernel_rfl) (by simp) (by kernel_rfl) (fun q92 => ?_) (fun q92 => ?_)
  rotate_left
  · exact (‹¬ putE _ = putE _› (by rw [‹recsE _ = recsE xs›])).elim
  refine Wo.pre 4 (by kernel_rfl) ?_
  have F93 := (q56.fr X69.fr (fun _ e => e.elim))
  obtain ⟨r94, H95, c96, rfl, X98⟩ := same68_run F93.es q70.es (by first | omega | (simp; omega) | (simp; done) | assumption | (exact few_of (by with_reducible assumption) hf) | (exact few_take (by with_reducible assumption)))
  have m99 := X98.1
  refine Wo.call (by kernel_rfl) (by kernel_rfl) c96 ?_
  clear c96
  refine Wo.boolS (fun q100 => ?_) (fun q100 => ?_)
  rotate_left
  · exact Bool.noConfusion (‹decide (recsE _ = recsE _) = false›.symm.trans (take_one0 (by with_reducible assumption) (by with_reducible assumption)).2)
  have m101 := F93.bq
  have k102 := F93.parts
  refine Wo.pre 4 (by kernel_rfl) ?_
  refine Wo.cmp (op := .eql) (x := IX.t 58) (y := IX.t 59) (k := IntKind.i64) (a := E53) (b := E67) ((E53 : Int) = (E67 : Int)) (by kernel_rfl) (by kernel_rfl) (by kernel_rfl) (by kernel_rfl) (by simp) (by kernel_rfl) (fun q103 => ?_) (fun q103 => ?_)
  rotate_left
  · exact (‹¬ (_ : Int) = _› (take_one0 (by with_reducible assumption) (by with_reducible assumption)).1).elim
  refine Wo.pre 2 (by kernel_rfl) ?_
  refine Wo.nil ?_
  refine Wp.seq ?_
  refine Wp.seq ?_
  refine Wp.region ?_
  refine Wo.pre 1 (by kernel_rfl) ?_
  refine Wo.nil ?_
  refine Wp.block ?_
  have oX : OwE H38.n H95 z51 xs52 := F93.fr X98.fr (fun _ e => e.elim)
  have rg := q56.rng
  have hcc : ∀ e ∈ xs52, mayE e.ps = true := take_mays q57
  have hfw := take_few q57
  have hfl : ∀ p ∈ (xs52.map (·.ps)).flatten, ∃ l', l'.length = p.2.length ∧ Ow H38.n H95 p.1 l' := fun p hp => by
    obtain ⟨ps, h1, h2⟩ := List.mem_flatten.1 hp
    obtain ⟨e, he, rfl⟩ := List.mem_map.1 h1
    exact ⟨p.2, rfl, (oX.el e he).1.el p h2⟩
  rcases oX.row with ⟨rfl, _, e3⟩ | ⟨b, g, c, _, _, h3, rfl, _, _⟩
  · have m1 := hc.bq
    have k2 := hc.parts
    have m3 := hw.bq
    have k4 := hw.parts
    have m5 := q10.bq
    have k6 := q10.parts
    have m7 := F15.bq
    have k8 := F15.parts
    have m9 := q19.bq
    have k10 := q19.parts
    have m11 := F25.bq
    have k12 := F25.parts
    have m13 := q32.bq
    have k14 := q32.parts
    have m15 := F36.bq
    have k16 := F36.parts
    have m17 := q43.bq
    have k18 := q43.parts
    have m19 := F47.bq
    have k20 := F47.parts
    have m21 := F61.bq
    have k22 := F61.parts
    have m23 := q70.bq
    have k24 := q70.parts
    have m25 := F75.bq
    have k26 := F75.parts
    have m27 := F76.bq
    have k28 := F76.parts
    have m29 := q56.bq
    have k30 := q56.parts
    have m31 := F93.bq
    have k32 := F93.parts
    have m33 := oX.bq
    have k34 := oX.parts
    have m35 := X9.1
    have m36 := X20.1
    have m37 := X31.1
    have m38 := X42.1
    have m39 := X55.1
    have m40 := X69.1
    have m41 := X98.1
    refine Wp.loop ?_
    refine Wp.seq ?_
    refine Wp.seq ?_
    refine Wp.region ?_
    refine Wo.pre 3 (by kernel_rfl) ?_
    refine Wo.pre 1 (by kernel_rfl) ?_
    refine Wo.nil ?_
    refine Wp.cond false (by kernel_rfl) ?_
    refine Wp.exit ?_
    refine Wp.seq ?_
    refine Wp.region ?_
    refine Wo.pre 4 (by kernel_rfl) ?_
    have F42 := (F25.fr ((((X31.fr.trans0 X42.fr).trans0 X55.fr).trans0 X69.fr).trans0 X98.fr) (fun _ e => e.elim))
    have F43 := (F36.fr (((X42.fr.trans0 X55.fr).trans0 X69.fr).trans0 X98.fr) (fun _ e => e.elim))
    obtain ⟨r44, H45, c46, rfl, X48⟩ := same68_run F42.es F43 (by first | omega | (simp; omega) | (simp; done) | assumption | (exact few_of (by with_reducible assumption) hf))
    have m49 := X48.1
    refine Wo.call (by kernel_rfl) (by kernel_rfl) c46 ?_
    clear c46
    refine Wo.boolS (fun q50 => ?_) (fun q50 => ?_)
    rotate_left
    · exact Bool.noConfusion (‹decide (recsE _ = recsE _) = false›.symm.trans (decide_eq_true ‹recsE ys8 = recsE xs›))
    have m51 := F42.bq
    have k52 := F42.parts
    have m53 := F43.bq
    have k54 := F43.parts
    refine Wo.pre 3 (by kernel_rfl) ?_
    have F55 := (F47.fr (((X55.fr.trans0 X69.fr).trans0 X98.fr).trans0 X48.fr) (.inr id))
    refine Wo.val (.str ([] ++ l)) H45 (by kernel_rfl) (iop_cvBS (v := v16) (by kernel_rfl) F55.bs) ?_
    refine Wo.pre 1 (by kernel_rfl) ?_
    have F56 := (F61.fr ((X69.fr.trans0 X98.fr).trans0 X48.fr) (.inr id))
    refine Wo.val (.str (l)) H45 (by kernel_rfl) (iop_cvBS (v := w) (by kernel_rfl) F56) ?_
    refine Wo.cmpS (x := IX.t 98) (y := IX.t 100) (a := l) (b := l) (by kernel_rfl) (by kernel_rfl) (by kernel_rfl) (by kernel_rfl) (fun q57 => ?_) (fun q57 => ?_)
    rotate_left
    · exact (‹[] ++ l ≠ l› rfl).elim
    have m58 := F55.bq
    have k59 := F55.parts
    have m60 := F56.bq
    have k61 := F56.parts
    refine Wo.pre 2 (by kernel_rfl) ?_
    have c62 := wakes_run (H45)
    refine Wo.call (by kernel_rfl) (by kernel_rfl) c62 ?_
    clear c62
    refine Wo.pre 2 (by kernel_rfl) ?_
    refine Wo.nil ?_
    refine Wp.ret ?_
    refine ⟨.inr rfl, (AV.bool true), (ret_one (res_tmp (by kernel_rfl) res_nil)), ?_⟩
    dsimp only
  · refine spoil15_2 (h0 := H95) (lo := H38.n) (hi := H49.n) (ab := b) (ag := g) (q := c) (s0 := v) (s1 := w) (s5 := r5) (s6 := v16) (s15 := .bool true) h3 (fun e he => (oX.el e he).1) (fun e he p hp => (rg.2 e he).2 p hp) hcc hfw xs52.length 0 (by omega) H95 _ ⟨rfl, fun _ _ => rfl⟩ hfl (by kernel_rfl) (by kernel_rfl) (by kernel_rfl) (by kernel_rfl) (by kernel_rfl) (by kernel_rfl) (by kernel_rfl) (by kernel_rfl) _ ?_
    intro ts' h' hF t0 g0 g1 g5 g6 g15
    rw [laid_eq t0 [(0, v), (1, w), (5, r5), (6, v16), (15, .bool true)] (by simp [g0, g1, g5, g6, g15])]
    show Wp TF _ _ _
    have m1 := hc.bq
    have k2 := hc.parts
    have m3 := hw.bq
    have k4 := hw.parts
    have m5 := q10.bq
    have k6 := q10.parts
    have m7 := F15.bq
    have k8 := F15.parts
    have m9 := q19.bq
    have k10 := q19.parts
    have m11 := F25.bq
    have k12 := F25.parts
    have m13 := q32.bq
    have k14 := q32.parts
    have m15 := F36.bq
    have k16 := F36.parts
    have m17 := q43.bq
    have k18 := q43.parts
    have m19 := F47.bq
    have k20 := F47.parts
    have m21 := F61.bq
    have k22 := F61.parts
    have m23 := q70.bq
    have k24 := q70.parts
    have m25 := F75.bq
    have k26 := F75.parts
    have m27 := F76.bq
    have k28 := F76.parts
    have m29 := q56.bq
    have k30 := q56.parts
    have m31 := F93.bq
    have k32 := F93.parts
    have m33 := oX.bq
    have k34 := oX.parts
    have m35 := X9.1
    have m36 := X20.1
    have m37 := X31.1
    have m38 := X42.1
    have m39 := X55.1
    have m40 := X69.1
    have m41 := X98.1
    have m42 := hF.1
    refine Wp.seq ?_
    refine Wp.region ?_
    refine Wo.pre 4 (by kernel_rfl) ?_
    have F43 := (F25.fr (((((X31.fr.trans0 X42.fr).trans0 X55.fr).trans0 X69.fr).trans0 X98.fr).transL hF) (by have d0 := m13.1.e; have d1 := m80.1.e; have d2 := m5.1.e; have d3 := m11.1.e; (first | omega | (intro s hs; omega) | (dsimp only; omega) | (intro s hs; dsimp only at hs; omega) | (simp only [blk_nils, blk_sl]; omega) | (intro s hs; simp only [blk_nils, blk_sl] at hs ⊢; omega) | (simp; done))))
    have F44 := (F36.fr ((((X42.fr.trans0 X55.fr).trans0 X69.fr).trans0 X98.fr).transL hF) (by (first | omega | (intro s hs; omega) | (dsimp only; omega) | (intro s hs; dsimp only at hs; omega) | (simp only [blk_nils, blk_sl]; omega) | (intro s hs; simp only [blk_nils, blk_sl] at hs ⊢; omega) | (simp; done))))
    obtain ⟨r45, H46, c47, rfl, X49⟩ := same68_run F43.es F44 (by first | omega | (simp; omega) | (simp; done) | assumption | (exact few_of (by with_reducible assumption) hf))
    have m50 := X49.1
    refine Wo.call (by kernel_rfl) (by kernel_rfl) c47 ?_
    clear c47
    refine Wo.boolS (fun q51 => ?_) (fun q51 => ?_)
    rotate_left
    · exact Bool.noConfusion (‹decide (recsE _ = recsE _) = false›.symm.trans (decide_eq_true ‹recsE ys8 = recsE xs›))
    have m52 := F43.bq
    have k53 := F43.parts
    have m54 := F44.bq
    have k55 := F44.parts
    refine Wo.pre 3 (by kernel_rfl) ?_
    have F56 := (F47.fr ((((X55.fr.trans0 X69.fr).trans0 X98.fr).transL hF).transR X49.fr) (by have d0 := m22.1.e; have d1 := m84.1.e; have d2 := m9.1.e; have d3 := m19.1.e; (first | omega | (intro s hs; omega) | (dsimp only; omega) | (intro s hs; dsimp only at hs; omega) | (simp only [blk_nils, blk_sl]; omega) | (intro s hs; simp only [blk_nils, blk_sl] at hs ⊢; omega) | (simp; done))))
    refine Wo.val (.str ([] ++ l)) H46 (by kernel_rfl) (iop_cvBS (v := v16) (by kernel_rfl) F56.bs) ?_
    refine Wo.pre 1 (by kernel_rfl) ?_
    have F57 := (F61.fr (((X69.fr.trans0 X98.fr).transL hF).transR X49.fr) (by (first | omega | (intro s hs; omega) | (dsimp only; omega) | (intro s hs; dsimp only at hs; omega) | (simp only [blk_nils, blk_sl]; omega) | (intro s hs; simp only [blk_nils, blk_sl] at hs ⊢; omega) | (simp; done))))
    refine Wo.val (.str (l)) H46 (by kernel_rfl) (iop_cvBS (v := w) (by kernel_rfl) F57) ?_
    refine Wo.cmpS (x := IX.t 98) (y := IX.t 100) (a := l) (b := l) (by kernel_rfl) (by kernel_rfl) (by kernel_rfl) (by kernel_rfl) (fun q58 => ?_) (fun q58 => ?_)
    rotate_left
    · exact (‹[] ++ l ≠ l› rfl).elim
    have m59 := F56.bq
    have k60 := F56.parts
    have m61 := F57.bq
    have k62 := F57.parts
    refine Wo.pre 2 (by kernel_rfl) ?_
    have c63 := wakes_run (H46)
    refine Wo.call (by kernel_rfl) (by kernel_rfl) c63 ?_
    clear c63
    refine Wo.pre 2 (by kernel_rfl) ?_
    refine Wo.nil ?_
    refine Wp.ret ?_
    refine ⟨.inr rfl, (AV.bool true), (ret_one (res_tmp (by kernel_rfl) res_nil)), ?_⟩
    dsimp only
end Go.Det

/- Rows of entries as arguments. -/
set_option linter.unusedVariables false
set_option linter.unusedSimpArgs false
namespace Go.Det
open Go.Proofs

theorem ents_of {h : H} {xs : List (Int × List (List Int))} {v : AV} (hk : KSl (KPair (KInt .u64) (KSl (KSl (KInt .u8) 1) 1)) (1 + 1) h xs [v]) (hw1 : xs.length * 32 ≤ 140737488355328) (hw : ∀ x ∈ xs, (0 ≤ x.1 ∧ x.1 < 2 ^ 64) ∧ x.2.length * 24 ≤ 140737488355328 ∧ ∀ y ∈ x.2, y.length ≤ maxRow ∧ ∀ n ∈ y, IntKind.u8.min ≤ n ∧ n ≤ IntKind.u8.max) :
    ∃ es : List Ent, Es h v es ∧ FewE es := by
  have hmx : 200000000000000 = maxRow := rfl
  obtain ⟨v', e, hv⟩ := hk
  simp only [List.cons.injEq, and_true] at e
  subst e
  rcases hv with ⟨rfl, rfl⟩ | ⟨a, c, rfl, h1, h2, cc, h3, h4, h5⟩
  · exact ⟨[], Es.nil0, by simp, fun e he => by simp at he⟩
  · have key : ∀ j : Fin xs.length, ∃ p : Ent, cc[j.1]? = some p.cells ∧ Ch h p.z p.ps ∧ p.t < 2 ^ 64 ∧ p.ps.length * 24 ≤ 140737488355328 ∧ ∀ q ∈ p.ps, q.2.length ≤ maxRow := by
      intro j
      have hj : xs[j.1]? = some xs[j.1] := List.getElem?_eq_getElem j.2
      obtain ⟨cs, hc, y, z, rfl, k1, k2⟩ := h5 j.1 _ hj
      have hmem := List.mem_of_getElem? hj
      obtain ⟨⟨w1, w2⟩, w3, w4⟩ := hw _ hmem
      obtain rfl : y = [.int .u64 (xs[j.1]).1] := k1
      obtain ⟨z', rfl, hz⟩ := k2
      obtain ⟨ps, hch, hl, hp⟩ := chain_of (v := z') ⟨z', rfl, hz⟩ (fun x hx => (w4 x hx).2)
      obtain ⟨n, hn⟩ : ∃ n : Nat, (xs[j.1]).1 = n := ⟨(xs[j.1]).1.toNat, by omega⟩
      refine ⟨⟨n, z', ps⟩, ?_, hch, ?_, ?_, ?_⟩
      · rw [hc, hn]; rfl
      · dsimp only; omega
      · dsimp only; omega
      · intro q hq
        obtain ⟨x, hx, e⟩ := hp q hq
        rw [e]; exact (w4 x hx).1
    obtain ⟨f, hf⟩ := Classical.axiomOfChoice key
    have e1 : cc = (List.ofFn f).map Ent.cells := by
      apply List.ext_getElem?
      intro i
      by_cases hi : i < xs.length
      · rw [(hf ⟨i, hi⟩).1]; simp [hi]
      · rw [List.getElem?_eq_none (by omega), List.getElem?_eq_none (by simp; omega)]
    refine ⟨List.ofFn f, ⟨.inr ⟨a, .ex c, by rw [List.length_ofFn], h2, ?_⟩, fun p hp => ?_, fun a m c' e => ?_⟩, ?_, fun p hp => ?_⟩
    · rw [List.length_ofFn, rowE, ← e1]
      exact h3
    · obtain ⟨j, rfl⟩ := mem_fn hp
      exact ⟨(hf j).2.1, (hf j).2.2.1⟩
    · simp only [AV.sl.injEq] at e
      exact .inl ⟨c, e.2.2.symm, by omega⟩
    · rw [List.length_ofFn]; omega
    · obtain ⟨j, rfl⟩ := mem_fn hp
      exact (hf j).2.2.2
end Go.Det

