/- Texts of the proof, one behind the other (Tk, SpB, IRN, NameL, Name, Parse, ParseR, NamesR, NmB, JnL, BunR, JoiR, EntsOf). -/
import Derived.Test.YthahfhdibhgboaaM2BundleJoins
/- Bundles read: the walks. -/
set_option linter.unusedVariables false
set_option linter.unusedSimpArgs false
set_option linter.unusedSectionVars false
namespace Go.Det
open Go.Proofs
attribute [local irreducible] Wp Wo Wd iop ev slots quiets wanted put

/-- A number that fits the kind that it is made. -/
theorem iop_cvIfit {k kk : IntKind} {x : IX} {ρ : IX → AV} {h : H} {a : Int} (hx : ρ x = .int kk a) (h1 : k.min ≤ a) (h2 : a ≤ k.max) : iop (.cvI k x) ρ h = some (.val (.int k a) h) := by
  simp only [iop, hx, asI, Option.map_some, fit_kind k _ h1 h2]

theorem takerecJ {h : H} {y : AV} {l : List UInt8} (hy : Bs h y l) (hl : l.length ≤ maxRow) : ∃ r h', Runs TF 54 [y] h r h' ∧ ∃ t z ps E, r = .tup [entV t z, .int .i64 E] ∧ Ext h h' ∧ OwI h.n h'.n h' z ps ∧ recOf l = (t, says ps, E) ∧ t < 2 ^ 64 := by
  obtain ⟨r, h', c, t, z, ps, E, e, x, o, q⟩ := takerecI hy hl
  exact ⟨r, h', c, t, z, ps, E, e, x, o, q, by rcases rec_dec q with h1 | h1 <;> omega⟩
theorem takeF_sixteen {k n : Nat} {l : List UInt8} (hl : l ≠ []) (h : n = 16) : takeF (k + 1) n l = none := takeF_bad hl (fun e => e.2 h)
theorem takeF_ve {k n : Nat} {l : List UInt8} (hl : l ≠ []) (h : ¬ vE l 3 = 0) : takeF (k + 1) n l = none := takeF_bad hl (fun e => h e.1)
theorem takeF_norec {k n : Nat} {l : List UInt8} (hl : l ≠ []) (h : vE l 3 = 0) (h2 : ¬ n = 16) {t : Nat} {cs : List (List UInt8)} {E : Int} (hr : recOf (vX l 3) = (t, cs, E)) (hE : ¬ E = 0) : takeF (k + 1) n l = none := by rw [takeF_rec hl h h2 hr, if_neg hE]
theorem takeF_yes {k n : Nat} {l : List UInt8} (hl : l ≠ []) (h : vE l 3 = 0) (h2 : ¬ n = 16) {t : Nat} {cs : List (List UInt8)} {E : Int} (hr : recOf (vX l 3) = (t, cs, E)) (hE : E = 0) : takeF (k + 1) n l = (takeF k (n + 1) (vL l 3)).map ((t, cs) :: ·) := by rw [takeF_rec hl h h2 hr, if_pos hE]
theorem recs_add {ys : List Ent} {t : Nat} {z : AV} {ps : List (AV × List UInt8)} : recsE (ys ++ [Ent.mk t z ps]) = recsE ys ++ [(t, says ps)] := by simp [recsE, Ent.tell]

theorem takeF_goS {k : Nat} {l : List UInt8} {ys : List Ent} {t : Nat} {z : AV} {ps : List (AV × List UInt8)} {E : Int} {rs : List Rec} (hl : l ≠ []) (hv : vE l 3 = 0) (hn : ¬ (ys.length : Int) = 16) (hr : recOf (vX l 3) = (t, says ps, E)) (hE : E = 0) (q : takeF k (ys ++ [Ent.mk t z ps]).length (vL l 3) = some rs) : takeF (k + 1) ys.length l = some ((t, says ps) :: rs) := by
  rw [takeF_yes hl hv (by omega) hr hE]
  rw [List.length_append] at q
  exact congrArg (Option.map _) q
theorem takeF_goN {k : Nat} {l : List UInt8} {ys : List Ent} {t : Nat} {z : AV} {ps : List (AV × List UInt8)} {E : Int} (hl : l ≠ []) (hv : vE l 3 = 0) (hn : ¬ (ys.length : Int) = 16) (hr : recOf (vX l 3) = (t, says ps, E)) (hE : E = 0) (q : takeF k (ys ++ [Ent.mk t z ps]).length (vL l 3) = none) : takeF (k + 1) ys.length l = none := by
  rw [takeF_yes hl hv (by omega) hr hE]
  rw [List.length_append] at q
  exact congrArg (Option.map _) q
theorem recs_go {ys zs : List Ent} {t : Nat} {z : AV} {ps : List (AV × List UInt8)} {rs : List Rec} (q : recsE zs = recsE (ys ++ [Ent.mk t z ps]) ++ rs) : recsE zs = recsE ys ++ ((t, says ps) :: rs) := by rw [q, recs_add, List.append_assoc]; rfl

attribute [local irreducible] recOf takeF
set_option maxHeartbeats 8000000 in
theorem take66_loop {hb : H} {rb : Nat} (hrb : rb < hb.n) :
    ∀ (k : Nat) (l : List UInt8), l.length ≤ k → l.length ≤ maxRow → ∀ (h : H) (u lV : AV) (ys : List Ent) (ts : List AV), Rd h rb u l → blk u ≤ hb.n → Fr (fun s => s = rb + 1) hb h → OwE hb.n h lV ys → ys.length ≤ 16 → ts.length = 44 → getL ts 4 = some (.ptr ⟨rb, 0, 0⟩) → getL ts 5 = some (.fn (.func 29) [.ptr ⟨rb, 0, 0⟩] []) → getL ts 6 = some lV →
      ∀ (Q : Ex → St → Prop), (∀ ts' h' lV' zs rs, takeF k ys.length l = some rs → Fr (fun s => s = rb + 1) hb h' → OwE hb.n h' lV' zs → recsE zs = recsE ys ++ rs → ts'.length = 44 → getL ts' 6 = some lV' → Q (.exit 0) (ts', h')) → (∀ ts' h', takeF k ys.length l = none → Fr (fun s => s = rb + 1) hb h' → getL ts' 2 = some .nils → getL ts' 3 = some (.int .i64 5) → Q .ret (ts', h')) → Wp TF (.loop l66_1) (ts, h) Q := by
  have hmx : 200000000000000 = maxRow := rfl
  intro k
  induction k with
  | zero =>
    intro l hk hm h u lV ys ts hR hu hF hO hy t0 t4 t5 t6 Q hQ hQ'
    obtain rfl : l = [] := List.length_eq_zero_iff.1 (by omega)
    have n0 := hF.1
    refine Wp.loop ?_
    rw [laid_eq t0 [(4, .ptr ⟨rb, 0, 0⟩), (5, .fn (.func 29) [.ptr ⟨rb, 0, 0⟩] []), (6, lV)] (by simp [t4, t5, t6])]
    have m1 := hO.bq
    have k2 := hO.parts
    have m3 := hR.bq
    have m4 := hF.1
    refine Wp.seq ?_
    refine Wp.seq ?_
    refine Wp.region ?_
    refine Wo.pre 1 (by kernel_rfl) ?_
    have c5 := left_run (b := rb) hR
    refine Wo.call (by kernel_rfl) (by kernel_rfl) c5 ?_
    clear c5
    refine Wo.pre 1 (by kernel_rfl) ?_
    refine Wo.nil ?_
    refine Wp.cond false (by kernel_rfl) ?_
    refine Wp.exit ?_
    exact hQ _ _ lV ys [] (takeF_nil _ _) hF hO (by simp) (by kernel_rfl) (by kernel_rfl)
  | succ k ih =>
    intro l hk hm h u lV ys ts hR hu hF hO hy t0 t4 t5 t6 Q hQ hQ'
    have n0 := hF.1
    by_cases hl : l = []
    · subst hl
      refine Wp.loop ?_
      rw [laid_eq t0 [(4, .ptr ⟨rb, 0, 0⟩), (5, .fn (.func 29) [.ptr ⟨rb, 0, 0⟩] []), (6, lV)] (by simp [t4, t5, t6])]
      have m1 := hO.bq
      have k2 := hO.parts
      have m3 := hR.bq
      have m4 := hF.1
      refine Wp.seq ?_
      refine Wp.seq ?_
      refine Wp.region ?_
      refine Wo.pre 1 (by kernel_rfl) ?_
      have c5 := left_run (b := rb) hR
      refine Wo.call (by kernel_rfl) (by kernel_rfl) c5 ?_
      clear c5
      refine Wo.pre 1 (by kernel_rfl) ?_
      refine Wo.nil ?_
      refine Wp.cond false (by kernel_rfl) ?_
      refine Wp.exit ?_
      exact hQ _ _ lV ys [] (takeF_nil _ _) hF hO (by simp) (by kernel_rfl) (by kernel_rfl)
    · have hpos : 0 < l.length := List.length_pos_iff.2 hl
      have r4 := vX_len l 3
      have r5 := vL_len l 3
      refine Wp.loop ?_
      rw [laid_eq t0 [(4, .ptr ⟨rb, 0, 0⟩), (5, .fn (.func 29) [.ptr ⟨rb, 0, 0⟩] []), (6, lV)] (by simp [t4, t5, t6])]
      have m1 := hR.bq
      have m2 := hO.bq
      have k3 := hO.parts
      have m4 := hF.1
      refine Wp.seq ?_
      refine Wp.seq ?_
      refine Wp.region ?_
      refine Wo.pre 1 (by kernel_rfl) ?_
      have c5 := left_run (b := rb) hR
      refine Wo.call (by kernel_rfl) (by kernel_rfl) c5 ?_
      clear c5
      refine Wo.cmp (op := .gtr) (x := IX.t 15) (y := IX.c (AV.int IntKind.i64 0)) (k := IntKind.i64) (a := ↑l.length) (b := 0) ((↑l.length : Int) > (0 : Int)) (by kernel_rfl) (by kernel_rfl) (by kernel_rfl) (by kernel_rfl) (by simp) (by kernel_rfl) (fun q6 => ?_) (fun q6 => ?_)
      rotate_left
      · (exfalso; omega)
      refine Wo.nil ?_
      refine Wp.cond true (by kernel_rfl) ?_
      refine Wp.skip ?_
      refine Wp.block ?_
      refine Wp.seq ?_
      refine Wp.region ?_
      refine Wo.pre 1 (by kernel_rfl) ?_
      obtain ⟨H7, x8, v9, c10, q11, q12, X13, q14⟩ := vec_any (b := rb) hR (3) hm
      have m15 := q11.bq
      have m16 := q12.bq
      have k17 := q12.parts
      have m18 := X13.1
      have m19 := q14.bq
      refine Wo.call (by kernel_rfl) (by kernel_rfl) c10 ?_
      clear c10
      refine Wo.pre 5 (by kernel_rfl) ?_
      refine Wo.nil ?_
      refine Wp.seq ?_
      refine Wp.seq ?_
      refine Wp.region ?_
      refine Wo.pre 1 (by kernel_rfl) ?_
      refine Wo.cmpN (op := .neq) (x := IX.t 22) (y := IX.c (AV.int IntKind.i64 0)) (k := IntKind.i64) (a := vE l 3) (b := 0) ((vE l 3 : Int) = (0 : Int)) (by kernel_rfl) (by kernel_rfl) (by kernel_rfl) (by kernel_rfl) (by simp) (by kernel_rfl) (fun q20 => ?_) (fun q20 => ?_)
      · skip
        refine Wo.pre 2 (by kernel_rfl) ?_
        have F21 := (hO.fr X13.fr (by have d0 := m2.1.e; (first | omega | (intro s hs; omega) | (dsimp only; omega) | (intro s hs; dsimp only at hs; omega) | (simp only [blk_nils, blk_sl]; omega) | (intro s hs; simp only [blk_nils, blk_sl] at hs ⊢; omega) | (simp; done))))
        refine Wo.val (.int .i64 (List.length (ys) : Nat)) H7 (by kernel_rfl) (iop_lenS (v := lV) (by kernel_rfl) F21.es.lenS) ?_
        refine Wo.cmp (op := .eql) (x := IX.t 26) (y := IX.c (AV.int IntKind.i64 16)) (k := IntKind.i64) (a := ↑ys.length) (b := 16) ((↑ys.length : Int) = (16 : Int)) (by kernel_rfl) (by kernel_rfl) (by kernel_rfl) (by kernel_rfl) (by simp) (by kernel_rfl) (fun q22 => ?_) (fun q22 => ?_)
        · skip
          have m23 := F21.bq
          have k24 := F21.parts
          refine Wo.pre 1 (by kernel_rfl) ?_
          refine Wo.nil ?_
          refine Wp.cond true (by kernel_rfl) ?_
          refine Wp.seq ?_
          refine Wp.region ?_
          refine Wo.pre 2 (by kernel_rfl) ?_
          refine Wo.nil ?_
          refine Wp.ret ?_
          exact hQ' _ _ (by exact takeF_sixteen hl (by omega)) ((hF.trans X13.fr).mono (by intro s hb hs; first | omega | (dsimp only at hs ⊢; omega) | (simp only [blk_nils, blk_sl] at hs ⊢; omega))) (by kernel_rfl) (by kernel_rfl)
        · skip
          have m25 := F21.bq
          have k26 := F21.parts
          refine Wo.pre 1 (by kernel_rfl) ?_
          refine Wo.nil ?_
          refine Wp.cond false (by kernel_rfl) ?_
          refine Wp.skip ?_
          refine Wp.seq ?_
          refine Wp.region ?_
          refine Wo.pre 1 (by kernel_rfl) ?_
          obtain ⟨r27, H28, c29, t30, z31, ps32, E33, rfl, X35, q36, q37, q38⟩ := takerecJ q12.bs (by first | omega | (simp; omega) | (simp; done) | assumption)
          have m39 := X35.1
          have m40 := q36.bq
          have k41 := q36.parts
          refine Wo.call (by kernel_rfl) (by kernel_rfl) c29 ?_
          clear c29
          refine Wo.pre 3 (by kernel_rfl) ?_
          obtain ⟨H42, e42, P42, X42, n42⟩ := pt_new H28 70 [AV.int IntKind.u64 0, AV.nils] (ones_cons rfl (ones_cons rfl ones_nil))
          refine Wo.val (.ptr ⟨H.n H28, 0, 0⟩) H42 (by kernel_rfl) (e42 (v := AV.agg [AV.int IntKind.u64 0, AV.nils]) (by kernel_rfl) rfl) ?_
          clear e42
          have m43 := X42.1
          obtain ⟨H44, e44, P44, X44, n44⟩ := P42.st 0 [AV.int IntKind.u64 ↑t30, z31] (by simp) (ones_cons rfl (ones_cons k41.2.1 ones_nil))
          refine Wo.val .undef H44 (by kernel_rfl) (iop_stP (a := { b := H28.n, g := 0, o := 0 }) (v := AV.agg [AV.int IntKind.u64 ↑t30, z31]) (vs := [AV.int IntKind.u64 ↑t30, z31]) (by kernel_rfl) (by kernel_rfl) rfl rfl e44) ?_
          have m45 := X44.1
          replace P44 : Pt H44 H28.n (Blk.cells 0 70 [AV.int IntKind.u64 ↑t30, z31] 0 false) := P44
          refine Wo.pre 1 (by kernel_rfl) ?_
          refine Wo.nil ?_
          refine Wp.seq ?_
          refine Wp.seq ?_
          refine Wp.region ?_
          refine Wo.pre 1 (by kernel_rfl) ?_
          refine Wo.cmpN (op := .neq) (x := IX.t 34) (y := IX.c (AV.int IntKind.i64 0)) (k := IntKind.i64) (a := E33) (b := 0) ((E33 : Int) = (0 : Int)) (by kernel_rfl) (by kernel_rfl) (by kernel_rfl) (by kernel_rfl) (by simp) (by kernel_rfl) (fun q46 => ?_) (fun q46 => ?_)
          · skip
            have m47 := P42.1
            have m48 := P44.1
            refine Wo.nil ?_
            refine Wp.cond false (by kernel_rfl) ?_
            refine Wp.skip ?_
            refine Wp.region ?_
            refine Wo.pre 1 (by kernel_rfl) ?_
            refine Wo.val (AV.agg [AV.int IntKind.u64 ↑t30, z31]) H44 (by kernel_rfl) (iop_ldP P44 (a := { b := H28.n, g := 0, o := 0 }) (by kernel_rfl) rfl (by kernel_rfl)) ?_
            obtain ⟨H49, e49, P49, X49, n49⟩ := bsl_new H44 70 [AV.int IntKind.u64 ↑t30, z31] (ones_cons rfl (ones_cons k41.2.1 ones_nil))
            refine Wo.val (.sl ⟨H.n H44, 0, 0⟩ 1 (.ex 1)) H49 (by kernel_rfl) (e49 (fill_cons (v := AV.agg [AV.int IntKind.u64 ↑t30, z31]) (vs := [AV.int IntKind.u64 ↑t30, z31]) (by kernel_rfl) rfl (by kernel_rfl) rfl)) ?_
            clear e49
            have m50 := X49.1
            have F51 := (F21.fr (((X35.fr.trans0 X42).transL X44).transR X49) (by have d0 := m2.1.e; have d1 := m25.1.e; (first | omega | (intro s hs; omega) | (dsimp only; omega) | (intro s hs; dsimp only at hs; omega) | (simp only [blk_nils, blk_sl]; omega) | (intro s hs; simp only [blk_nils, blk_sl] at hs ⊢; omega) | (simp; done))))
            have F52 := (q36.fr ((X42.transL X44).transR X49) (by have d0 := m40.1.e; (first | omega | (intro s hs; omega) | (dsimp only; omega) | (intro s hs; dsimp only at hs; omega) | (simp only [blk_nils, blk_sl]; omega) | (intro s hs; simp only [blk_nils, blk_sl] at hs ⊢; omega) | (simp; done))))
            obtain ⟨v53, H54, a55, q56, X57⟩ := app70_one (lo := hb.n) (lo2 := H7.n) (hi2 := H28.n) (b := H44.n) (t := t30) P49 F51 F52 q38 (by first | omega | (simp; omega) | (simp; done) | assumption) (by first | omega | (simp; omega) | (simp; done) | assumption) (by first | omega | (simp; omega) | (simp; done) | assumption)
            refine Wo.val _ _ (by kernel_rfl) (iop_appG (v := lV) (w := AV.sl { b := H44.n, g := 0, o := 0 } 1 (Cp.ex 1)) (by kernel_rfl) (by kernel_rfl) rfl a55) ?_
            have m58 := q56.bq
            have k59 := q56.parts
            have m60 := X57.1
            refine Wo.pre 1 (by kernel_rfl) ?_
            refine Wo.nil ?_
            exact ih (vL l 3) (by have := vL3_len ‹vE l 3 = 0›; omega) (by omega) _ _ _ _ _ (q11.fr ((((X35.fr.trans0 X42).transL X44).transR X49).trans X57) (by have d0 := m2.1.e; have d1 := m15.1.e; have d2 := m19.e; have d3 := m25.1.e; have d4 := m1.1.e; (first | omega | (intro s hs; omega) | (dsimp only; omega) | (intro s hs; dsimp only at hs; omega) | (simp only [blk_nils, blk_sl]; omega) | (intro s hs; simp only [blk_nils, blk_sl] at hs ⊢; omega) | (simp; done)))) (by ((rcases SB.blk ‹SB _ _› with e | e <;> omega))) (((((((hF.trans X13.fr).transR X35.fr).transR X42).trans X44).transR X49).trans X57).mono (by have d0 := m2.1.e; have d1 := m25.1.e; intro s hb hs; first | omega | (dsimp only at hs ⊢; omega) | (simp only [blk_nils, blk_sl] at hs ⊢; omega))) q56 (by ((rw [List.length_append]; simp only [List.length_cons, List.length_nil]; omega))) (by kernel_rfl) (by kernel_rfl) (by kernel_rfl) (by kernel_rfl) Q (fun ts' h' lV' zs rs q1 q2 q3 q4 q5 q6 => hQ ts' h' lV' zs _ (takeF_goS hl ‹vE l 3 = 0› ‹¬ _ = (16 : Int)› ‹recOf _ = _› ‹_ = (0 : Int)› q1) q2 q3 (recs_go q4) q5 q6) (fun ts' h' q1 q2 q3 q4 => hQ' ts' h' (takeF_goN hl ‹vE l 3 = 0› ‹¬ _ = (16 : Int)› ‹recOf _ = _› ‹_ = (0 : Int)› q1) q2 q3 q4)
          · skip
            have m61 := P42.1
            have m62 := P44.1
            refine Wo.nil ?_
            refine Wp.cond true (by kernel_rfl) ?_
            refine Wp.seq ?_
            refine Wp.region ?_
            refine Wo.pre 2 (by kernel_rfl) ?_
            refine Wo.nil ?_
            refine Wp.ret ?_
            exact hQ' _ _ (by exact takeF_norec hl ‹vE l 3 = 0› (by omega) ‹recOf _ = _› ‹¬ _ = (0 : Int)›) (((((hF.trans X13.fr).transR X35.fr).transR X42).trans X44).mono (by intro s hb hs; first | omega | (dsimp only at hs ⊢; omega) | (simp only [blk_nils, blk_sl] at hs ⊢; omega))) (by kernel_rfl) (by kernel_rfl)
      · skip
        refine Wo.pre 3 (by kernel_rfl) ?_
        refine Wo.pre 1 (by kernel_rfl) ?_
        refine Wo.pre 1 (by kernel_rfl) ?_
        refine Wo.nil ?_
        refine Wp.cond true (by kernel_rfl) ?_
        refine Wp.seq ?_
        refine Wp.region ?_
        refine Wo.pre 2 (by kernel_rfl) ?_
        refine Wo.nil ?_
        refine Wp.ret ?_
        exact hQ' _ _ (by exact takeF_ve hl ‹¬ vE l 3 = 0›) ((hF.trans X13.fr).mono (by intro s hb hs; first | omega | (dsimp only at hs ⊢; omega) | (simp only [blk_nils, blk_sl] at hs ⊢; omega))) (by kernel_rfl) (by kernel_rfl)

theorem takeOf_none {l : List UInt8} (h : takeF l.length 0 l = none) : takeOf l = ([], 5) := by
  have e : takeA l = none := h
  rw [takeOf, e]
theorem takeOf_some {l : List UInt8} {zs : List Ent} {rs : List Rec} (h : takeF l.length 0 l = some rs) (hz : recsE zs = rs) (hn : zs.length ≠ 0) : takeOf l = (recsE zs, 0) := by
  have e : takeA l = some rs := h
  subst hz
  cases zs with
  | nil => simp at hn
  | cons z zs => rw [takeOf, e]; rfl
theorem takeOf_empty {l : List UInt8} {zs : List Ent} {rs : List Rec} (h : takeF l.length 0 l = some rs) (hz : recsE zs = rs) (hn : zs.length = 0) : takeOf l = ([], 5) := by
  have e : takeA l = some rs := h
  subst hz
  obtain rfl := List.length_eq_zero_iff.1 hn
  rw [takeOf, e]; rfl

attribute [local irreducible] takeOf
set_option maxHeartbeats 8000000 in
theorem take66_run {h : H} {v : AV} {l : List UInt8} (hv : Bs h v l) (hl : l.length ≤ maxRow) : ∃ r h', Runs TF 66 [v] h r h' ∧ ∃ z xs E, r = .tup [z, .int .i64 E] ∧ Ext h h' ∧ OwE h.n h' z xs ∧ takeOf l = (recsE xs, E) := by
  refine Runs.ofP f66 rfl ?_
  have hmx : 200000000000000 = maxRow := rfl
  obtain ⟨p, h2, c2, rb, u, rfl, hrb, hR2, hX2, hu, hub⟩ := new_run hv hl
  have k2 := hX2.1
  have hu2 := hR2.bs.bd
  have m1 := hv.bq
  have k2 := hv.parts
  have m3 := hR2.bq
  have m4 := hu.bq
  have k5 := hu.parts
  have m6 := hX2.1
  refine Wp.seq ?_
  refine Wp.region ?_
  refine Wo.pre 2 (by kernel_rfl) ?_
  refine Wo.nil ?_
  refine Wp.seq ?_
  refine Wp.region ?_
  refine Wo.pre 1 (by kernel_rfl) ?_
  refine Wo.call (by kernel_rfl) (by kernel_rfl) c2 ?_
  clear c2
  refine Wo.pre 1 (by kernel_rfl) ?_
  refine Wo.nil ?_
  refine Wp.seq ?_
  refine Wp.region ?_
  refine Wo.pre 3 (by kernel_rfl) ?_
  refine Wo.nil ?_
  refine Wp.seq ?_
  refine Wp.region ?_
  refine Wo.pre 1 (by kernel_rfl) ?_
  refine Wo.nil ?_
  refine Wp.seq ?_
  refine Wp.block ?_
  refine take66_loop hR2.1 l.length l (Nat.le_refl _) hl h2 u .nils [] _ hR2 hu2 ⟨Nat.le_refl _, fun _ _ _ => rfl⟩ OwE.nil0 (by simp) (by kernel_rfl) (by kernel_rfl) (by kernel_rfl) (by kernel_rfl) _ ?_ ?_
  · intro ts' h' lV zs rs q1 q2 q3 q4 t0 t6
    have hE : Ext h h' := ⟨by have := q2.1; omega, fun k hk => by rw [q2.2 k (by omega) (by omega)]; exact hX2.2 k hk⟩
    have q5 : OwE h.n h' lV zs := q3.mono (by omega)
    show Wp TF _ _ _
    rw [laid_eq t0 [(6, lV)] (by simp [t6])]
    have m1 := hv.bq
    have k2 := hv.parts
    have m3 := hR2.bq
    have m4 := hu.bq
    have k5 := hu.parts
    have m6 := q3.bq
    have k7 := q3.parts
    have m8 := q5.bq
    have k9 := q5.parts
    have m10 := hX2.1
    have m11 := q2.1
    have m12 := hE.1
    refine Wp.seq ?_
    refine Wp.seq ?_
    refine Wp.region ?_
    refine Wo.pre 1 (by kernel_rfl) ?_
    refine Wo.val (.int .i64 (List.length (zs) : Nat)) h' (by kernel_rfl) (iop_lenS (v := lV) (by kernel_rfl) q5.es.lenS) ?_
    refine Wo.cmp (op := .eql) (x := IX.t 41) (y := IX.c (AV.int IntKind.i64 0)) (k := IntKind.i64) (a := ↑zs.length) (b := 0) ((↑zs.length : Int) = (0 : Int)) (by kernel_rfl) (by kernel_rfl) (by kernel_rfl) (by kernel_rfl) (by simp) (by kernel_rfl) (fun q13 => ?_) (fun q13 => ?_)
    · skip
      refine Wo.nil ?_
      refine Wp.cond true (by kernel_rfl) ?_
      refine Wp.seq ?_
      refine Wp.region ?_
      refine Wo.pre 2 (by kernel_rfl) ?_
      refine Wo.nil ?_
      refine Wp.ret ?_
      refine ⟨.inr rfl, (.tup [AV.nils, AV.int IntKind.i64 5]), (ret_many (res_tmp (by kernel_rfl) (res_tmp (by kernel_rfl) res_nil)) rfl), ?_⟩
      dsimp only
      exact ⟨.nils, [], 5, rfl, hE, OwE.nil0, (by (exact takeOf_empty q1 (by rw [q4]; rfl) (by omega)))⟩
    · skip
      refine Wo.nil ?_
      refine Wp.cond false (by kernel_rfl) ?_
      refine Wp.skip ?_
      refine Wp.seq ?_
      refine Wp.region ?_
      refine Wo.pre 3 (by kernel_rfl) ?_
      refine Wo.nil ?_
      refine Wp.ret ?_
      refine ⟨.inr rfl, (.tup [lV, AV.int IntKind.i64 0]), (ret_many (res_tmp (by kernel_rfl) (res_tmp (by kernel_rfl) res_nil)) rfl), ?_⟩
      dsimp only
      exact ⟨lV, zs, 0, rfl, hE, q5, (by (exact takeOf_some q1 (by rw [q4]; rfl) (by omega)))⟩
  · intro ts' h' q1 q2 t2 t3
    have hE : Ext h h' := ⟨by have := q2.1; omega, fun k hk => by rw [q2.2 k (by omega) (by omega)]; exact hX2.2 k hk⟩
    exact ⟨.inr rfl, .tup [.nils, .int .i64 5], ret_many (res_tmp (by rw [t2]; rfl) (res_tmp (by rw [t3]; rfl) res_nil)) rfl, .nils, [], 5, rfl, hE, OwE.nil0, takeOf_none q1⟩

end Go.Det

/- Entries' rows are spoiled: the walk. -/
set_option linter.unusedVariables false
set_option linter.unusedSimpArgs false
set_option linter.unusedSectionVars false
namespace Go.Det
open Go.Proofs
attribute [local irreducible] Wp Wo Wd iop ev slots quiets wanted put

end Go.Det

/- Functions of the program in the form that the deterministic machine runs. -/
set_option maxRecDepth 100000
namespace Go.Det
open Go.Proofs
end Go.Det

/- Names of bundles: the loops. -/
set_option linter.unusedVariables false
set_option linter.unusedSimpArgs false
set_option linter.unusedSectionVars false
namespace Go.Det
open Go.Proofs
attribute [local irreducible] Wp Wo Wd iop ev slots quiets wanted put

/-- The last digits of a number. -/
def digs (n : Nat) : Nat → List UInt8
  | 0 => []
  | i + 1 => UInt8.ofNat (48 + n / 10 ^ i % 10) :: digs n i
/-- A bundle's name while its number is laid down. -/
def arr (n j : Nat) : List UInt8 := [98, 45] ++ (List.replicate (6 - j) 48 ++ (digs n j ++ [45, 48, 48]))
end Go.Det

/- Names of bundles, laid down. -/
set_option linter.unusedVariables false
set_option linter.unusedSimpArgs false
set_option linter.unusedSectionVars false
namespace Go.Det
open Go.Proofs
attribute [local irreducible] Wp Wo Wd iop ev slots quiets wanted put

end Go.Det

/- Names of bundles, read. -/
set_option linter.unusedVariables false
set_option linter.unusedSimpArgs false
set_option linter.unusedSectionVars false
namespace Go.Det
open Go.Proofs
attribute [local irreducible] Wp Wo Wd iop ev slots quiets wanted put

def val (l : List UInt8) : Nat := l.foldl (fun a c => 10 * a + (c.toNat - 48)) 0
end Go.Det

/- Names of bundles, read: both ways. The law BundleNames. -/
set_option linter.unusedVariables false
set_option linter.unusedSimpArgs false
set_option linter.unusedSectionVars false
namespace Go.Det
open Go.Proofs
attribute [local irreducible] Wp Wo Wd iop ev slots quiets wanted put

end Go.Det

/- Names of bundles, read by the reference; the law BundleNames. -/
set_option linter.unusedVariables false
set_option linter.unusedSimpArgs false
set_option linter.unusedSectionVars false
namespace Go.Det
open Go.Proofs
attribute [local irreducible] Wp Wo Wd iop ev slots quiets wanted put

theorem wakes_run (h : H) : Runs TF 62 [] h (.bool true) h := Runs.known (by kernel_rfl) h

end Go.Det

/- Names of bundles, both ways: the plain law. -/
set_option linter.unusedVariables false
set_option linter.unusedSimpArgs false
set_option linter.unusedSectionVars false
namespace Go.Det
open Go.Proofs

end Go.Det

/- Bundles joined and cut off: the plain law. -/
set_option linter.unusedVariables false
set_option linter.unusedSimpArgs false
set_option linter.unusedSectionVars false
namespace Go.Det
open Go.Proofs

theorem bytesR_cons (r : Rec) (rs : List Rec) : bytesR (r :: rs) = certB (recS r.1 r.2) ++ bytesR rs := by simp [bytesR]
theorem bytesR_app (rs1 rs2 : List Rec) : bytesR (rs1 ++ rs2) = bytesR rs1 ++ bytesR rs2 := by simp [bytesR]
theorem certB_len (l : List UInt8) : (certB l).length = 3 + l.length := by simp [certB, digits_len]

theorem takeF_over : ∀ (rs : List Rec) (k n : Nat), n ≤ 16 → 16 < n + rs.length → (∀ r ∈ rs, okR r) → takeF k n (bytesR rs) = none
  | [], k, n, h1, h2, _ => by simp at h2; omega
  | (t, cs) :: rs, k, n, h1, h2, hr => by
    have h0 := hr (t, cs) (by simp)
    have hlen : (recS t cs).length ≤ 2500 ∧ 8 ≤ (recS t cs).length := recS_len h0.2
    have hd := dec3 (c := recS t cs) (by omega) (bytesR rs)
    have e : bytesR ((t, cs) :: rs) = certB (recS t cs) ++ bytesR rs := bytesR_cons _ _
    have hne : certB (recS t cs) ++ bytesR rs ≠ [] := by
      intro h
      have := congrArg List.length h
      simp [certB_len] at this
    rw [e]
    cases k with
    | zero => simp only [takeF]; rw [if_neg hne]
    | succ k =>
      by_cases hn : n = 16
      · exact takeF_bad hne (fun q => q.2 hn)
      · have hrec : recOf (vX (certB (recS t cs) ++ bytesR rs) 3) = (t, cs, 0) := by rw [hd.2.1]; exact rec_enc h0.1 h0.2
        simp only [List.length_cons] at h2
        rw [takeF_rec hne hd.1 hn hrec, if_pos rfl, hd.2.2, takeF_over rs k (n + 1) (by omega) (by omega) (fun r hr' => hr r (by simp [hr']))]
        rfl
theorem take_over {rs : List Rec} (hn : 16 < rs.length) (hr : ∀ r ∈ rs, okR r) : takeOf (bytesR rs) = ([], 5) := by
  have e : takeA (bytesR rs) = none := takeF_over rs _ 0 (by omega) (by omega) hr
  rw [takeOf, e]

theorem bytes_pre : ∀ (ys rs : List Rec) (z : List UInt8), (∀ r ∈ ys, okR r) → (∀ r ∈ rs, okR r) → bytesR ys ++ z = bytesR rs → ys = rs.take ys.length ∧ ys.length ≤ rs.length
  | [], rs, z, _, _, _ => by simp
  | (t, cs) :: ys, [], z, _, _, h => by
    have := congrArg List.length h
    rw [bytesR_cons] at this
    simp [certB_len, bytesR] at this
  | (t, cs) :: ys, (u, ds) :: rs, z, h1, h2, h => by
    have g1 := h1 (t, cs) (by simp)
    have g2 := h2 (u, ds) (by simp)
    have l1 : (recS t cs).length ≤ 2500 ∧ 8 ≤ (recS t cs).length := recS_len g1.2
    have l2 : (recS u ds).length ≤ 2500 ∧ 8 ≤ (recS u ds).length := recS_len g2.2
    rw [bytesR_cons, bytesR_cons, List.append_assoc] at h
    have d1 := dec3 (c := recS t cs) (by omega) (bytesR ys ++ z)
    have d2 := dec3 (c := recS u ds) (by omega) (bytesR rs)
    dsimp only at h
    rw [h] at d1
    have e1 : recS u ds = recS t cs := by rw [← d1.2.1, d2.2.1]
    have e2 : bytesR rs = bytesR ys ++ z := by rw [← d1.2.2, d2.2.2]
    have r1 := rec_enc g1.1 g1.2
    have r2 := rec_enc g2.1 g2.2
    rw [e1, r1] at r2
    simp only [Prod.mk.injEq, and_true] at r2
    obtain ⟨i1, i2⟩ := bytes_pre ys rs z (fun r hr => h1 r (by simp [hr])) (fun r hr => h2 r (by simp [hr])) e2.symm
    refine ⟨?_, by simp only [List.length_cons]; omega⟩
    rw [List.length_cons, List.take_succ_cons, ← i1, r2.1, r2.2]

theorem okR_all {rs : List Rec} (hm : mayR rs = true) (ht : ∀ r ∈ rs, r.1 < 2 ^ 64) : ∀ r ∈ rs, okR r := fun r hr => ⟨ht r hr, (mayR_iff.1 hm).2.2 r hr⟩
/-- What is read of both. -/
theorem join_take {rs1 rs2 cs : List Rec} {E : Int} (ha : mayR rs1 = true) (hb : mayR rs2 = true) (ta : ∀ r ∈ rs1, r.1 < 2 ^ 64) (tb : ∀ r ∈ rs2, r.1 < 2 ^ 64) (h : takeOf (bytesR rs1 ++ bytesR rs2) = (cs, E)) :
    (rs1.length + rs2.length ≤ 16 ∧ E = 0 ∧ cs = rs1 ++ rs2) ∨ (¬ rs1.length + rs2.length ≤ 16 ∧ E = 5 ∧ cs = []) := by
  rw [← bytesR_app] at h
  have ht : ∀ r ∈ rs1 ++ rs2, r.1 < 2 ^ 64 := fun r hr => (List.mem_append.1 hr).elim (ta r) (tb r)
  have hok : ∀ r ∈ rs1 ++ rs2, okR r := fun r hr => (List.mem_append.1 hr).elim (okR_all ha ta r) (okR_all hb tb r)
  by_cases hn : rs1.length + rs2.length ≤ 16
  · have hm : mayR (rs1 ++ rs2) = true := mayR_iff.2 ⟨by have := (mayR_iff.1 ha).1; rw [List.length_append]; omega, by rw [List.length_append]; exact hn, fun r hr => (hok r hr).2⟩
    rw [take_enc hm ht] at h
    simp only [Prod.mk.injEq] at h
    exact .inl ⟨hn, h.2.symm, h.1.symm⟩
  · rw [take_over (by rw [List.length_append]; omega) hok] at h
    simp only [Prod.mk.injEq] at h
    exact .inr ⟨hn, h.2.symm, h.1.symm⟩
/-- What is read of a beginning. -/
theorem cut_take {rs1 cs : List Rec} {E : Int} {k : Nat} (ha : mayR rs1 = true) (ta : ∀ r ∈ rs1, r.1 < 2 ^ 64) (h : takeOf ((bytesR rs1).take k) = (cs, E)) :
    (E = 0 ∧ cs = rs1.take cs.length ∧ cs.length ≤ rs1.length ∧ mayR cs = true ∧ bytesR cs = (bytesR rs1).take k) ∨ (E = 5 ∧ cs = []) := by
  rcases take_dec h with ⟨e, hm, hb, ht⟩ | h1
  · have := bytes_pre cs rs1 ((bytesR rs1).drop k) (okR_all hm ht) (okR_all ha ta) (by rw [hb, List.take_append_drop])
    exact .inl ⟨e, this.1, this.2, hm, hb⟩
  · exact .inr h1
end Go.Det

/- The laws of bundles, walked. -/
set_option linter.unusedVariables false
set_option linter.unusedSimpArgs false
set_option linter.unusedSectionVars false
namespace Go.Det
open Go.Proofs
attribute [local irreducible] Wp Wo Wd iop ev slots quiets wanted put

def FewR (rs : List Rec) : Prop := (rs.length + 1) * 32 ≤ 200000000000000 ∧ ∀ r ∈ rs, r.2.length * 24 ≤ 140737488355328 ∧ ∀ l ∈ r.2, l.length ≤ maxRow
theorem few_iff {xs : List Ent} : FewE xs ↔ FewR (recsE xs) := by
  unfold FewE FewR
  rw [recs_len]
  refine and_congr Iff.rfl ⟨fun h r hr => ?_, fun h e he => ?_⟩
  · obtain ⟨e, he, rfl⟩ := List.mem_map.1 hr
    refine ⟨?_, fun l hl => ?_⟩
    · have := (h e he).1
      show (says e.ps).length * 24 ≤ _
      rw [says_len]; exact this
    · obtain ⟨p, hp, rfl⟩ := List.mem_map.1 (show l ∈ says e.ps from hl)
      exact (h e he).2 p hp
  · have := h e.tell (List.mem_map_of_mem he)
    refine ⟨?_, fun p hp => this.2 p.2 (List.mem_map_of_mem hp)⟩
    have h1 : (says e.ps).length * 24 ≤ 140737488355328 := this.1
    rw [says_len] at h1; exact h1
theorem few_of {xs ys : List Ent} (e : recsE ys = recsE xs) (hf : FewE xs) : FewE ys := by rw [few_iff, e, ← few_iff]; exact hf
theorem few_may {rs : List Rec} (hm : mayR rs = true) : FewR rs := by
  have hmx : 200000000000000 = maxRow := rfl
  obtain ⟨h1, h2, h3⟩ := mayR_iff.1 hm
  refine ⟨by omega, fun r hr => ?_⟩
  obtain ⟨g1, g2, g3⟩ := mayS_small (h3 r hr)
  exact ⟨by omega, fun l hl => by have := (g3 l hl).2; omega⟩
theorem few_take {l : List UInt8} {xs : List Ent} {E : Int} (h : takeOf l = (recsE xs, E)) : FewE xs := by
  rw [few_iff]
  rcases take_dec h with ⟨_, hm, _⟩ | ⟨_, e⟩
  · exact few_may hm
  · rw [e]; exact ⟨by simp, fun r hr => by simp at hr⟩
theorem few_first {xs : List Ent} (hf : FewE xs) (n : Nat) : FewE (xs.take n) := ⟨by have := hf.1; rw [List.length_take]; omega, fun e he => hf.2 e (List.mem_of_mem_take he)⟩
theorem Es.times {h : H} {v : AV} {xs : List Ent} (c : Es h v xs) : ∀ r ∈ recsE xs, r.1 < 2 ^ 64 := fun r hr => by
  obtain ⟨e, he, rfl⟩ := List.mem_map.1 hr
  exact (c.el e he).2
theorem putE_zero {rs : List Rec} : putE rs = 0 ↔ mayR rs = true := by
  unfold putE; split <;> simp_all
theorem putX_len (rs : List Rec) : (putX rs).length ≤ 50000 := by
  unfold putX
  split
  · rename_i hm
    obtain ⟨h1, h2, h3⟩ := mayR_iff.1 hm
    have := bytesR_len rs h3
    omega
  · simp
theorem putX_pos {rs : List Rec} (h : putE rs = 0) : 1 ≤ (putX rs).length := by
  have hm := putE_zero.1 h
  rw [putX, if_pos hm]
  have := (mayR_iff.1 hm).1
  cases rs with
  | nil => simp at this
  | cons r rs => rw [bytesR_cons, List.length_append, certB_len]; omega

/-- A range of entries' rows whose bytes may be spoiled. -/
structure OwEI (lo hi : Nat) (h : H) (v : AV) (xs : List Ent) : Prop where
  k : OwE lo h v xs
  hi : Go.Det.blk v ≤ hi ∧ ∀ e ∈ xs, Go.Det.blk e.z ≤ hi ∧ ∀ p ∈ e.ps, Go.Det.blk p.1 ≤ hi
theorem OwE.rng {lo : Nat} {h : H} {v : AV} {xs : List Ent} (o : OwE lo h v xs) : Go.Det.blk v ≤ h.n ∧ ∀ e ∈ xs, Go.Det.blk e.z ≤ h.n ∧ ∀ p ∈ e.ps, Go.Det.blk p.1 ≤ h.n :=
  ⟨o.row.bd.2, fun e he => ⟨(o.el e he).1.bd.2, fun p hp => ((o.el e he).1.el p hp).bd.2⟩⟩

theorem same68_run {h : H} {v w : AV} {xs ys : List Ent} (hc : Es h v xs) (hd : Es h w ys) (hf : FewE xs) : ∃ r h', Runs TF 68 [v, w] h r h' ∧ r = .bool (decide (recsE xs = recsE ys)) ∧ Ext h h' := by
  refine Runs.ofP f68 rfl ?_
  have hmx : 200000000000000 = maxRow := rfl
  by_cases hl : xs.length = ys.length
  · have m1 := hc.bq
    have k2 := hc.parts
    have m3 := hd.bq
    have k4 := hd.parts
    refine Wp.seq ?_
    refine Wp.region ?_
    refine Wo.pre 1 (by kernel_rfl) ?_
    refine Wo.nil ?_
    refine Wp.seq ?_
    refine Wp.seq ?_
    refine Wp.region ?_
    refine Wo.pre 1 (by kernel_rfl) ?_
    refine Wo.val (.int .i64 (List.length (xs) : Nat)) h (by kernel_rfl) (iop_lenS (v := v) (by kernel_rfl) hc.lenS) ?_
    refine Wo.pre 1 (by kernel_rfl) ?_
    refine Wo.val (.int .i64 (List.length (ys) : Nat)) h (by kernel_rfl) (iop_lenS (v := w) (by kernel_rfl) hd.lenS) ?_
    refine Wo.cmpN (op := .neq) (x := IX.t 7) (y := IX.t 9) (k := IntKind.i64) (a := ↑xs.length) (b := ↑ys.length) ((↑xs.length : Int) = (↑ys.length : Int)) (by kernel_rfl) (by kernel_rfl) (by kernel_rfl) (by kernel_rfl) (by simp) (by kernel_rfl) (fun q5 => ?_) (fun q5 => ?_)
    rotate_left
    · (exfalso; omega)
    refine Wo.nil ?_
    refine Wp.cond false (by kernel_rfl) ?_
    refine Wp.skip ?_
    refine Wp.seq ?_
    refine Wp.seq ?_
    refine Wp.region ?_
    refine Wo.pre 1 (by kernel_rfl) ?_
    refine Wo.nil ?_
    refine Wp.block ?_
    refine same68_loop hc hd hl hf xs.length 0 (by omega) h _ (Ext.refl _) (by simp [recsE]) (by kernel_rfl) (by kernel_rfl) (by kernel_rfl) (by kernel_rfl) _ ?_ ?_
    · intro ts' h' hE hm t0
      rw [hm]
      show Wp TF _ _ _
      rw [laid_eq t0 [] (by simp)]
      have m1 := hc.bq
      have k2 := hc.parts
      have m3 := hd.bq
      have k4 := hd.parts
      have m5 := hE.1
      refine Wp.seq ?_
      refine Wp.region ?_
      refine Wo.pre 1 (by kernel_rfl) ?_
      refine Wo.nil ?_
      refine Wp.ret ?_
      refine ⟨.inr rfl, (AV.bool true), (ret_one (res_tmp (by kernel_rfl) res_nil)), ?_⟩
      dsimp only
      exact ⟨rfl, hE⟩
    · intro ts' h' hm hE t4
      rw [hm]
      exact ⟨.inr rfl, .bool false, ret_one (res_tmp (by rw [t4]; rfl) res_nil), rfl, hE⟩
  · have e : decide (recsE xs = recsE ys) = false := by
      simp only [decide_eq_false_iff_not]
      intro e
      have := congrArg List.length e
      rw [recs_len, recs_len] at this
      exact hl this
    rw [e]
    have m1 := hc.bq
    have k2 := hc.parts
    have m3 := hd.bq
    have k4 := hd.parts
    refine Wp.seq ?_
    refine Wp.region ?_
    refine Wo.pre 1 (by kernel_rfl) ?_
    refine Wo.nil ?_
    refine Wp.seq ?_
    refine Wp.seq ?_
    refine Wp.region ?_
    refine Wo.pre 1 (by kernel_rfl) ?_
    refine Wo.val (.int .i64 (List.length (xs) : Nat)) h (by kernel_rfl) (iop_lenS (v := v) (by kernel_rfl) hc.lenS) ?_
    refine Wo.pre 1 (by kernel_rfl) ?_
    refine Wo.val (.int .i64 (List.length (ys) : Nat)) h (by kernel_rfl) (iop_lenS (v := w) (by kernel_rfl) hd.lenS) ?_
    refine Wo.cmpN (op := .neq) (x := IX.t 7) (y := IX.t 9) (k := IntKind.i64) (a := ↑xs.length) (b := ↑ys.length) ((↑xs.length : Int) = (↑ys.length : Int)) (by kernel_rfl) (by kernel_rfl) (by kernel_rfl) (by kernel_rfl) (by simp) (by kernel_rfl) (fun q5 => ?_) (fun q5 => ?_)
    · (exfalso; omega)
    refine Wo.nil ?_
    refine Wp.cond true (by kernel_rfl) ?_
    refine Wp.seq ?_
    refine Wp.region ?_
    refine Wo.pre 1 (by kernel_rfl) ?_
    refine Wo.nil ?_
    refine Wp.ret ?_
    refine ⟨.inr rfl, (AV.bool false), (ret_one (res_tmp (by kernel_rfl) res_nil)), ?_⟩
    dsimp only
    exact ⟨rfl, (Ext.refl _)⟩

attribute [local irreducible] takeOf putX putE mayR recsE
end Go.Det

/- The law BundleJoins, walked. -/
set_option linter.unusedVariables false
set_option linter.unusedSimpArgs false
set_option linter.unusedSectionVars false
namespace Go.Det
open Go.Proofs
attribute [local irreducible] Wp Wo Wd iop ev slots quiets wanted put

/-- What stands behind in the heap's list of entries, one list behind the other. -/
theorem app70_more {lo lo2 : Nat} {h : H} {v w : AV} {xs ys : List Ent} (o : OwE lo h v xs) (hw : OwE lo2 h w ys) (hlo : lo ≤ h.n) (hl2 : lo ≤ lo2) (hn : (xs.length + ys.length) * 32 ≤ 200000000000000) :
    ∃ v' h', append h 70 2 32 v w = some (.val v' h') ∧ OwE lo h' v' (xs ++ ys) ∧ Fr (fun s => s = Go.Det.blk v) h h' := by
  have hmx : 200000000000000 = maxRow := rfl
  have fit : fits (xs.length + ys.length) 32 = true := by simp only [fits, Bool.and_eq_true, decide_eq_true_eq]; omega
  have hone : (rowE ys).all AV.one = true := by
    simp only [rowE, List.all_eq_true, List.mem_flatten, List.mem_map]
    rintro c ⟨_, ⟨e, he, rfl⟩, hc⟩
    simp only [Ent.cells, List.mem_cons, List.not_mem_nil, or_false] at hc
    rcases hc with rfl | rfl
    · rfl
    · exact (hw.el e he).1.ch.parts.2.1
  obtain ⟨v', h', e, r, x⟩ := o.row.app (bytes := 32) (w := w) (m := ys.length) (new := rowE ys) hlo hw.row.src (rowE_len ys) (by omega) hone fit (by omega)
  have hall : ∀ {q : AV} {qs : List (AV × List UInt8)} {lo' : Nat}, OwnK lo' h q qs → OwnK lo' h' q qs := by
    intro q qs lo' oq
    rcases o.row with ⟨e1, _⟩ | ⟨b', g, c, h1, h2, h3, e1, _⟩
    · subst e1
      exact oq.fr x (fun s hs => .inl (by rw [hs]; exact Nat.zero_le _))
    · subst e1
      exact oq.keepT (b := b') x h3
  refine ⟨v', h', e, ⟨by rw [rowE_app, List.length_append]; exact r, fun q hq => ?_⟩, x⟩
  rcases List.mem_append.1 hq with hq | hq
  · exact ⟨hall (o.el q hq).1, (o.el q hq).2⟩
  · exact ⟨(hall (hw.el q hq).1).mono hl2, (hw.el q hq).2⟩

/-- The first entries of a row. -/
theorem Es.up {h : H} {v : AV} {xs : List Ent} (c : Es h v xs) {n : Nat} (hn : n ≤ xs.length) : ∃ z, (∀ {x y : IX} {ρ : IX → AV} {h2 : H}, ρ x = v → ρ y = .int .i64 n → iop (.slL 2 x none (some y) none) ρ h2 = some (.val z h2)) ∧ Es h z (xs.take n) := by
  rcases c.row with ⟨rfl, rfl⟩ | ⟨a, q, rfl, ha, hld⟩
  · have : n = 0 := by simpa using hn
    subst this
    refine ⟨.nils, ?_, Es.nil0⟩
    intro x y ρ h2 hx hy
    simp [iop, hx, hy, bounds, asI]
  · have hd := ldn_take hld (n := n * 2) (by omega)
    have hr : (rowE xs).take (n * 2) = rowE (xs.take n) := by
      have e := rowE_app (xs.take n) (xs.drop n)
      rw [List.take_append_drop] at e
      rw [e, List.take_left' (by rw [rowE_len, List.length_take]; omega)]
    rw [hr] at hd
    have hln : (xs.take n).length = n := by rw [List.length_take]; omega
    have hel : ∀ e ∈ xs.take n, Ch h e.z e.ps ∧ e.t < 2 ^ 64 := fun e he => c.el e (List.mem_of_mem_take he)
    rcases c.cap a _ q rfl with ⟨k, rfl, hk⟩ | rfl
    · have h1 : (n : Int) ≤ (k : Int) := by omega
      by_cases hk0 : k = 0
      · have hn0 : n = 0 := by omega
        subst hn0
        refine ⟨.sl a 0 (.ex 0), ?_, ⟨.inr ⟨a, .ex 0, rfl, ha, by simpa using hd⟩, hel, ?_⟩⟩
        · intro x y ρ h2 hx hy
          simp [iop, hx, hy, bounds, asI, hk0]
        · rintro a' m c' e
          simp only [AV.sl.injEq] at e
          obtain ⟨_, rfl, rfl⟩ := e
          exact .inl ⟨0, rfl, Nat.le_refl _⟩
      · refine ⟨.sl a n (.ex k), ?_, ⟨.inr ⟨a, .ex k, by rw [hln], ha, by rw [hln]; exact hd⟩, hel, ?_⟩⟩
        · intro x y ρ h2 hx hy
          simp [iop, hx, hy, bounds, asI, h1, hk0]
        · rintro a' m c' e
          simp only [AV.sl.injEq] at e
          obtain ⟨_, rfl, rfl⟩ := e
          exact .inl ⟨k, rfl, by omega⟩
    · refine ⟨.sl a n (.op 2), ?_, ⟨.inr ⟨a, .op 2, by rw [hln], ha, by rw [hln]; exact hd⟩, hel, ?_⟩⟩
      · intro x y ρ h2 hx hy
        have h1 : (n : Int) ≤ (xs.length : Int) := by omega
        simp [iop, hx, hy, bounds, asI, h1]
      · rintro a' m c' e
        simp only [AV.sl.injEq] at e
        obtain ⟨_, rfl, rfl⟩ := e
        exact .inr rfl

theorem iop_remN {k : IntKind} {x y : IX} {ρ : IX → AV} {h : H} {a b : Nat} (hx : ρ x = .int k a) (hy : ρ y = .int k b) (hb : 1 ≤ b) : iop (.bin .rem x y) ρ h = some (.val (.int k ((a % b : Nat) : Int)) h) := by
  have h1 : ((b : Int) == 0) = false := by simp; omega
  have h2 : ((a : Int)).tmod b = ((a % b : Nat) : Int) := by rw [Int.natCast_emod]; exact Int.tmod_eq_emod_of_nonneg (by omega)
  simp [iop, binop, binInt, hx, hy, h1, h2]

theorem join_ent {h h2 : H} {v w : AV} {xs ys zs : List Ent} {E : Int} (hc : Es h v xs) (hd : Es h2 w ys) (e1 : putE (recsE xs) = 0) (e2 : putE (recsE ys) = 0) (h : takeOf ([] ++ putX (recsE xs) ++ putX (recsE ys)) = (recsE zs, E)) :
    (E = 0 ↔ xs.length + ys.length ≤ 16) ∧ (E = 0 → recsE zs = recsE xs ++ recsE ys) := by
  have m1 := putE_zero.1 e1
  have m2 := putE_zero.1 e2
  rw [List.nil_append, putX, putX, if_pos m1, if_pos m2] at h
  have := join_take m1 m2 hc.times hd.times h
  rw [recs_len, recs_len] at this
  rcases this with ⟨g1, g2, g3⟩ | ⟨g1, g2, g3⟩
  · exact ⟨⟨fun _ => g1, fun _ => g2⟩, fun _ => g3⟩
  · exact ⟨⟨fun e => by omega, fun e => absurd e g1⟩, fun e => by omega⟩
theorem cut_ent {h : H} {v : AV} {xs zs : List Ent} {E : Int} {k : Nat} (hc : Es h v xs) (e1 : putE (recsE xs) = 0) (h : takeOf (List.take k (putX (recsE xs))) = (recsE zs, E)) :
    (E = 0 → zs.length ≤ xs.length ∧ putE (recsE (xs.take zs.length)) = 0 ∧ putX (recsE (xs.take zs.length)) = List.take k (putX (recsE xs))) ∧ (E ≠ 0 → E = 5) := by
  have m1 := putE_zero.1 e1
  have hx : putX (recsE xs) = bytesR (recsE xs) := by rw [putX, if_pos m1]
  rw [hx] at h ⊢
  have ht : ∀ n, recsE (xs.take n) = (recsE xs).take n := fun n => by simp [recsE]
  rcases cut_take m1 hc.times h with ⟨g1, g2, g3, g4, g5⟩ | ⟨g1, g2⟩
  · rw [recs_len] at g2 g3
    rw [recs_len] at g3
    refine ⟨fun _ => ⟨g3, ?_, ?_⟩, fun e => absurd g1 e⟩
    · rw [ht, ← g2]; exact putE_zero.2 g4
    · rw [ht, ← g2, putX, if_pos g4]; exact g5
  · exact ⟨fun e => by omega, fun _ => g1⟩
theorem app_len {xs ys zs ws : List Ent} (h1 : recsE zs = recsE xs) (h2 : recsE ws = recsE ys) (e1 : putE (recsE xs) = 0) (e2 : putE (recsE ys) = 0) : (zs.length + ws.length) * 32 ≤ 200000000000000 := by
  have m1 := (mayR_iff.1 (putE_zero.1 e1)).2.1
  have m2 := (mayR_iff.1 (putE_zero.1 e2)).2.1
  rw [← h1, recs_len] at m1
  rw [← h2, recs_len] at m2
  omega
theorem recs_app (xs ys : List Ent) : recsE (xs ++ ys) = recsE xs ++ recsE ys := by simp [recsE]
theorem join_same {h h2 : H} {v w : AV} {xs ys zs xs' ys' : List Ent} {E : Int} (hc : Es h v xs) (hd : Es h2 w ys) (e1 : putE (recsE xs) = 0) (e2 : putE (recsE ys) = 0) (h : takeOf ([] ++ putX (recsE xs) ++ putX (recsE ys)) = (recsE zs, E)) (hE : E = 0) (h1 : recsE xs' = recsE xs) (h2 : recsE ys' = recsE ys) : decide (recsE zs = recsE (xs' ++ ys')) = true := by
  rw [(join_ent hc hd e1 e2 h).2 hE, recs_app, h1, h2]
  simp

attribute [local irreducible] takeOf putX putE mayR recsE
set_option maxHeartbeats 16000000 in
theorem joins17_run {h : H} {v w : AV} {xs ys : List Ent} {at0 : Nat} (hc : Es h v xs) (hd : Es h w ys) (hf : FewE xs) (hg : FewE ys) (hat : at0 < 65536) : ∃ r h', Runs TF 17 [v, w, .int .u16 at0] h r h' ∧ r = .bool true := by
  refine Runs.ofP f17 rfl ?_
  have hmx : 200000000000000 = maxRow := rfl
  have l1 := putX_len (recsE xs)
  have l2 := putX_len (recsE ys)
  have f1 := hf.1
  have f2 := hg.1
  have l3 : ∀ k, (List.take k (putX (recsE xs))).length ≤ 50000 := fun k => by rw [List.length_take]; omega
  have l4 : ([] ++ putX (recsE xs) ++ putX (recsE ys)).length ≤ 100000 := by simp only [List.nil_append, List.length_append]; omega
  have m1 := hc.bq
  have k2 := hc.parts
  have m3 := hd.bq
  have k4 := hd.parts
  refine Wp.seq ?_
  refine Wp.region ?_
  refine Wo.pre 1 (by kernel_rfl) ?_
  refine Wo.nil ?_
  refine Wp.seq ?_
  refine Wp.region ?_
  refine Wo.pre 1 (by kernel_rfl) ?_
  obtain ⟨r5, H6, c7, z8, rfl, X10, q11⟩ := put64_run hc hf
  have m12 := X10.1
  have m13 := q11.bq
  have k14 := q11.parts
  refine Wo.call (by kernel_rfl) (by kernel_rfl) c7 ?_
  clear c7
  refine Wo.pre 5 (by kernel_rfl) ?_
  refine Wo.nil ?_
  refine Wp.seq ?_
  refine Wp.region ?_
  refine Wo.pre 1 (by kernel_rfl) ?_
  have F15 := (hd.fr X10.fr (fun _ e => e.elim))
  obtain ⟨r16, H17, c18, z19, rfl, X21, q22⟩ := put64_run F15 hg
  have m23 := X21.1
  have m24 := q22.bq
  have k25 := q22.parts
  refine Wo.call (by kernel_rfl) (by kernel_rfl) c18 ?_
  clear c18
  refine Wo.pre 5 (by kernel_rfl) ?_
  refine Wo.nil ?_
  refine Wp.seq ?_
  refine Wp.seq ?_
  refine Wp.region ?_
  refine Wo.pre 1 (by kernel_rfl) ?_
  refine Wo.cmpN (op := .neq) (x := IX.t 29) (y := IX.c (AV.int IntKind.i64 0)) (k := IntKind.i64) (a := putE (recsE xs)) (b := 0) ((putE (recsE xs) : Int) = (0 : Int)) (by kernel_rfl) (by kernel_rfl) (by kernel_rfl) (by kernel_rfl) (by simp) (by kernel_rfl) (fun q26 => ?_) (fun q26 => ?_)
  · skip
    have m27 := F15.bq
    have k28 := F15.parts
    refine Wo.pre 2 (by kernel_rfl) ?_
    refine Wo.cmpN (op := .neq) (x := IX.t 32) (y := IX.c (AV.int IntKind.i64 0)) (k := IntKind.i64) (a := putE (recsE ys)) (b := 0) ((putE (recsE ys) : Int) = (0 : Int)) (by kernel_rfl) (by kernel_rfl) (by kernel_rfl) (by kernel_rfl) (by simp) (by kernel_rfl) (fun q29 => ?_) (fun q29 => ?_)
    · skip
      refine Wo.pre 1 (by kernel_rfl) ?_
      refine Wo.nil ?_
      refine Wp.cond false (by kernel_rfl) ?_
      refine Wp.skip ?_
      refine Wp.seq ?_
      refine Wp.region ?_
      refine Wo.pre 1 (by kernel_rfl) ?_
      have F30 := (q11.fr X21.fr (.inr id))
      obtain ⟨v31, H32, a33, q34, X35, q36⟩ := Ow.appF (Ow.nil0 (lo := H17.n)) F30.bs (by first | omega | (simp; omega) | (simp; done) | assumption | (exact app_len (xs := xs) (ys := ys) (by with_reducible assumption) (by with_reducible assumption) ‹putE (recsE xs) = 0› ‹putE (recsE ys) = 0›) | (exact few_of (by with_reducible assumption) hf) | (exact few_of (by with_reducible assumption) hg) | (exact few_take (by with_reducible assumption)) | (exact few_first hf _) | (exact Nat.le_trans (l3 _) (by decide)) | (exact Nat.le_trans l4 (by decide))) (by first | omega | (simp; omega) | (simp; done) | assumption | (exact app_len (xs := xs) (ys := ys) (by with_reducible assumption) (by with_reducible assumption) ‹putE (recsE xs) = 0› ‹putE (recsE ys) = 0›) | (exact few_of (by with_reducible assumption) hf) | (exact few_of (by with_reducible assumption) hg) | (exact few_take (by with_reducible assumption)) | (exact few_first hf _) | (exact Nat.le_trans (l3 _) (by decide)) | (exact Nat.le_trans l4 (by decide)))
      refine Wo.val _ _ (by kernel_rfl) (iop_appG (v := AV.nils) (w := z8) (by kernel_rfl) (by kernel_rfl) k14.2.2 a33) ?_
      have m37 := q34.bq
      have k38 := q34.parts
      have m39 := X35.1
      refine Wo.pre 1 (by kernel_rfl) ?_
      have F40 := (q22.fr X35 (by have d0 := m24.1.e; (first | omega | (intro s hs; omega) | (dsimp only; omega) | (intro s hs; dsimp only at hs; omega) | (simp only [blk_nils, blk_sl]; omega) | (intro s hs; simp only [blk_nils, blk_sl] at hs ⊢; omega) | (simp; done))))
      obtain ⟨v41, H42, a43, q44, X45, q46⟩ := Ow.appF (lo := H17.n) q34 F40.bs m39 (by first | omega | (simp; omega) | (simp; done) | assumption | (exact app_len (xs := xs) (ys := ys) (by with_reducible assumption) (by with_reducible assumption) ‹putE (recsE xs) = 0› ‹putE (recsE ys) = 0›) | (exact few_of (by with_reducible assumption) hf) | (exact few_of (by with_reducible assumption) hg) | (exact few_take (by with_reducible assumption)) | (exact few_first hf _) | (exact Nat.le_trans (l3 _) (by decide)) | (exact Nat.le_trans l4 (by decide)))
      refine Wo.val _ _ (by kernel_rfl) (iop_appG (v := v31) (w := z19) (by kernel_rfl) (by kernel_rfl) k25.2.2 a43) ?_
      have m47 := q44.bq
      have k48 := q44.parts
      have m49 := X45.1
      refine Wo.pre 1 (by kernel_rfl) ?_
      refine Wo.nil ?_
      refine Wp.seq ?_
      refine Wp.region ?_
      refine Wo.pre 1 (by kernel_rfl) ?_
      obtain ⟨r50, H51, c52, z53, xs54, E55, rfl, X57, q58, q59⟩ := take66_run q44.bs (by first | omega | (simp; omega) | (simp; done) | assumption | (exact app_len (xs := xs) (ys := ys) (by with_reducible assumption) (by with_reducible assumption) ‹putE (recsE xs) = 0› ‹putE (recsE ys) = 0›) | (exact few_of (by with_reducible assumption) hf) | (exact few_of (by with_reducible assumption) hg) | (exact few_take (by with_reducible assumption)) | (exact few_first hf _) | (exact Nat.le_trans (l3 _) (by decide)) | (exact Nat.le_trans l4 (by decide)))
      have m60 := X57.1
      have m61 := q58.bq
      have k62 := q58.parts
      refine Wo.call (by kernel_rfl) (by kernel_rfl) c52 ?_
      clear c52
      refine Wo.pre 5 (by kernel_rfl) ?_
      refine Wo.nil ?_
      refine Wp.seq ?_
      refine Wp.seq ?_
      refine Wp.region ?_
      refine Wo.pre 1 (by kernel_rfl) ?_
      refine Wo.cmp (op := .eql) (x := IX.t 45) (y := IX.c (AV.int IntKind.i64 0)) (k := IntKind.i64) (a := E55) (b := 0) ((E55 : Int) = (0 : Int)) (by kernel_rfl) (by kernel_rfl) (by kernel_rfl) (by kernel_rfl) (by simp) (by kernel_rfl) (fun q63 => ?_) (fun q63 => ?_)
      · skip
        have m64 := F30.bq
        have k65 := F30.parts
        have m66 := F40.bq
        have k67 := F40.parts
        refine Wo.pre 1 (by kernel_rfl) ?_
        have F68 := (hc.fr ((((X10.fr.trans0 X21.fr).transL X35).trans X45).transR X57.fr) (by have d0 := m37.1.e; (first | omega | (intro s hs; omega) | (dsimp only; omega) | (intro s hs; dsimp only at hs; omega) | (simp only [blk_nils, blk_sl]; omega) | (intro s hs; simp only [blk_nils, blk_sl] at hs ⊢; omega) | (simp; done))))
        refine Wo.val (.int .i64 (List.length (xs) : Nat)) H51 (by kernel_rfl) (iop_lenS (v := v) (by kernel_rfl) F68.lenS) ?_
        refine Wo.pre 1 (by kernel_rfl) ?_
        have F69 := (F15.fr (((X21.fr.transL X35).trans X45).transR X57.fr) (by have d0 := m37.1.e; (first | omega | (intro s hs; omega) | (dsimp only; omega) | (intro s hs; dsimp only at hs; omega) | (simp only [blk_nils, blk_sl]; omega) | (intro s hs; simp only [blk_nils, blk_sl] at hs ⊢; omega) | (simp; done))))
        refine Wo.val (.int .i64 (List.length (ys) : Nat)) H51 (by kernel_rfl) (iop_lenS (v := w) (by kernel_rfl) F69.lenS) ?_
        refine Wo.val (.int IntKind.i64 ((↑xs.length : Int) + (↑ys.length : Int))) H51 (by kernel_rfl) (iop_arith (op := .add) (a := ↑xs.length) (b := ↑ys.length) (by kernel_rfl) (by kernel_rfl) (by simp) (bin_add IntKind.i64 (by simp only [min_i64]; omega) (by simp only [max_i64]; omega))) ?_
        refine Wo.cmp (op := .leq) (x := IX.t 51) (y := IX.c (AV.int IntKind.i64 16)) (k := IntKind.i64) (a := ↑xs.length + ↑ys.length) (b := 16) ((↑xs.length + ↑ys.length : Int) ≤ (16 : Int)) (by kernel_rfl) (by kernel_rfl) (by kernel_rfl) (by kernel_rfl) (by simp) (by kernel_rfl) (fun q70 => ?_) (fun q70 => ?_)
        rotate_left
        · ((have hJ := (join_ent hc hd ‹putE (recsE xs) = 0› ‹putE (recsE ys) = 0› ‹takeOf ([] ++ putX (recsE xs) ++ putX (recsE ys)) = _›).1; exfalso; omega))
        have m71 := F68.bq
        have k72 := F68.parts
        have m73 := F69.bq
        have k74 := F69.parts
        refine Wo.pre 1 (by kernel_rfl) ?_
        refine Wo.nil ?_
        refine Wp.cond false (by kernel_rfl) ?_
        refine Wp.skip ?_
        refine Wp.seq ?_
        refine Wp.seq ?_
        refine Wp.region ?_
        refine Wo.pre 1 (by kernel_rfl) ?_
        refine Wo.cmp (op := .eql) (x := IX.t 54) (y := IX.c (AV.int IntKind.i64 0)) (k := IntKind.i64) (a := E55) (b := 0) ((E55 : Int) = (0 : Int)) (by kernel_rfl) (by kernel_rfl) (by kernel_rfl) (by kernel_rfl) (by simp) (by kernel_rfl) (fun q75 => ?_) (fun q75 => ?_)
        rotate_left
        · (exfalso; omega)
        refine Wo.pre 3 (by kernel_rfl) ?_
        obtain ⟨r76, H77, c78, ys79, X80, q81, q82⟩ := own63_run F68 hf
        have m83 := X80.1
        have m84 := q81.bq
        have k85 := q81.parts
        refine Wo.call (by kernel_rfl) (by kernel_rfl) c78 ?_
        clear c78
        refine Wo.pre 1 (by kernel_rfl) ?_
        have F86 := (F69.fr X80.fr (fun _ e => e.elim))
        obtain ⟨r87, H88, c89, ys90, X91, q92, q93⟩ := own63_run F86 hg
        have m94 := X91.1
        have m95 := q92.bq
        have k96 := q92.parts
        refine Wo.call (by kernel_rfl) (by kernel_rfl) c89 ?_
        clear c89
        have F97 := (q81.fr X91.fr (fun _ e => e.elim))
        obtain ⟨v98, H99, a100, q101, X102⟩ := app70_more (lo := H51.n) (lo2 := H77.n) F97 q92 (by first | omega | (simp; omega) | (simp; done) | assumption | (exact app_len (xs := xs) (ys := ys) (by with_reducible assumption) (by with_reducible assumption) ‹putE (recsE xs) = 0› ‹putE (recsE ys) = 0›) | (exact few_of (by with_reducible assumption) hf) | (exact few_of (by with_reducible assumption) hg) | (exact few_take (by with_reducible assumption)) | (exact few_first hf _) | (exact Nat.le_trans (l3 _) (by decide)) | (exact Nat.le_trans l4 (by decide))) m83 (by first | omega | (simp; omega) | (simp; done) | assumption | (exact app_len (xs := xs) (ys := ys) (by with_reducible assumption) (by with_reducible assumption) ‹putE (recsE xs) = 0› ‹putE (recsE ys) = 0›) | (exact few_of (by with_reducible assumption) hf) | (exact few_of (by with_reducible assumption) hg) | (exact few_take (by with_reducible assumption)) | (exact few_first hf _) | (exact Nat.le_trans (l3 _) (by decide)) | (exact Nat.le_trans l4 (by decide)))
        refine Wo.val _ _ (by kernel_rfl) (iop_appG (v := r76) (w := r87) (by kernel_rfl) (by kernel_rfl) k96.2.2 a100) ?_
        have m103 := q101.bq
        have k104 := q101.parts
        have m105 := X102.1
        have F106 := (q58.fr ((X80.fr.trans0 X91.fr).transL X102) (by have d0 := m61.1.e; have d1 := m84.1.e; (first | omega | (intro s hs; omega) | (dsimp only; omega) | (intro s hs; dsimp only at hs; omega) | (simp only [blk_nils, blk_sl]; omega) | (intro s hs; simp only [blk_nils, blk_sl] at hs ⊢; omega) | (simp; done))))
        obtain ⟨r107, H108, c109, rfl, X111⟩ := same68_run F106.es q101.es (by first | omega | (simp; omega) | (simp; done) | assumption | (exact app_len (xs := xs) (ys := ys) (by with_reducible assumption) (by with_reducible assumption) ‹putE (recsE xs) = 0› ‹putE (recsE ys) = 0›) | (exact few_of (by with_reducible assumption) hf) | (exact few_of (by with_reducible assumption) hg) | (exact few_take (by with_reducible assumption)) | (exact few_first hf _) | (exact Nat.le_trans (l3 _) (by decide)) | (exact Nat.le_trans l4 (by decide)))
        have m112 := X111.1
        refine Wo.call (by kernel_rfl) (by kernel_rfl) c109 ?_
        clear c109
        refine Wo.boolS (fun q113 => ?_) (fun q113 => ?_)
        rotate_left
        · exact Bool.noConfusion (‹decide (recsE _ = recsE _) = false›.symm.trans (join_same hc hd (by with_reducible assumption) (by with_reducible assumption) (by with_reducible assumption) (by with_reducible assumption) (by with_reducible assumption) (by with_reducible assumption)))
        have m114 := F86.bq
        have k115 := F86.parts
        have m116 := F97.bq
        have k117 := F97.parts
        have m118 := F106.bq
        have k119 := F106.parts
        refine Wo.pre 2 (by kernel_rfl) ?_
        refine Wo.nil ?_
        refine Wp.cond false (by kernel_rfl) ?_
        refine Wp.skip ?_
        refine Wp.seq ?_
        refine Wp.region ?_
        refine Wo.pre 1 (by kernel_rfl) ?_
        refine Wo.val (.int IntKind.i64 (↑at0)) H108 (by kernel_rfl) (iop_cvIfit (k := IntKind.i64) (kk := IntKind.u16) (a := ↑at0) (by kernel_rfl) (by simp only [min_i64]; omega) (by simp only [max_i64]; omega)) ?_
        refine Wo.pre 1 (by kernel_rfl) ?_
        have F120 := (F30.fr ((((((X35.trans X45).transR X57.fr).transR X80.fr).transR X91.fr).trans X102).transR X111.fr) (by have d0 := m13.1.e; have d1 := m37.1.e; have d2 := m64.1.e; have d3 := m84.1.e; have d4 := m116.1.e; (first | omega | (intro s hs; omega) | (dsimp only; omega) | (intro s hs; dsimp only at hs; omega) | (simp only [blk_nils, blk_sl]; omega) | (intro s hs; simp only [blk_nils, blk_sl] at hs ⊢; omega) | (simp; done))))
        refine Wo.val (.int .i64 (List.length (putX (recsE xs)) : Nat)) H108 (by kernel_rfl) (Bs.len F120.bs (by kernel_rfl)) ?_
        (have hmod := Nat.mod_lt at0 (putX_pos ‹putE (recsE xs) = 0›); refine Wo.val (.int .i64 ((at0 % (putX (recsE xs)).length : Nat) : Int)) _ (by kernel_rfl) (iop_remN (a := at0) (b := (putX (recsE xs)).length) (by kernel_rfl) (by kernel_rfl) (putX_pos ‹putE (recsE xs) = 0›)) ?_)
        refine Wo.pre 1 (by kernel_rfl) ?_
        refine Wo.nil ?_
        refine Wp.seq ?_
        refine Wp.region ?_
        refine Wo.pre 2 (by kernel_rfl) ?_
        obtain ⟨z121, e121, b121, o121⟩ := F120.bs.upN F120.cok (ej := (↑(at0 % (putX (recsE xs)).length) : Int)) (at0 % (putX (recsE xs)).length) rfl (by first | omega | simp; omega)
        refine Wo.val z121 H108 (by kernel_rfl) (e121 (by kernel_rfl) (by kernel_rfl)) ?_
        clear e121
        have m122 := b121.bq
        have k123 := b121.parts
        obtain ⟨r124, H125, c126, z127, xs128, E129, rfl, X131, q132, q133⟩ := take66_run b121 (by first | omega | (simp; omega) | (simp; done) | assumption | (exact app_len (xs := xs) (ys := ys) (by with_reducible assumption) (by with_reducible assumption) ‹putE (recsE xs) = 0› ‹putE (recsE ys) = 0›) | (exact few_of (by with_reducible assumption) hf) | (exact few_of (by with_reducible assumption) hg) | (exact few_take (by with_reducible assumption)) | (exact few_first hf _) | (exact Nat.le_trans (l3 _) (by decide)) | (exact Nat.le_trans l4 (by decide)))
        have m134 := X131.1
        have m135 := q132.bq
        have k136 := q132.parts
        refine Wo.call (by kernel_rfl) (by kernel_rfl) c126 ?_
        clear c126
        refine Wo.pre 5 (by kernel_rfl) ?_
        refine Wo.nil ?_
        refine Wp.seq ?_
        refine Wp.seq ?_
        refine Wp.region ?_
        refine Wo.pre 1 (by kernel_rfl) ?_
        refine Wo.cmp (op := .eql) (x := IX.t 78) (y := IX.c (AV.int IntKind.i64 0)) (k := IntKind.i64) (a := E129) (b := 0) ((E129 : Int) = (0 : Int)) (by kernel_rfl) (by kernel_rfl) (by kernel_rfl) (by kernel_rfl) (by simp) (by kernel_rfl) (fun q137 => ?_) (fun q137 => ?_)
        · skip
          have m138 := F120.bq
          have k139 := F120.parts
          refine Wo.nil ?_
          refine Wp.cond true (by kernel_rfl) ?_
          refine Wp.seq ?_
          refine Wp.region ?_
          refine Wo.pre 2 (by kernel_rfl) ?_
          refine Wo.val (.int .i64 (List.length (xs128) : Nat)) H125 (by kernel_rfl) (iop_lenS (v := z127) (by kernel_rfl) q132.es.lenS) ?_
          (obtain ⟨zA, eA, bA⟩ := hc.up ((cut_ent hc ‹putE (recsE xs) = 0› ‹takeOf (List.take _ (putX _)) = _›).1 (by with_reducible assumption)).1; refine Wo.val zA _ (by kernel_rfl) (eA (by kernel_rfl) (by kernel_rfl)) ?_)
          have F140 := (bA.fr (((((((((X10.fr.trans0 X21.fr).transL X35).trans X45).transR X57.fr).transR X80.fr).transR X91.fr).trans X102).transR X111.fr).transR X131.fr) (by have d0 := m37.1.e; have d1 := m84.1.e; have d2 := m116.1.e; (first | omega | (intro s hs; omega) | (dsimp only; omega) | (intro s hs; dsimp only at hs; omega) | (simp only [blk_nils, blk_sl]; omega) | (intro s hs; simp only [blk_nils, blk_sl] at hs ⊢; omega) | (simp; done))))
          obtain ⟨r141, H142, c143, z144, rfl, X146, q147⟩ := put64_run F140 (by first | omega | (simp; omega) | (simp; done) | assumption | (exact app_len (xs := xs) (ys := ys) (by with_reducible assumption) (by with_reducible assumption) ‹putE (recsE xs) = 0› ‹putE (recsE ys) = 0›) | (exact few_of (by with_reducible assumption) hf) | (exact few_of (by with_reducible assumption) hg) | (exact few_take (by with_reducible assumption)) | (exact few_first hf _) | (exact Nat.le_trans (l3 _) (by decide)) | (exact Nat.le_trans l4 (by decide)))
          have m148 := X146.1
          have m149 := q147.bq
          have k150 := q147.parts
          refine Wo.call (by kernel_rfl) (by kernel_rfl) c143 ?_
          clear c143
          refine Wo.pre 5 (by kernel_rfl) ?_
          refine Wo.nil ?_
          refine Wp.seq ?_
          refine Wp.draw ?_
          refine Wd.pure (by kernel_rfl) (by kernel_rfl) ?_
          refine Wd.cmp (op := .eql) (x := IX.t 88) (y := IX.c (AV.int IntKind.i64 0)) (k := IntKind.i64) (a := putE (recsE (List.take xs128.length xs))) (b := 0) ((putE (recsE (List.take xs128.length xs)) : Int) = (0 : Int)) (by kernel_rfl) (by kernel_rfl) (by kernel_rfl) (by kernel_rfl) (by simp) (by kernel_rfl) (fun q151 => ?_) (fun q151 => ?_)
          rotate_left
          · exact (‹¬ putE (recsE (List.take _ xs)) = 0› ((cut_ent hc ‹putE (recsE xs) = 0› ‹takeOf (List.take _ (putX _)) = _›).1 (by with_reducible assumption)).2.1).elim
          have m152 := bA.bq
          have k153 := bA.parts
          have m154 := F140.bq
          have k155 := F140.parts
          refine Wd.pure (by kernel_rfl) (by kernel_rfl) ?_
          refine Wd.pure (by kernel_rfl) (by kernel_rfl) ?_
          refine Wd.read (.str (putX (recsE (List.take xs128.length xs)))) (.cvBS (.c (z144))) (by kernel_rfl) (by kernel_rfl) (iop_cvBS (v := z144) (by kernel_rfl) q147.bs) ?_
          refine Wd.pure (by kernel_rfl) (by kernel_rfl) ?_
          refine Wd.pure (by kernel_rfl) (by kernel_rfl) ?_
          have F156 := (F120.fr (X131.fr.trans0 X146.fr) (.inr id))
          obtain ⟨z157, e157, b157, o157⟩ := F156.bs.upN F156.cok (ej := (↑(at0 % (putX (recsE xs)).length) : Int)) (at0 % (putX (recsE xs)).length) rfl (by first | omega | simp; omega)
          refine Wd.make z157 H142 (by kernel_rfl) (by kernel_rfl) (e157 (by kernel_rfl) (by kernel_rfl)) ?_
          clear e157
          have m158 := b157.bq
          have k159 := b157.parts
          refine Wd.read (.str (List.take (at0 % (putX (recsE xs)).length) (putX (recsE xs)))) (.cvBS (.c (z157))) (by kernel_rfl) (by kernel_rfl) (iop_cvBS (v := z157) (by kernel_rfl) b157) ?_
          refine Wd.cmpS (x := IX.t 92) (y := IX.t 96) (a := putX (recsE (List.take xs128.length xs))) (b := List.take (at0 % (putX (recsE xs)).length) (putX (recsE xs))) (by kernel_rfl) (by kernel_rfl) (by kernel_rfl) (by kernel_rfl) (fun q160 => ?_) (fun q160 => ?_)
          rotate_left
          · exact (‹putX (recsE (List.take _ xs)) ≠ _› ((cut_ent hc ‹putE (recsE xs) = 0› ‹takeOf (List.take _ (putX _)) = _›).1 (by with_reducible assumption)).2.2).elim
          have m161 := F156.bq
          have k162 := F156.parts
          refine Wd.pure (by kernel_rfl) (by kernel_rfl) ?_
          refine Wd.pure (by kernel_rfl) (by kernel_rfl) ?_
          have c163 := wakes_run (H142)
          refine Wd.call (by kernel_rfl) (by kernel_rfl) c163 (holds_of [(IOp.cvBS (IX.c z157), AV.str (List.take (at0 % (putX (recsE xs)).length) (putX (recsE xs))), 8), (IOp.cvBS (IX.c z144), AV.str (putX (recsE (List.take xs128.length xs))), 4)] (by kernel_rfl) (holds_and (rd_cvBS b157) (holds_and (rd_cvBS q147.bs) rfl))) ?_
          clear c163
          refine Wd.pure (by kernel_rfl) (by kernel_rfl) ?_
          refine Wd.pure (by kernel_rfl) (by kernel_rfl) ?_
          refine Wd.done (holds_of [] (by kernel_rfl) rfl) ?_
          refine Wp.ret ?_
          refine ⟨.inr rfl, (AV.bool true), (ret_one (res_tmp (by kernel_rfl) res_nil)), ?_⟩
          dsimp only
        · skip
          have m164 := F120.bq
          have k165 := F120.parts
          refine Wo.nil ?_
          refine Wp.cond false (by kernel_rfl) ?_
          refine Wp.skip ?_
          refine Wp.seq ?_
          refine Wp.region ?_
          refine Wo.pre 1 (by kernel_rfl) ?_
          refine Wo.cmp (op := .eql) (x := IX.t 102) (y := IX.c (AV.int IntKind.i64 5)) (k := IntKind.i64) (a := E129) (b := 5) ((E129 : Int) = (5 : Int)) (by kernel_rfl) (by kernel_rfl) (by kernel_rfl) (by kernel_rfl) (by simp) (by kernel_rfl) (fun q166 => ?_) (fun q166 => ?_)
          rotate_left
          · exact (‹¬ (_ : Int) = 5› ((cut_ent hc ‹putE (recsE xs) = 0› ‹takeOf (List.take _ (putX _)) = _›).2 (by with_reducible assumption))).elim
          refine Wo.pre 1 (by kernel_rfl) ?_
          have c167 := wakes_run (H125)
          refine Wo.call (by kernel_rfl) (by kernel_rfl) c167 ?_
          clear c167
          refine Wo.pre 2 (by kernel_rfl) ?_
          refine Wo.nil ?_
          refine Wp.ret ?_
          refine ⟨.inr rfl, (AV.bool true), (ret_one (res_tmp (by kernel_rfl) res_nil)), ?_⟩
          dsimp only
      · skip
        have m168 := F30.bq
        have k169 := F30.parts
        have m170 := F40.bq
        have k171 := F40.parts
        refine Wo.pre 1 (by kernel_rfl) ?_
        have F172 := (hc.fr ((((X10.fr.trans0 X21.fr).transL X35).trans X45).transR X57.fr) (by have d0 := m37.1.e; (first | omega | (intro s hs; omega) | (dsimp only; omega) | (intro s hs; dsimp only at hs; omega) | (simp only [blk_nils, blk_sl]; omega) | (intro s hs; simp only [blk_nils, blk_sl] at hs ⊢; omega) | (simp; done))))
        refine Wo.val (.int .i64 (List.length (xs) : Nat)) H51 (by kernel_rfl) (iop_lenS (v := v) (by kernel_rfl) F172.lenS) ?_
        refine Wo.pre 1 (by kernel_rfl) ?_
        have F173 := (F15.fr (((X21.fr.transL X35).trans X45).transR X57.fr) (by have d0 := m37.1.e; (first | omega | (intro s hs; omega) | (dsimp only; omega) | (intro s hs; dsimp only at hs; omega) | (simp only [blk_nils, blk_sl]; omega) | (intro s hs; simp only [blk_nils, blk_sl] at hs ⊢; omega) | (simp; done))))
        refine Wo.val (.int .i64 (List.length (ys) : Nat)) H51 (by kernel_rfl) (iop_lenS (v := w) (by kernel_rfl) F173.lenS) ?_
        refine Wo.val (.int IntKind.i64 ((↑xs.length : Int) + (↑ys.length : Int))) H51 (by kernel_rfl) (iop_arith (op := .add) (a := ↑xs.length) (b := ↑ys.length) (by kernel_rfl) (by kernel_rfl) (by simp) (bin_add IntKind.i64 (by simp only [min_i64]; omega) (by simp only [max_i64]; omega))) ?_
        refine Wo.cmp (op := .leq) (x := IX.t 51) (y := IX.c (AV.int IntKind.i64 16)) (k := IntKind.i64) (a := ↑xs.length + ↑ys.length) (b := 16) ((↑xs.length + ↑ys.length : Int) ≤ (16 : Int)) (by kernel_rfl) (by kernel_rfl) (by kernel_rfl) (by kernel_rfl) (by simp) (by kernel_rfl) (fun q174 => ?_) (fun q174 => ?_)
        · ((have hJ := (join_ent hc hd ‹putE (recsE xs) = 0› ‹putE (recsE ys) = 0› ‹takeOf ([] ++ putX (recsE xs) ++ putX (recsE ys)) = _›).1; exfalso; omega))
        have m175 := F172.bq
        have k176 := F172.parts
        have m177 := F173.bq
        have k178 := F173.parts
        refine Wo.pre 1 (by kernel_rfl) ?_
        refine Wo.nil ?_
        refine Wp.cond false (by kernel_rfl) ?_
        refine Wp.skip ?_
        refine Wp.seq ?_
        refine Wp.seq ?_
        refine Wp.region ?_
        refine Wo.pre 1 (by kernel_rfl) ?_
        refine Wo.cmp (op := .eql) (x := IX.t 54) (y := IX.c (AV.int IntKind.i64 0)) (k := IntKind.i64) (a := E55) (b := 0) ((E55 : Int) = (0 : Int)) (by kernel_rfl) (by kernel_rfl) (by kernel_rfl) (by kernel_rfl) (by simp) (by kernel_rfl) (fun q179 => ?_) (fun q179 => ?_)
        · (exfalso; omega)
        refine Wo.pre 3 (by kernel_rfl) ?_
        refine Wo.pre 1 (by kernel_rfl) ?_
        refine Wo.pre 1 (by kernel_rfl) ?_
        refine Wo.pre 1 (by kernel_rfl) ?_
        refine Wo.pre 1 (by kernel_rfl) ?_
        refine Wo.pre 1 (by kernel_rfl) ?_
        refine Wo.pre 1 (by kernel_rfl) ?_
        refine Wo.pre 1 (by kernel_rfl) ?_
        refine Wo.nil ?_
        refine Wp.cond false (by kernel_rfl) ?_
        refine Wp.skip ?_
        refine Wp.seq ?_
        refine Wp.region ?_
        refine Wo.pre 1 (by kernel_rfl) ?_
        refine Wo.val (.int IntKind.i64 (↑at0)) H51 (by kernel_rfl) (iop_cvIfit (k := IntKind.i64) (kk := IntKind.u16) (a := ↑at0) (by kernel_rfl) (by simp only [min_i64]; omega) (by simp only [max_i64]; omega)) ?_
        refine Wo.pre 1 (by kernel_rfl) ?_
        have F180 := (F30.fr ((X35.trans X45).transR X57.fr) (by have d0 := m13.1.e; have d1 := m37.1.e; have d2 := m168.1.e; (first | omega | (intro s hs; omega) | (dsimp only; omega) | (intro s hs; dsimp only at hs; omega) | (simp only [blk_nils, blk_sl]; omega) | (intro s hs; simp only [blk_nils, blk_sl] at hs ⊢; omega) | (simp; done))))
        refine Wo.val (.int .i64 (List.length (putX (recsE xs)) : Nat)) H51 (by kernel_rfl) (Bs.len F180.bs (by kernel_rfl)) ?_
        (have hmod := Nat.mod_lt at0 (putX_pos ‹putE (recsE xs) = 0›); refine Wo.val (.int .i64 ((at0 % (putX (recsE xs)).length : Nat) : Int)) _ (by kernel_rfl) (iop_remN (a := at0) (b := (putX (recsE xs)).length) (by kernel_rfl) (by kernel_rfl) (putX_pos ‹putE (recsE xs) = 0›)) ?_)
        refine Wo.pre 1 (by kernel_rfl) ?_
        refine Wo.nil ?_
        refine Wp.seq ?_
        refine Wp.region ?_
        refine Wo.pre 2 (by kernel_rfl) ?_
        obtain ⟨z181, e181, b181, o181⟩ := F180.bs.upN F180.cok (ej := (↑(at0 % (putX (recsE xs)).length) : Int)) (at0 % (putX (recsE xs)).length) rfl (by first | omega | simp; omega)
        refine Wo.val z181 H51 (by kernel_rfl) (e181 (by kernel_rfl) (by kernel_rfl)) ?_
        clear e181
        have m182 := b181.bq
        have k183 := b181.parts
        obtain ⟨r184, H185, c186, z187, xs188, E189, rfl, X191, q192, q193⟩ := take66_run b181 (by first | omega | (simp; omega) | (simp; done) | assumption | (exact app_len (xs := xs) (ys := ys) (by with_reducible assumption) (by with_reducible assumption) ‹putE (recsE xs) = 0› ‹putE (recsE ys) = 0›) | (exact few_of (by with_reducible assumption) hf) | (exact few_of (by with_reducible assumption) hg) | (exact few_take (by with_reducible assumption)) | (exact few_first hf _) | (exact Nat.le_trans (l3 _) (by decide)) | (exact Nat.le_trans l4 (by decide)))
        have m194 := X191.1
        have m195 := q192.bq
        have k196 := q192.parts
        refine Wo.call (by kernel_rfl) (by kernel_rfl) c186 ?_
        clear c186
        refine Wo.pre 5 (by kernel_rfl) ?_
        refine Wo.nil ?_
        refine Wp.seq ?_
        refine Wp.seq ?_
        refine Wp.region ?_
        refine Wo.pre 1 (by kernel_rfl) ?_
        refine Wo.cmp (op := .eql) (x := IX.t 78) (y := IX.c (AV.int IntKind.i64 0)) (k := IntKind.i64) (a := E189) (b := 0) ((E189 : Int) = (0 : Int)) (by kernel_rfl) (by kernel_rfl) (by kernel_rfl) (by kernel_rfl) (by simp) (by kernel_rfl) (fun q197 => ?_) (fun q197 => ?_)
        · skip
          have m198 := F180.bq
          have k199 := F180.parts
          refine Wo.nil ?_
          refine Wp.cond true (by kernel_rfl) ?_
          refine Wp.seq ?_
          refine Wp.region ?_
          refine Wo.pre 2 (by kernel_rfl) ?_
          refine Wo.val (.int .i64 (List.length (xs188) : Nat)) H185 (by kernel_rfl) (iop_lenS (v := z187) (by kernel_rfl) q192.es.lenS) ?_
          (obtain ⟨zA, eA, bA⟩ := hc.up ((cut_ent hc ‹putE (recsE xs) = 0› ‹takeOf (List.take _ (putX _)) = _›).1 (by with_reducible assumption)).1; refine Wo.val zA _ (by kernel_rfl) (eA (by kernel_rfl) (by kernel_rfl)) ?_)
          have F200 := (bA.fr (((((X10.fr.trans0 X21.fr).transL X35).trans X45).transR X57.fr).transR X191.fr) (by have d0 := m37.1.e; (first | omega | (intro s hs; omega) | (dsimp only; omega) | (intro s hs; dsimp only at hs; omega) | (simp only [blk_nils, blk_sl]; omega) | (intro s hs; simp only [blk_nils, blk_sl] at hs ⊢; omega) | (simp; done))))
          obtain ⟨r201, H202, c203, z204, rfl, X206, q207⟩ := put64_run F200 (by first | omega | (simp; omega) | (simp; done) | assumption | (exact app_len (xs := xs) (ys := ys) (by with_reducible assumption) (by with_reducible assumption) ‹putE (recsE xs) = 0› ‹putE (recsE ys) = 0›) | (exact few_of (by with_reducible assumption) hf) | (exact few_of (by with_reducible assumption) hg) | (exact few_take (by with_reducible assumption)) | (exact few_first hf _) | (exact Nat.le_trans (l3 _) (by decide)) | (exact Nat.le_trans l4 (by decide)))
          have m208 := X206.1
          have m209 := q207.bq
          have k210 := q207.parts
          refine Wo.call (by kernel_rfl) (by kernel_rfl) c203 ?_
          clear c203
          refine Wo.pre 5 (by kernel_rfl) ?_
          refine Wo.nil ?_
          refine Wp.seq ?_
          refine Wp.draw ?_
          refine Wd.pure (by kernel_rfl) (by kernel_rfl) ?_
          refine Wd.cmp (op := .eql) (x := IX.t 88) (y := IX.c (AV.int IntKind.i64 0)) (k := IntKind.i64) (a := putE (recsE (List.take xs188.length xs))) (b := 0) ((putE (recsE (List.take xs188.length xs)) : Int) = (0 : Int)) (by kernel_rfl) (by kernel_rfl) (by kernel_rfl) (by kernel_rfl) (by simp) (by kernel_rfl) (fun q211 => ?_) (fun q211 => ?_)
          rotate_left
          · exact (‹¬ putE (recsE (List.take _ xs)) = 0› ((cut_ent hc ‹putE (recsE xs) = 0› ‹takeOf (List.take _ (putX _)) = _›).1 (by with_reducible assumption)).2.1).elim
          have m212 := bA.bq
          have k213 := bA.parts
          have m214 := F200.bq
          have k215 := F200.parts
          refine Wd.pure (by kernel_rfl) (by kernel_rfl) ?_
          refine Wd.pure (by kernel_rfl) (by kernel_rfl) ?_
          refine Wd.read (.str (putX (recsE (List.take xs188.length xs)))) (.cvBS (.c (z204))) (by kernel_rfl) (by kernel_rfl) (iop_cvBS (v := z204) (by kernel_rfl) q207.bs) ?_
          refine Wd.pure (by kernel_rfl) (by kernel_rfl) ?_
          refine Wd.pure (by kernel_rfl) (by kernel_rfl) ?_
          have F216 := (F180.fr (X191.fr.trans0 X206.fr) (.inr id))
          obtain ⟨z217, e217, b217, o217⟩ := F216.bs.upN F216.cok (ej := (↑(at0 % (putX (recsE xs)).length) : Int)) (at0 % (putX (recsE xs)).length) rfl (by first | omega | simp; omega)
          refine Wd.make z217 H202 (by kernel_rfl) (by kernel_rfl) (e217 (by kernel_rfl) (by kernel_rfl)) ?_
          clear e217
          have m218 := b217.bq
          have k219 := b217.parts
          refine Wd.read (.str (List.take (at0 % (putX (recsE xs)).length) (putX (recsE xs)))) (.cvBS (.c (z217))) (by kernel_rfl) (by kernel_rfl) (iop_cvBS (v := z217) (by kernel_rfl) b217) ?_
          refine Wd.cmpS (x := IX.t 92) (y := IX.t 96) (a := putX (recsE (List.take xs188.length xs))) (b := List.take (at0 % (putX (recsE xs)).length) (putX (recsE xs))) (by kernel_rfl) (by kernel_rfl) (by kernel_rfl) (by kernel_rfl) (fun q220 => ?_) (fun q220 => ?_)
          rotate_left
          · exact (‹putX (recsE (List.take _ xs)) ≠ _› ((cut_ent hc ‹putE (recsE xs) = 0› ‹takeOf (List.take _ (putX _)) = _›).1 (by with_reducible assumption)).2.2).elim
          have m221 := F216.bq
          have k222 := F216.parts
          refine Wd.pure (by kernel_rfl) (by kernel_rfl) ?_
          refine Wd.pure (by kernel_rfl) (by kernel_rfl) ?_
          have c223 := wakes_run (H202)
          refine Wd.call (by kernel_rfl) (by kernel_rfl) c223 (holds_of [(IOp.cvBS (IX.c z217), AV.str (List.take (at0 % (putX (recsE xs)).length) (putX (recsE xs))), 8), (IOp.cvBS (IX.c z204), AV.str (putX (recsE (List.take xs188.length xs))), 4)] (by kernel_rfl) (holds_and (rd_cvBS b217) (holds_and (rd_cvBS q207.bs) rfl))) ?_
          clear c223
          refine Wd.pure (by kernel_rfl) (by kernel_rfl) ?_
          refine Wd.pure (by kernel_rfl) (by kernel_rfl) ?_
          refine Wd.done (holds_of [] (by kernel_rfl) rfl) ?_
          refine Wp.ret ?_
          refine ⟨.inr rfl, (AV.bool true), (ret_one (res_tmp (by kernel_rfl) res_nil)), ?_⟩
          dsimp only
        · skip
          have m224 := F180.bq
          have k225 := F180.parts
          refine Wo.nil ?_
          refine Wp.cond false (by kernel_rfl) ?_
          refine Wp.skip ?_
          refine Wp.seq ?_
          refine Wp.region ?_
          refine Wo.pre 1 (by kernel_rfl) ?_
          refine Wo.cmp (op := .eql) (x := IX.t 102) (y := IX.c (AV.int IntKind.i64 5)) (k := IntKind.i64) (a := E189) (b := 5) ((E189 : Int) = (5 : Int)) (by kernel_rfl) (by kernel_rfl) (by kernel_rfl) (by kernel_rfl) (by simp) (by kernel_rfl) (fun q226 => ?_) (fun q226 => ?_)
          rotate_left
          · exact (‹¬ (_ : Int) = 5› ((cut_ent hc ‹putE (recsE xs) = 0› ‹takeOf (List.take _ (putX _)) = _›).2 (by with_reducible assumption))).elim
          refine Wo.pre 1 (by kernel_rfl) ?_
          have c227 := wakes_run (H185)
          refine Wo.call (by kernel_rfl) (by kernel_rfl) c227 ?_
          clear c227
          refine Wo.pre 2 (by kernel_rfl) ?_
          refine Wo.nil ?_
          refine Wp.ret ?_
          refine ⟨.inr rfl, (AV.bool true), (ret_one (res_tmp (by kernel_rfl) res_nil)), ?_⟩
          dsimp only
    · skip
      refine Wo.pre 1 (by kernel_rfl) ?_
      refine Wo.nil ?_
      refine Wp.cond true (by kernel_rfl) ?_
      refine Wp.seq ?_
      refine Wp.region ?_
      have c228 := wakes_run (H17)
      refine Wo.call (by kernel_rfl) (by kernel_rfl) c228 ?_
      clear c228
      refine Wo.pre 1 (by kernel_rfl) ?_
      refine Wo.nil ?_
      refine Wp.ret ?_
      refine ⟨.inr rfl, (AV.bool true), (ret_one (res_tmp (by kernel_rfl) res_nil)), ?_⟩
      dsimp only
  · skip
    have m229 := F15.bq
    have k230 := F15.parts
    refine Wo.pre 2 (by kernel_rfl) ?_
    refine Wo.pre 1 (by kernel_rfl) ?_
    refine Wo.pre 1 (by kernel_rfl) ?_
    refine Wo.nil ?_
    refine Wp.cond true (by kernel_rfl) ?_
    refine Wp.seq ?_
    refine Wp.region ?_
    have c231 := wakes_run (H17)
    refine Wo.call (by kernel_rfl) (by kernel_rfl) c231 ?_
    clear c231
    refine Wo.pre 1 (by kernel_rfl) ?_
    refine Wo.nil ?_
    refine Wp.ret ?_
    refine ⟨.inr rfl, (AV.bool true), (ret_one (res_tmp (by kernel_rfl) res_nil)), ?_⟩
    dsimp only
end Go.Det

/- Rows of entries as arguments. -/
set_option linter.unusedVariables false
set_option linter.unusedSimpArgs false
namespace Go.Det
open Go.Proofs

theorem ents_of {h : H} {xs : List (Int × List (List Int))} {v : AV} (hk : KSl (KPair (KInt .u64) (KSl (KSl (KInt .u8) 1) 1)) (1 + 1) h xs [v]) (hw1 : xs.length * 32 ≤ 140737488355328) (hw : ∀ x ∈ xs, (0 ≤ x.1 ∧ x.1 < 2 ^ 64) ∧ x.2.length * 24 ≤ 140737488355328 ∧ ∀ y ∈ x.2, y.length ≤ maxRow ∧ ∀ n ∈ y, IntKind.u8.min ≤ n ∧ n ≤ IntKind.u8.max) :
    ∃ es : List Ent, Es h v es ∧ FewE es := by
  have hmx : 200000000000000 = maxRow := rfl
  obtain ⟨v', e, hv⟩ := hk
  simp only [List.cons.injEq, and_true] at e
  subst e
  rcases hv with ⟨rfl, rfl⟩ | ⟨a, c, rfl, h1, h2, cc, h3, h4, h5⟩
  · exact ⟨[], Es.nil0, by simp, fun e he => by simp at he⟩
  · have key : ∀ j : Fin xs.length, ∃ p : Ent, cc[j.1]? = some p.cells ∧ Ch h p.z p.ps ∧ p.t < 2 ^ 64 ∧ p.ps.length * 24 ≤ 140737488355328 ∧ ∀ q ∈ p.ps, q.2.length ≤ maxRow := by
      intro j
      have hj : xs[j.1]? = some xs[j.1] := List.getElem?_eq_getElem j.2
      obtain ⟨cs, hc, y, z, rfl, k1, k2⟩ := h5 j.1 _ hj
      have hmem := List.mem_of_getElem? hj
      obtain ⟨⟨w1, w2⟩, w3, w4⟩ := hw _ hmem
      obtain rfl : y = [.int .u64 (xs[j.1]).1] := k1
      obtain ⟨z', rfl, hz⟩ := k2
      obtain ⟨ps, hch, hl, hp⟩ := chain_of (v := z') ⟨z', rfl, hz⟩ (fun x hx => (w4 x hx).2)
      obtain ⟨n, hn⟩ : ∃ n : Nat, (xs[j.1]).1 = n := ⟨(xs[j.1]).1.toNat, by omega⟩
      refine ⟨⟨n, z', ps⟩, ?_, hch, ?_, ?_, ?_⟩
      · rw [hc, hn]; rfl
      · dsimp only; omega
      · dsimp only; omega
      · intro q hq
        obtain ⟨x, hx, e⟩ := hp q hq
        rw [e]; exact (w4 x hx).1
    obtain ⟨f, hf⟩ := Classical.axiomOfChoice key
    have e1 : cc = (List.ofFn f).map Ent.cells := by
      apply List.ext_getElem?
      intro i
      by_cases hi : i < xs.length
      · rw [(hf ⟨i, hi⟩).1]; simp [hi]
      · rw [List.getElem?_eq_none (by omega), List.getElem?_eq_none (by simp; omega)]
    refine ⟨List.ofFn f, ⟨.inr ⟨a, .ex c, by rw [List.length_ofFn], h2, ?_⟩, fun p hp => ?_, fun a m c' e => ?_⟩, ?_, fun p hp => ?_⟩
    · rw [List.length_ofFn, rowE, ← e1]
      exact h3
    · obtain ⟨j, rfl⟩ := mem_fn hp
      exact ⟨(hf j).2.1, (hf j).2.2.1⟩
    · simp only [AV.sl.injEq] at e
      exact .inl ⟨c, e.2.2.symm, by omega⟩
    · rw [List.length_ofFn]; omega
    · obtain ⟨j, rfl⟩ := mem_fn hp
      exact (hf j).2.2.2
end Go.Det

