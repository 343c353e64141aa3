/- Base: texts read: the whole (work). -/
import Derived.Test.YtdnfbmminagflaaDoorba6
set_option linter.unusedVariables false
set_option linter.unusedSimpArgs false
set_option linter.unusedSectionVars false
namespace Go.Det
open Go.Proofs
attribute [local irreducible] Wp Wo Wd iop ev slots quiets wanted put

/-- What is left over behind the last four signs. -/
def Got.rest (g : Got) : List UInt8 := if g.many % 4 = 2 then [UInt8.ofNat (g.n / 16)] else if g.many % 4 = 3 then [UInt8.ofNat (g.n / 1024), UInt8.ofNat (g.n / 4)] else []
/-- The bytes that a text says; none: it is none. -/
def takeF (s : List UInt8) : Option (List UInt8) := match (⟨0, 0, []⟩ : Got).all (Lib.trimRightB s 61) with
  | none => none
  | some g => if Ba.b64 (g.out ++ g.rest) = s then some (g.out ++ g.rest) else none

theorem Got.rest_len (g : Got) : g.rest.length ≤ 2 := by
  unfold Got.rest
  split
  · simp
  · split <;> simp

def fstC : IC → IC
  | .seq a _ => a
  | c => c
/-- The switch over what is left. -/
def sw13 : IC := fstC (sndC (sndC (sndC (sndC (sndC (sndC ir13.body))))))

theorem Wo.lit1 {o : IOper} {x : IX} {l : List IOper} {ts : List AV} {h : H} {Q : List AV → H → Prop} (c : UInt8) (ho : o.op = .bsl 5 [.int .u8 0] 1 [(0, 1, x)]) (hg : wanted o.guard ts = true) (hx : ev ts x = .int .u8 c.toNat)
    (hQ : ∀ H', Fr No h H' → Ow h.n H' (.sl ⟨h.n, 0, 0⟩ 1 (.ex 1)) [c] → Wo TF l (put ts o.dst (.sl ⟨h.n, 0, 0⟩ 1 (.ex 1))) H' Q) : Wo TF (o :: l) ts h Q := by
  have hi : iop o.op (ev ts) h = some (.val (.sl ⟨h.n, 0, 0⟩ 1 (.ex 1)) (h.new (.cells 0 5 (bytesAV [c]) 0 false))) := by
    rw [ho]
    simp [iop, fillL, hx, AV.cells, putAt, AV.one, bytesAV]
  exact Wo.val _ _ hg hi (hQ _ (Ext.new h _).fr (.inr ⟨h.n, 0, Nat.le_refl _, by simp, h.get_new _, .inr rfl⟩))
theorem Wo.lit2 {o : IOper} {x y : IX} {l : List IOper} {ts : List AV} {h : H} {Q : List AV → H → Prop} (a b : UInt8) (ho : o.op = .bsl 5 [.int .u8 0, .int .u8 0] 2 [(0, 1, x), (1, 1, y)]) (hg : wanted o.guard ts = true) (hx : ev ts x = .int .u8 a.toNat) (hy : ev ts y = .int .u8 b.toNat)
    (hQ : ∀ H', Fr No h H' → Ow h.n H' (.sl ⟨h.n, 0, 0⟩ 2 (.ex 2)) [a, b] → Wo TF l (put ts o.dst (.sl ⟨h.n, 0, 0⟩ 2 (.ex 2))) H' Q) : Wo TF (o :: l) ts h Q := by
  have hi : iop o.op (ev ts) h = some (.val (.sl ⟨h.n, 0, 0⟩ 2 (.ex 2)) (h.new (.cells 0 5 (bytesAV [a, b]) 0 false))) := by
    rw [ho]
    simp [iop, fillL, hx, hy, AV.cells, putAt, AV.one, bytesAV]
  exact Wo.val _ _ hg hi (hQ _ (Ext.new h _).fr (.inr ⟨h.n, 0, Nat.le_refl _, by simp, h.get_new _, .inr rfl⟩))

set_option maxHeartbeats 8000000 in
/-- What is left behind the last four signs is told. -/
theorem sw_run {hb h : H} {lo bn bm bo : Nat} {g : Got} {s : List UInt8} (V : Vars hb lo bn bm bo g h) (hbn : bn < lo) (hbm : bm < lo) (hbo : bo < lo) (hd2 : bn ≠ bo) (hd3 : bm ≠ bo) (hg : g.many ≤ 199000000000000) {ts : List AV} (t0 : ts.length = 51) (g0 : getL ts 0 = some (.str s)) (g4 : getL ts 4 = some (.ptr ⟨bo, 0, 0⟩)) (g5 : getL ts 5 = some (.ptr ⟨bn, 0, 0⟩)) (g6 : getL ts 6 = some (.ptr ⟨bm, 0, 0⟩)) :
    ∀ (Q : Ex → St → Prop), (∀ ts' h' v', ts'.length = 51 → getL ts' 0 = some (.str s) → getL ts' 4 = some (.ptr ⟨bo, 0, 0⟩) → Pt h' bo (.cells 0 22 [v'] 0 false) → Ow lo h' v' (g.out ++ g.rest) → Fr (fun s => s = bo + 1 ∨ lo < s) h h' → Q .normal (ts', h')) → Wp TF sw13 (ts, h) Q := by
  intro Q hQ
  have hmx : 200000000000000 = maxRow := rfl
  obtain ⟨v, po, ho⟩ := V.out
  have pn := V.n
  have pm := V.many
  have hlo := V.lo
  have hlen := V.len
  have m0 := pn.1
  have m1 := pm.1
  have m2 := po.1
  rw [laid_eq t0 [(0, .str s), (4, .ptr ⟨bo, 0, 0⟩), (5, .ptr ⟨bn, 0, 0⟩), (6, .ptr ⟨bm, 0, 0⟩)] (by simp [g0, g4, g5, g6])]
  by_cases h2 : g.many % 4 = 2
  · have hr : g.rest = [UInt8.ofNat (g.n / 16)] := by simp only [Got.rest, if_pos h2]
    rw [hr] at hQ
    have m1 := po.1
    have m2 := ho.bq
    have k3 := ho.parts
    have m4 := pn.1
    have m5 := pm.1
    refine Wp.seq ?_
    refine Wp.region ?_
    refine Wo.val (AV.int IntKind.i64 ↑g.many) h (by kernel_rfl) (iop_ldP pm (a := { b := bm, g := 0, o := 0 }) (by kernel_rfl) rfl (by kernel_rfl)) ?_
    refine Wo.val (.int .i64 ((g.many % 4 : Nat) : Int)) _ (by kernel_rfl) (iop_rem4 (a := g.many) (by kernel_rfl) (by kernel_rfl)) ?_
    refine Wo.nil ?_
    refine Wp.block ?_
    refine Wp.seq ?_
    refine Wp.region ?_
    refine Wo.cmp (op := .eql) (x := IX.t 26) (y := IX.c (AV.int IntKind.i64 2)) (k := IntKind.i64) (a := ↑(g.many % 4)) (b := 2) ((↑(g.many % 4) : Int) = (2 : Int)) (by kernel_rfl) (by kernel_rfl) (by kernel_rfl) (by kernel_rfl) (by simp) (by kernel_rfl) (fun q6 => ?_) (fun q6 => ?_)
    rotate_left
    · (exfalso; omega)
    refine Wo.pre 1 (by kernel_rfl) ?_
    refine Wo.nil ?_
    refine Wp.cond true (by kernel_rfl) ?_
    refine Wp.region ?_
    refine Wo.val (v) h (by kernel_rfl) (iop_ldP po (a := { b := bo, g := 0, o := 0 }) (by kernel_rfl) rfl (by kernel_rfl)) ?_
    refine Wo.val (AV.int IntKind.u32 ↑g.n) h (by kernel_rfl) (iop_ldP pn (a := { b := bn, g := 0, o := 0 }) (by kernel_rfl) rfl (by kernel_rfl)) ?_
    refine Wo.val (.int .u32 ((g.n / 16 : Nat) : Int)) _ (by kernel_rfl) (iop_shrU (a := g.n) (i := 4) (by kernel_rfl) (by kernel_rfl) (by omega) (by kernel_rfl)) ?_
    refine Wo.val (.int .u8 ((UInt8.ofNat (g.n / 16)).toNat : Int)) _ (by kernel_rfl) (iop_cvU8 (a := g.n / 16) (by kernel_rfl)) ?_
    (refine Wo.lit1 (UInt8.ofNat (g.n / 16)) rfl (by kernel_rfl) (by kernel_rfl) (fun Ha Xa Oa => ?_); have na := Xa.1; have qa := Oa.bq; have pa := Oa.parts)
    have F7 := (ho.fr Xa (.inr id))
    obtain ⟨v8, H9, a10, q11, X12, q13⟩ := Ow.appF (lo := lo) F7 Oa.bs (by first | omega | (simp; omega) | (simp; done) | assumption) (by first | omega | (simp; omega) | (simp; done) | assumption)
    refine Wo.val _ _ (by kernel_rfl) (iop_appG (v := v) (w := AV.sl { b := h.n, g := 0, o := 0 } 1 (Cp.ex 1)) (by kernel_rfl) (by kernel_rfl) rfl a10) ?_
    have m14 := q11.bq
    have k15 := q11.parts
    have m16 := X12.1
    have F17 := (po.fr (Xa.transL X12) (by have d0 := m2.1.e; (first | omega | (intro s hs; omega) | (dsimp only; omega) | (intro s hs; dsimp only at hs; omega) | (simp only [blk_nils, blk_sl]; omega) | (intro s hs; simp only [blk_nils, blk_sl] at hs ⊢; omega) | (simp; done))))
    obtain ⟨H18, e18, P18, X18, n18⟩ := F17.st 0 [v8] (by simp) (ones_cons k15.2.1 ones_nil)
    refine Wo.val .undef H18 (by kernel_rfl) (iop_stP (a := { b := bo, g := 0, o := 0 }) (v := v8) (vs := [v8]) (by kernel_rfl) (by kernel_rfl) k15.1 rfl e18) ?_
    have m19 := X18.1
    replace P18 : Pt H18 bo (Blk.cells 0 22 [v8] 0 false) := P18
    refine Wo.nil ?_
    exact hQ _ _ _ (by kernel_rfl) (by kernel_rfl) (by kernel_rfl) P18 (q11.fr X18 (by have d0 := m14.1.e; (first | omega | (intro s hs; omega) | (dsimp only; omega) | (intro s hs; dsimp only at hs; omega) | (simp only [blk_nils, blk_sl]; omega) | (intro s hs; simp only [blk_nils, blk_sl] at hs ⊢; omega) | (simp; done)))) (((Xa.transL X12).trans X18).mono (by have d0 := m2.1.e; intro s hb hs; first | omega | (dsimp only at hs ⊢; omega) | (simp only [blk_nils, blk_sl] at hs ⊢; omega)))
  · by_cases h3 : g.many % 4 = 3
    · have hr : g.rest = [UInt8.ofNat (g.n / 1024), UInt8.ofNat (g.n / 4)] := by simp only [Got.rest, if_neg h2, if_pos h3]
      rw [hr] at hQ
      have m1 := po.1
      have m2 := ho.bq
      have k3 := ho.parts
      have m4 := pn.1
      have m5 := pm.1
      refine Wp.seq ?_
      refine Wp.region ?_
      refine Wo.val (AV.int IntKind.i64 ↑g.many) h (by kernel_rfl) (iop_ldP pm (a := { b := bm, g := 0, o := 0 }) (by kernel_rfl) rfl (by kernel_rfl)) ?_
      refine Wo.val (.int .i64 ((g.many % 4 : Nat) : Int)) _ (by kernel_rfl) (iop_rem4 (a := g.many) (by kernel_rfl) (by kernel_rfl)) ?_
      refine Wo.nil ?_
      refine Wp.block ?_
      refine Wp.seq ?_
      refine Wp.region ?_
      refine Wo.cmp (op := .eql) (x := IX.t 26) (y := IX.c (AV.int IntKind.i64 2)) (k := IntKind.i64) (a := ↑(g.many % 4)) (b := 2) ((↑(g.many % 4) : Int) = (2 : Int)) (by kernel_rfl) (by kernel_rfl) (by kernel_rfl) (by kernel_rfl) (by simp) (by kernel_rfl) (fun q6 => ?_) (fun q6 => ?_)
      · (exfalso; omega)
      refine Wo.pre 1 (by kernel_rfl) ?_
      refine Wo.nil ?_
      refine Wp.cond false (by kernel_rfl) ?_
      refine Wp.seq ?_
      refine Wp.region ?_
      refine Wo.cmp (op := .eql) (x := IX.t 26) (y := IX.c (AV.int IntKind.i64 3)) (k := IntKind.i64) (a := ↑(g.many % 4)) (b := 3) ((↑(g.many % 4) : Int) = (3 : Int)) (by kernel_rfl) (by kernel_rfl) (by kernel_rfl) (by kernel_rfl) (by simp) (by kernel_rfl) (fun q7 => ?_) (fun q7 => ?_)
      rotate_left
      · (exfalso; omega)
      refine Wo.pre 1 (by kernel_rfl) ?_
      refine Wo.nil ?_
      refine Wp.cond true (by kernel_rfl) ?_
      refine Wp.region ?_
      refine Wo.val (v) h (by kernel_rfl) (iop_ldP po (a := { b := bo, g := 0, o := 0 }) (by kernel_rfl) rfl (by kernel_rfl)) ?_
      refine Wo.val (AV.int IntKind.u32 ↑g.n) h (by kernel_rfl) (iop_ldP pn (a := { b := bn, g := 0, o := 0 }) (by kernel_rfl) rfl (by kernel_rfl)) ?_
      refine Wo.val (.int .u32 ((g.n / 1024 : Nat) : Int)) _ (by kernel_rfl) (iop_shrU (a := g.n) (i := 10) (by kernel_rfl) (by kernel_rfl) (by omega) (by kernel_rfl)) ?_
      refine Wo.val (.int .u8 ((UInt8.ofNat (g.n / 1024)).toNat : Int)) _ (by kernel_rfl) (iop_cvU8 (a := g.n / 1024) (by kernel_rfl)) ?_
      refine Wo.val (AV.int IntKind.u32 ↑g.n) h (by kernel_rfl) (iop_ldP pn (a := { b := bn, g := 0, o := 0 }) (by kernel_rfl) rfl (by kernel_rfl)) ?_
      refine Wo.val (.int .u32 ((g.n / 4 : Nat) : Int)) _ (by kernel_rfl) (iop_shrU (a := g.n) (i := 2) (by kernel_rfl) (by kernel_rfl) (by omega) (by kernel_rfl)) ?_
      refine Wo.val (.int .u8 ((UInt8.ofNat (g.n / 4)).toNat : Int)) _ (by kernel_rfl) (iop_cvU8 (a := g.n / 4) (by kernel_rfl)) ?_
      (refine Wo.lit2 (UInt8.ofNat (g.n / 1024)) (UInt8.ofNat (g.n / 4)) rfl (by kernel_rfl) (by kernel_rfl) (by kernel_rfl) (fun Ha Xa Oa => ?_); have na := Xa.1; have qa := Oa.bq; have pa := Oa.parts)
      have F8 := (ho.fr Xa (.inr id))
      obtain ⟨v9, H10, a11, q12, X13, q14⟩ := Ow.appF (lo := lo) F8 Oa.bs (by first | omega | (simp; omega) | (simp; done) | assumption) (by first | omega | (simp; omega) | (simp; done) | assumption)
      refine Wo.val _ _ (by kernel_rfl) (iop_appG (v := v) (w := AV.sl { b := h.n, g := 0, o := 0 } 2 (Cp.ex 2)) (by kernel_rfl) (by kernel_rfl) rfl a11) ?_
      have m15 := q12.bq
      have k16 := q12.parts
      have m17 := X13.1
      have F18 := (po.fr (Xa.transL X13) (by have d0 := m2.1.e; (first | omega | (intro s hs; omega) | (dsimp only; omega) | (intro s hs; dsimp only at hs; omega) | (simp only [blk_nils, blk_sl]; omega) | (intro s hs; simp only [blk_nils, blk_sl] at hs ⊢; omega) | (simp; done))))
      obtain ⟨H19, e19, P19, X19, n19⟩ := F18.st 0 [v9] (by simp) (ones_cons k16.2.1 ones_nil)
      refine Wo.val .undef H19 (by kernel_rfl) (iop_stP (a := { b := bo, g := 0, o := 0 }) (v := v9) (vs := [v9]) (by kernel_rfl) (by kernel_rfl) k16.1 rfl e19) ?_
      have m20 := X19.1
      replace P19 : Pt H19 bo (Blk.cells 0 22 [v9] 0 false) := P19
      refine Wo.nil ?_
      exact hQ _ _ _ (by kernel_rfl) (by kernel_rfl) (by kernel_rfl) P19 (q12.fr X19 (by have d0 := m15.1.e; (first | omega | (intro s hs; omega) | (dsimp only; omega) | (intro s hs; dsimp only at hs; omega) | (simp only [blk_nils, blk_sl]; omega) | (intro s hs; simp only [blk_nils, blk_sl] at hs ⊢; omega) | (simp; done)))) (((Xa.transL X13).trans X19).mono (by have d0 := m2.1.e; intro s hb hs; first | omega | (dsimp only at hs ⊢; omega) | (simp only [blk_nils, blk_sl] at hs ⊢; omega)))
    · have hr : g.out ++ g.rest = g.out := by simp only [Got.rest, if_neg h2, if_neg h3, List.append_nil]
      rw [hr] at hQ
      have m1 := po.1
      have m2 := ho.bq
      have k3 := ho.parts
      have m4 := pn.1
      have m5 := pm.1
      refine Wp.seq ?_
      refine Wp.region ?_
      refine Wo.val (AV.int IntKind.i64 ↑g.many) h (by kernel_rfl) (iop_ldP pm (a := { b := bm, g := 0, o := 0 }) (by kernel_rfl) rfl (by kernel_rfl)) ?_
      refine Wo.val (.int .i64 ((g.many % 4 : Nat) : Int)) _ (by kernel_rfl) (iop_rem4 (a := g.many) (by kernel_rfl) (by kernel_rfl)) ?_
      refine Wo.nil ?_
      refine Wp.block ?_
      refine Wp.seq ?_
      refine Wp.region ?_
      refine Wo.cmp (op := .eql) (x := IX.t 26) (y := IX.c (AV.int IntKind.i64 2)) (k := IntKind.i64) (a := ↑(g.many % 4)) (b := 2) ((↑(g.many % 4) : Int) = (2 : Int)) (by kernel_rfl) (by kernel_rfl) (by kernel_rfl) (by kernel_rfl) (by simp) (by kernel_rfl) (fun q6 => ?_) (fun q6 => ?_)
      · (exfalso; omega)
      refine Wo.pre 1 (by kernel_rfl) ?_
      refine Wo.nil ?_
      refine Wp.cond false (by kernel_rfl) ?_
      refine Wp.seq ?_
      refine Wp.region ?_
      refine Wo.cmp (op := .eql) (x := IX.t 26) (y := IX.c (AV.int IntKind.i64 3)) (k := IntKind.i64) (a := ↑(g.many % 4)) (b := 3) ((↑(g.many % 4) : Int) = (3 : Int)) (by kernel_rfl) (by kernel_rfl) (by kernel_rfl) (by kernel_rfl) (by simp) (by kernel_rfl) (fun q7 => ?_) (fun q7 => ?_)
      · (exfalso; omega)
      refine Wo.pre 1 (by kernel_rfl) ?_
      refine Wo.nil ?_
      refine Wp.cond false (by kernel_rfl) ?_
      refine Wp.skip ?_
      exact hQ _ _ _ (by kernel_rfl) (by kernel_rfl) (by kernel_rfl) po ho ((Fr.refl _).mono (by simp))

theorem Got.all_many : ∀ {l : List UInt8} {g g' : Got}, g.all l = some g' → g'.many = g.many + l.length := by
  intro l
  induction l with
  | nil => intro g g' h; simp only [Got.all, Option.some.injEq] at h; rw [h]; simp
  | cons c l ih =>
    intro g g' h
    cases hs : g.step c with
    | none => simp only [Got.all, hs] at h; cases h
    | some g2 =>
      rw [Got.go hs] at h
      have h3 := ih h
      have h4 : g2.many = g.many + 1 := by
        unfold Got.step at hs
        split at hs
        · cases hs
        · split at hs <;> (cases hs; rfl)
      rw [List.length_cons]; omega

set_option maxHeartbeats 8000000 in
theorem take_run {h : H} {s : List UInt8} (hs : s.length ≤ 199000000000000) : ∃ r h', Runs TF 13 [.str s] h r h' ∧ ((takeF s = none ∧ r = .tup [.nils, .int .i64 5]) ∨ ∃ v l, takeF s = some l ∧ r = .tup [v, .int .i64 0] ∧ Ext h h' ∧ Ow h.n h' v l) := by
  refine Runs.ofP f13 rfl ?_
  have ht := trim_run h s (by omega)
  refine Wp.seq ?_
  refine Wp.region ?_
  refine Wo.pre 2 (by kernel_rfl) ?_
  refine Wo.nil ?_
  refine Wp.seq ?_
  refine Wp.region ?_
  obtain ⟨H1, e1, P1, X1, n1⟩ := pt_new h 22 [AV.nils] (ones_cons rfl ones_nil)
  refine Wo.val (.ptr ⟨H.n h, 0, 0⟩) H1 (by kernel_rfl) (e1 (v := AV.nils) (by kernel_rfl) rfl) ?_
  clear e1
  have m2 := X1.1
  refine Wo.nil ?_
  refine Wp.seq ?_
  refine Wp.region ?_
  obtain ⟨H3, e3, P3, X3, n3⟩ := pt_new H1 68 [AV.int IntKind.u32 0] (ones_cons rfl ones_nil)
  refine Wo.val (.ptr ⟨H.n H1, 0, 0⟩) H3 (by kernel_rfl) (e3 (v := AV.int IntKind.u32 0) (by kernel_rfl) rfl) ?_
  clear e3
  have m4 := X3.1
  obtain ⟨H5, e5, P5, X5, n5⟩ := pt_new H3 3 [AV.int IntKind.i64 0] (ones_cons rfl ones_nil)
  refine Wo.val (.ptr ⟨H.n H3, 0, 0⟩) H5 (by kernel_rfl) (e5 (v := AV.int IntKind.i64 0) (by kernel_rfl) rfl) ?_
  clear e5
  have m6 := X5.1
  have F7 := (P3.fr X5 id)
  obtain ⟨H8, e8, P8, X8, n8⟩ := F7.st 0 [AV.int IntKind.u32 0] (by simp) (ones_cons rfl ones_nil)
  refine Wo.val .undef H8 (by kernel_rfl) (iop_stP (a := { b := H1.n, g := 0, o := 0 }) (v := AV.int IntKind.u32 0) (vs := [AV.int IntKind.u32 0]) (by kernel_rfl) (by kernel_rfl) rfl rfl e8) ?_
  have m9 := X8.1
  replace P8 : Pt H8 H1.n (Blk.cells 0 68 [AV.int IntKind.u32 0] 0 false) := P8
  have F10 := (P5.fr X8 (by (first | omega | (intro s hs; omega) | (dsimp only; omega) | (intro s hs; dsimp only at hs; omega) | (simp only [blk_nils, blk_sl]; omega) | (intro s hs; simp only [blk_nils, blk_sl] at hs ⊢; omega) | (simp; done))))
  obtain ⟨H11, e11, P11, X11, n11⟩ := F10.st 0 [AV.int IntKind.i64 0] (by simp) (ones_cons rfl ones_nil)
  refine Wo.val .undef H11 (by kernel_rfl) (iop_stP (a := { b := H3.n, g := 0, o := 0 }) (v := AV.int IntKind.i64 0) (vs := [AV.int IntKind.i64 0]) (by kernel_rfl) (by kernel_rfl) rfl rfl e11) ?_
  have m12 := X11.1
  replace P11 : Pt H11 H3.n (Blk.cells 0 3 [AV.int IntKind.i64 0] 0 false) := P11
  refine Wo.nil ?_
  refine Wp.seq ?_
  refine Wp.region ?_
  refine Wo.pre 2 (by kernel_rfl) ?_
  refine Wo.nil ?_
  refine Wp.seq ?_
  refine Wp.region ?_
  refine Wo.pre 1 (by kernel_rfl) ?_
  have c13 := trim_run (H11) (s) (by first | omega | (simp; omega) | (simp; done) | assumption)
  refine Wo.call (by kernel_rfl) (by kernel_rfl) c13 ?_
  clear c13
  refine Wo.pre 1 (by kernel_rfl) ?_
  refine Wo.nil ?_
  refine Wp.seq ?_
  refine Wp.seq ?_
  refine Wp.region ?_
  refine Wo.pre 3 (by kernel_rfl) ?_
  refine Wo.nil ?_
  refine Wp.block ?_
  have V : Vars h H5.n H1.n H3.n h.n ⟨0, 0, []⟩ H11 := by
    refine ⟨P8.fr X11 (fun (e : H1.n + 1 = H3.n + 1) => by omega), P11, ⟨.nils, (((P1.fr X3 id).fr X5 id).fr X8 (fun (e : h.n + 1 = H1.n + 1) => by omega)).fr X11 (fun (e : h.n + 1 = H3.n + 1) => by omega), Ow.nil0⟩, (by show 0 < 64 ^ 0; decide), ⟨by omega, fun b hb => ?_⟩, by omega, rfl⟩
    rw [X11.2 b (by omega) (fun (e : b + 1 = H3.n + 1) => by omega), X8.2 b (by omega) (fun (e : b + 1 = H1.n + 1) => by omega), X5.2 b (by omega) id, X3.2 b (by omega) id, X1.2 b hb id]
  have hbl : (Lib.trimRightB s 61).length ≤ 199000000000000 := by
    have : (Lib.trimRightB s 61).length ≤ s.length := by
      unfold Lib.trimRightB
      rw [List.length_reverse]
      refine Nat.le_trans (List.dropWhile_sublist _).length_le ?_
      rw [List.length_reverse]
      exact Nat.le_refl _
    omega
  refine take_loop (s := s) (by omega) (by omega) (by omega) (by omega) (by omega) (by omega) (by omega) (by omega) (by omega) hbl (Lib.trimRightB s 61) 0 rfl ⟨0, 0, []⟩ H11 V (Nat.le_refl _) _ (by kernel_rfl) (by kernel_rfl) (by kernel_rfl) (by kernel_rfl) (by kernel_rfl) (by kernel_rfl) (by kernel_rfl) (by kernel_rfl) (by kernel_rfl) _ ?_ ?_
  · intro ts' h' g' q1 V' t0 g0 g4 g5 g6
    have hsome : Ba.b64 (g'.out ++ g'.rest) = s → takeF s = some (g'.out ++ g'.rest) := fun e => by simp only [takeF, q1, if_pos e]
    have hnone : ¬ Ba.b64 (g'.out ++ g'.rest) = s → takeF s = none := fun e => by simp only [takeF, q1, if_neg e]
    have hm' : g'.many ≤ 199000000000000 := by have e := Got.all_many q1; have e2 : (⟨0, 0, []⟩ : Got).many = 0 := rfl; omega
    have hol := V'.len
    have hrl := g'.rest_len
    have hxe := V'.ext
    show Wp TF _ _ _
    refine Wp.seq (sw_run (s := s) V' (by omega) (by omega) (by omega) (by omega) (by omega) hm' t0 g0 g4 g5 g6 _ ?_)
    intro ts2 h2 v2 u0 u1 u2 p2 o2 x2
    have hE : Ext h h2 := ⟨Nat.le_trans hxe.1 x2.1, fun b hb => by rw [x2.2 b (Nat.lt_of_lt_of_le hb hxe.1) (by rintro (e | e) <;> omega)]; exact hxe.2 b hb⟩
    have o3 := o2.mono (lo' := h.n) (by omega)
    have b2 := o2.bs
    have hl2 : (g'.out ++ g'.rest).length ≤ 149500000000000 := by rw [List.length_append]; omega
    clear V V' X1 X3 X5 X8 X11 hxe x2 P8 P11
    show Wp TF _ _ _
    rw [laid_eq u0 [(0, .str s), (4, .ptr ⟨h.n, 0, 0⟩)] (by simp [u1, u2])]
    have m1 := P1.1
    have m2 := P3.1
    have m3 := P5.1
    have m4 := F7.1
    have m5 := F10.1
    have m6 := p2.1
    have m7 := o2.bq
    have k8 := o2.parts
    have m9 := o3.bq
    have k10 := o3.parts
    have m11 := b2.bq
    have k12 := b2.parts
    have m13 := hE.1
    refine Wp.seq ?_
    refine Wp.seq ?_
    refine Wp.region ?_
    refine Wo.val (v2) h2 (by kernel_rfl) (iop_ldP p2 (a := { b := h.n, g := 0, o := 0 }) (by kernel_rfl) rfl (by kernel_rfl)) ?_
    have c14 := put_run b2 hl2
    refine Wo.call (by kernel_rfl) (by kernel_rfl) c14 ?_
    clear c14
    refine Wo.pre 1 (by kernel_rfl) ?_
    refine Wo.cmpSN (x := IX.t 47) (y := IX.t 48) (a := Ba.b64 (g'.out ++ g'.rest)) (b := s) (by kernel_rfl) (by kernel_rfl) (by kernel_rfl) (by kernel_rfl) (fun q15 => ?_) (fun q15 => ?_)
    · skip
      refine Wo.nil ?_
      refine Wp.cond false (by kernel_rfl) ?_
      refine Wp.skip ?_
      refine Wp.seq ?_
      refine Wp.region ?_
      refine Wo.val (v2) h2 (by kernel_rfl) (iop_ldP p2 (a := { b := h.n, g := 0, o := 0 }) (by kernel_rfl) rfl (by kernel_rfl)) ?_
      refine Wo.pre 2 (by kernel_rfl) ?_
      refine Wo.nil ?_
      refine Wp.ret ?_
      refine ⟨.inr rfl, (.tup [v2, AV.int IntKind.i64 0]), (ret_many (res_tmp (by kernel_rfl) (res_tmp (by kernel_rfl) res_nil)) rfl), ?_⟩
      dsimp only
      exact .inr ⟨_, _, hsome (by with_reducible assumption), rfl, hE, o3⟩
    · skip
      refine Wo.nil ?_
      refine Wp.cond true (by kernel_rfl) ?_
      refine Wp.seq ?_
      refine Wp.region ?_
      refine Wo.pre 2 (by kernel_rfl) ?_
      refine Wo.nil ?_
      refine Wp.ret ?_
      refine ⟨.inr rfl, (.tup [AV.nils, AV.int IntKind.i64 5]), (ret_many (res_tmp (by kernel_rfl) (res_tmp (by kernel_rfl) res_nil)) rfl), ?_⟩
      dsimp only
      exact .inl ⟨hnone (by with_reducible assumption), rfl⟩
  · intro ts' h' q1 t2 t3
    have hn : takeF s = none := by simp only [takeF, q1]
    exact ⟨.inr rfl, .tup [.nils, .int .i64 5], ret_many (res_tmp (by rw [t2]; rfl) (res_tmp (by rw [t3]; rfl) res_nil)) rfl, .inl ⟨hn, rfl⟩⟩
end Go.Det
