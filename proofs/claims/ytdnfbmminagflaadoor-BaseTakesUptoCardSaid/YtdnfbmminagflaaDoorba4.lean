/- Base: texts read: the closure's fourth letter (work: does not build yet). -/
import Derived.Test.YtdnfbmminagflaaDoorba3
set_option linter.unusedVariables false
set_option linter.unusedSimpArgs false
set_option linter.unusedSectionVars false
namespace Go.Det
open Go.Proofs
attribute [local irreducible] Wp Wo Wd iop ev slots quiets wanted put

def sndC : IC → IC
  | .seq _ b => b
  | c => c
/-- What stands behind the test of the closure. -/
def tail32 : IC := sndC (sndC (sndC (sndC (sndC ir32.body))))

theorem iop_shrU {x y : IX} {ρ : IX → AV} {h : H} {a i M : Nat} (hx : ρ x = .int .u32 a) (hy : ρ y = .int .u64 i) (hi : i ≤ 32) (hM : 2 ^ i = M) : iop (.bin .shr x y) ρ h = some (.val (.int .u32 ((a / M : Nat) : Int)) h) := by
  have e : Int.fdiv (a : Int) (2 ^ i) = ((a / M : Nat) : Int) := by
    have e0 : ((2 : Int) ^ i) = ((2 ^ i : Nat) : Int) := by simp
    rw [e0, hM, Int.fdiv_eq_ediv_of_nonneg _ (by omega), ← Int.natCast_ediv]
  have e2 : min (i : Int).toNat IntKind.u32.bits = i := by
    rw [Int.toNat_natCast]
    exact Nat.min_eq_left hi
  have e3 : ¬ (i : Int) < 0 := by omega
  simp only [iop, binop, hx, hy, shInt]
  rw [if_neg e3, e2, e]
  rfl
theorem iop_cvU8 {x : IX} {ρ : IX → AV} {h : H} {a : Nat} (hx : ρ x = .int .u32 a) : iop (.cvI .u8 x) ρ h = some (.val (.int .u8 ((UInt8.ofNat a).toNat : Int)) h) := by
  simp only [iop, hx, asI, Option.map_some]
  congr 3
theorem Wo.lit3 {o : IOper} {x y z : IX} {l : List IOper} {ts : List AV} {h : H} {Q : List AV → H → Prop} (a b c : UInt8) (ho : o.op = .bsl 5 [.int .u8 0, .int .u8 0, .int .u8 0] 3 [(0, 1, x), (1, 1, y), (2, 1, z)]) (hg : wanted o.guard ts = true) (hx : ev ts x = .int .u8 a.toNat) (hy : ev ts y = .int .u8 b.toNat) (hz : ev ts z = .int .u8 c.toNat)
    (hQ : ∀ H', Fr No h H' → Ow h.n H' (.sl ⟨h.n, 0, 0⟩ 3 (.ex 3)) [a, b, c] → Wo TF l (put ts o.dst (.sl ⟨h.n, 0, 0⟩ 3 (.ex 3))) H' Q) : Wo TF (o :: l) ts h Q := by
  have hi : iop o.op (ev ts) h = some (.val (.sl ⟨h.n, 0, 0⟩ 3 (.ex 3)) (h.new (.cells 0 5 (bytesAV [a, b, c]) 0 false))) := by
    rw [ho]
    simp [iop, fillL, hx, hy, hz, AV.cells, putAt, AV.one, bytesAV]
  exact Wo.val _ _ hg hi (hQ _ (Ext.new h _).fr (.inr ⟨h.n, 0, Nat.le_refl _, by simp, h.get_new _, .inr rfl⟩))

set_option maxHeartbeats 8000000 in
/-- The fourth letter: three bytes more. -/
theorem next_tail {lo : Nat} {h : H} {bn bo N : Nat} {v : AV} {out : List UInt8} {ts : List AV} (t0 : ts.length = 32) (g1 : getL ts 1 = some (.ptr ⟨bn, 0, 0⟩)) (g3 : getL ts 3 = some (.ptr ⟨bo, 0, 0⟩)) (pn : Pt h bn (.cells 0 68 [.int .u32 N] 0 false)) (po : Pt h bo (.cells 0 22 [v] 0 false)) (ho : Ow lo h v out) (hlo : lo ≤ h.n) (hbn : bn < lo) (hbo : bo < lo) (hd : bn ≠ bo) (hl : out.length ≤ 199000000000000) :
    Wp TF tail32 (ts, h) (fun e s => e = .ret ∧ getL s.1 5 = some (.bool true) ∧ ∃ v', Pt s.2 bn (.cells 0 68 [.int .u32 0] 0 false) ∧ Pt s.2 bo (.cells 0 22 [v'] 0 false) ∧ Ow lo s.2 v' (out ++ tri N) ∧ Fr (fun s => s = bn + 1 ∨ s = bo + 1 ∨ s = blk v) h s.2) := by
  have hmx : 200000000000000 = maxRow := rfl
  have m0 := pn.1
  have m1 := po.1
  rw [laid_eq t0 [(1, .ptr ⟨bn, 0, 0⟩), (3, .ptr ⟨bo, 0, 0⟩)] (by simp [g1, g3])]
  have m1 := pn.1
  have m2 := po.1
  have m3 := ho.bq
  have k4 := ho.parts
  refine Wp.seq ?_
  refine Wp.region ?_
  refine Wo.val (v) h (by kernel_rfl) (iop_ldP po (a := { b := bo, g := 0, o := 0 }) (by kernel_rfl) rfl (by kernel_rfl)) ?_
  refine Wo.val (AV.int IntKind.u32 ↑N) h (by kernel_rfl) (iop_ldP pn (a := { b := bn, g := 0, o := 0 }) (by kernel_rfl) rfl (by kernel_rfl)) ?_
  refine Wo.val (.int .u32 ((N / 65536 : Nat) : Int)) _ (by kernel_rfl) (iop_shrU (a := N) (i := 16) (by kernel_rfl) (by kernel_rfl) (by omega) (by kernel_rfl)) ?_
  refine Wo.val (.int .u8 ((UInt8.ofNat (N / 65536)).toNat : Int)) _ (by kernel_rfl) (iop_cvU8 (a := N / 65536) (by kernel_rfl)) ?_
  refine Wo.val (AV.int IntKind.u32 ↑N) h (by kernel_rfl) (iop_ldP pn (a := { b := bn, g := 0, o := 0 }) (by kernel_rfl) rfl (by kernel_rfl)) ?_
  refine Wo.val (.int .u32 ((N / 256 : Nat) : Int)) _ (by kernel_rfl) (iop_shrU (a := N) (i := 8) (by kernel_rfl) (by kernel_rfl) (by omega) (by kernel_rfl)) ?_
  refine Wo.val (.int .u8 ((UInt8.ofNat (N / 256)).toNat : Int)) _ (by kernel_rfl) (iop_cvU8 (a := N / 256) (by kernel_rfl)) ?_
  refine Wo.val (AV.int IntKind.u32 ↑N) h (by kernel_rfl) (iop_ldP pn (a := { b := bn, g := 0, o := 0 }) (by kernel_rfl) rfl (by kernel_rfl)) ?_
  refine Wo.val (.int .u8 ((UInt8.ofNat N).toNat : Int)) _ (by kernel_rfl) (iop_cvU8 (a := N) (by kernel_rfl)) ?_
  (refine Wo.lit3 (UInt8.ofNat (N / 65536)) (UInt8.ofNat (N / 256)) (UInt8.ofNat N) rfl (by kernel_rfl) (by kernel_rfl) (by kernel_rfl) (by kernel_rfl) (fun Ha Xa Oa => ?_); have na := Xa.1; have qa := Oa.bq; have pa := Oa.parts)
  have F5 := (ho.fr Xa (.inr id))
  obtain ⟨v6, H7, a8, q9, X10, q11⟩ := Ow.appF (lo := lo) F5 Oa.bs (by first | omega | (simp; omega) | (simp; done) | assumption) (by first | omega | (simp; omega) | (simp; done) | assumption)
  refine Wo.val _ _ (by kernel_rfl) (iop_appG (v := v) (w := AV.sl { b := h.n, g := 0, o := 0 } 3 (Cp.ex 3)) (by kernel_rfl) (by kernel_rfl) rfl a8) ?_
  have m12 := q9.bq
  have k13 := q9.parts
  have m14 := X10.1
  have F15 := (po.fr (Xa.transL X10) (by have d0 := m3.1.e; (first | omega | (intro s hs; omega) | (dsimp only; omega) | (intro s hs; dsimp only at hs; omega) | (simp only [blk_nils, blk_sl]; omega) | (intro s hs; simp only [blk_nils, blk_sl] at hs ⊢; omega) | (simp; done))))
  obtain ⟨H16, e16, P16, X16, n16⟩ := F15.st 0 [v6] (by simp) (ones_cons k13.2.1 ones_nil)
  refine Wo.val .undef H16 (by kernel_rfl) (iop_stP (a := { b := bo, g := 0, o := 0 }) (v := v6) (vs := [v6]) (by kernel_rfl) (by kernel_rfl) k13.1 rfl e16) ?_
  have m17 := X16.1
  replace P16 : Pt H16 bo (Blk.cells 0 22 [v6] 0 false) := P16
  refine Wo.nil ?_
  refine Wp.seq ?_
  refine Wp.region ?_
  have F18 := (pn.fr ((Xa.transL X10).trans X16) (by have d0 := m3.1.e; (first | omega | (intro s hs; omega) | (dsimp only; omega) | (intro s hs; dsimp only at hs; omega) | (simp only [blk_nils, blk_sl]; omega) | (intro s hs; simp only [blk_nils, blk_sl] at hs ⊢; omega) | (simp; done))))
  obtain ⟨H19, e19, P19, X19, n19⟩ := F18.st 0 [AV.int IntKind.u32 0] (by simp) (ones_cons rfl ones_nil)
  refine Wo.val .undef H19 (by kernel_rfl) (iop_stP (a := { b := bn, g := 0, o := 0 }) (v := AV.int IntKind.u32 0) (vs := [AV.int IntKind.u32 0]) (by kernel_rfl) (by kernel_rfl) rfl rfl e19) ?_
  have m20 := X19.1
  replace P19 : Pt H19 bn (Blk.cells 0 68 [AV.int IntKind.u32 0] 0 false) := P19
  refine Wo.nil ?_
  refine Wp.seq ?_
  refine Wp.region ?_
  refine Wo.pre 1 (by kernel_rfl) ?_
  refine Wo.nil ?_
  refine Wp.ret ?_
  exact ⟨rfl, (by kernel_rfl), _, P19, (P16.fr X19 (by (first | omega | (intro s hs; omega) | (dsimp only; omega) | (intro s hs; dsimp only at hs; omega) | (simp only [blk_nils, blk_sl]; omega) | (intro s hs; simp only [blk_nils, blk_sl] at hs ⊢; omega) | (simp; done)))), (q9.fr (X16.trans X19) (by have d0 := m12.1.e; (first | omega | (intro s hs; omega) | (dsimp only; omega) | (intro s hs; dsimp only at hs; omega) | (simp only [blk_nils, blk_sl]; omega) | (intro s hs; simp only [blk_nils, blk_sl] at hs ⊢; omega) | (simp; done)))), ((((Xa.transL X10).trans X16).trans X19).mono (by have d0 := m3.1.e; intro s hb hs; first | omega | (dsimp only at hs ⊢; omega) | (simp only [blk_nils, blk_sl] at hs ⊢; omega)))⟩

theorem next_cut {lo : Nat} {h H4 H7 : H} {bn bm bo n k many : Nat} {v : AV} {out : List UInt8} {ts : List AV} (hn : n < 262144) (hk : k < 64) (hd1 : bn ≠ bm) (hd2 : bn ≠ bo) (hd3 : bm ≠ bo) (hbn : bn < lo) (hbm : bm < lo) (hbo : bo < lo) (hlo : lo ≤ h.n) (hl : out.length ≤ 199000000000000)
    (P4 : Pt H4 bn (.cells 0 68 [.int .u32 (IntKind.u32.wrap (((BitVec.ofInt IntKind.u32.bits (IntKind.u32.wrap ((n : Int) * 2 ^ min (Int.toNat 6) IntKind.u32.bits)) ||| BitVec.ofInt IntKind.u32.bits (k : Int)).toNat : Nat) : Int))] 0 false)) (X4 : Fr (fun s => s = bn + 1) h H4) (P7 : Pt H7 bm (.cells 0 3 [.int .i64 ((many : Int) + 1)] 0 false)) (X7 : Fr (fun s => s = bm + 1) H4 H7) (po : Pt h bo (.cells 0 22 [v] 0 false)) (ho : Ow lo h v out)
    (t0 : ts.length = 32) (g1 : getL ts 1 = some (.ptr ⟨bn, 0, 0⟩)) (g3 : getL ts 3 = some (.ptr ⟨bo, 0, 0⟩)) {Q : Ex → St → Prop}
    (hQ : ∀ ts' h' v', getL ts' 5 = some (.bool true) → Pt h' bn (.cells 0 68 [.int .u32 0] 0 false) → Pt h' bm (.cells 0 3 [.int .i64 ((many + 1 : Nat) : Int)] 0 false) → Pt h' bo (.cells 0 22 [v'] 0 false) → Ow lo h' v' (out ++ tri (n * 64 + k)) → Fr (fun s => s = bn + 1 ∨ s = bm + 1 ∨ s = bo + 1 ∨ s = blk v) h h' → Q .ret (ts', h')) : Wp TF tail32 (ts, H7) Q := by
  have hb := ho.bq
  have pn7 := pt_shl hn hk (P4.fr X7 (fun e => hd1 (Nat.succ.inj e)))
  have po7 := (po.fr X4 (fun e => hd2 (Nat.succ.inj e).symm)).fr X7 (fun e => hd3 (Nat.succ.inj e).symm)
  have ho7 : Ow lo H7 v out := (ho.fr X4 (by rcases ho.bd.1 with e | e; exact .inl e; exact .inr (fun (q : blk v = bn + 1) => by omega))).fr X7 (by rcases ho.bd.1 with e | e; exact .inl e; exact .inr (fun (q : blk v = bm + 1) => by omega))
  refine Wp.mono (next_tail t0 g1 g3 pn7 po7 ho7 (by have := X4.1; have := X7.1; omega) hbn hbo hd2 hl) ?_
  rintro e ⟨ts', h'⟩ ⟨rfl, q5, v', q1, q2, q3, q4⟩
  refine hQ ts' h' v' q5 q1 ((pt_cast P7).fr q4 ?_) q2 q3 ?_
  · rintro (e | e | e)
    · exact hd1 (Nat.succ.inj e).symm
    · exact hd3 (Nat.succ.inj e)
    · have := ho.bd; omega
  · refine ⟨Nat.le_trans X4.1 (Nat.le_trans X7.1 q4.1), fun b hb1 hb2 => ?_⟩
    rw [q4.2 b (Nat.lt_of_lt_of_le hb1 (Nat.le_trans X4.1 X7.1)) (fun e => hb2 (by rcases e with e | e | e; exact .inl e; exact .inr (.inr (.inl e)); exact .inr (.inr (.inr e))))]
    rw [X7.2 b (Nat.lt_of_lt_of_le hb1 X4.1) (fun e => hb2 (.inr (.inl e))), X4.2 b hb1 (fun e => hb2 (.inl e))]

set_option maxHeartbeats 8000000 in
/-- The fourth letter. -/
theorem next_full {lo : Nat} {h : H} {bn bm bo n many k : Nat} {v : AV} {out : List UInt8} {c : UInt8} (pn : Pt h bn (.cells 0 68 [.int .u32 n] 0 false)) (pm : Pt h bm (.cells 0 3 [.int .i64 many] 0 false)) (po : Pt h bo (.cells 0 22 [v] 0 false)) (ho : Ow lo h v out) (hd1 : bn ≠ bm) (hd2 : bn ≠ bo) (hd3 : bm ≠ bo) (hbn : bn < lo) (hbm : bm < lo) (hbo : bo < lo) (hlo : lo ≤ h.n) (hl : out.length ≤ 199000000000000)
    (hc : Lib.indexByte Ba.table c = (k : Int)) (hk : k < 64) (hn : n < 262144) (hm : many < 4611686018427387904) (h4 : (many + 1) % 4 = 0) :
    ∃ r h', Runs TF 32 [.int .u8 c.toNat, .ptr ⟨bn, 0, 0⟩, .ptr ⟨bm, 0, 0⟩, .ptr ⟨bo, 0, 0⟩] h r h' ∧ r = .bool true ∧ ∃ v', Pt h' bn (.cells 0 68 [.int .u32 0] 0 false) ∧ Pt h' bm (.cells 0 3 [.int .i64 ((many + 1 : Nat) : Int)] 0 false) ∧ Pt h' bo (.cells 0 22 [v'] 0 false) ∧ Ow lo h' v' (out ++ tri (n * 64 + k)) ∧ Fr (fun s => s = bn + 1 ∨ s = bm + 1 ∨ s = bo + 1 ∨ s = blk v) h h' := by
  refine Runs.ofP f32 rfl ?_
  have m0 := pn.1
  have m1 := pm.1
  have hi := index_run h Ba.table c
  rw [hc] at hi
  have m1 := pn.1
  have m2 := pm.1
  have m3 := po.1
  have m4 := ho.bq
  have k5 := ho.parts
  refine Wp.seq ?_
  refine Wp.region ?_
  refine Wo.pre 1 (by kernel_rfl) ?_
  refine Wo.nil ?_
  refine Wp.seq ?_
  refine Wp.region ?_
  refine Wo.pre 1 (by kernel_rfl) ?_
  refine Wo.call (by kernel_rfl) (by kernel_rfl) hi ?_
  clear hi
  refine Wo.pre 1 (by kernel_rfl) ?_
  refine Wo.nil ?_
  refine Wp.seq ?_
  refine Wp.seq ?_
  refine Wp.region ?_
  refine Wo.pre 1 (by kernel_rfl) ?_
  refine Wo.cmp (op := .lss) (x := IX.t 9) (y := IX.c (AV.int IntKind.i64 0)) (k := IntKind.i64) (a := ↑k) (b := 0) ((↑k : Int) < (0 : Int)) (by kernel_rfl) (by kernel_rfl) (by kernel_rfl) (by kernel_rfl) (by simp) (by kernel_rfl) (fun q6 => ?_) (fun q6 => ?_)
  · (exfalso; omega)
  refine Wo.nil ?_
  refine Wp.cond false (by kernel_rfl) ?_
  refine Wp.skip ?_
  refine Wp.seq ?_
  refine Wp.draw ?_
  refine Wd.read (AV.int IntKind.u32 ↑n) (.ld (none) (.c (.ptr { b := bn, g := 0, o := 0 }))) (by kernel_rfl) (by kernel_rfl) (iop_ldP pn (a := { b := bn, g := 0, o := 0 }) (by kernel_rfl) rfl (by kernel_rfl)) ?_
  refine Wd.pure (by kernel_rfl) (by kernel_rfl) ?_
  refine Wd.pure (by kernel_rfl) (by kernel_rfl) ?_
  refine Wd.make (.int IntKind.u32 (↑k)) h (by kernel_rfl) (by kernel_rfl) (iop_cvIfit (k := IntKind.u32) (kk := IntKind.i64) (a := ↑k) (by kernel_rfl) (by simp only [min_u32]; omega) (by simp only [max_u32]; omega)) ?_
  refine Wd.pure (by kernel_rfl) (by kernel_rfl) ?_
  refine Wd.read (AV.int IntKind.i64 ↑many) (.ld (none) (.c (.ptr { b := bm, g := 0, o := 0 }))) (by kernel_rfl) (by kernel_rfl) (iop_ldP pm (a := { b := bm, g := 0, o := 0 }) (by kernel_rfl) rfl (by kernel_rfl)) ?_
  refine Wd.make (.int IntKind.i64 ((↑many : Int) + (1 : Int))) h (by kernel_rfl) (by kernel_rfl) (iop_arith (op := .add) (a := ↑many) (b := 1) (by kernel_rfl) (by kernel_rfl) (by simp) (bin_add IntKind.i64 (by simp only [min_i64]; omega) (by simp only [max_i64]; omega))) ?_
  obtain ⟨H7, e7, P7, X7, n7⟩ := pn.st 0 [AV.int IntKind.u32 (IntKind.u32.wrap ↑(BitVec.ofInt IntKind.u32.bits (IntKind.u32.wrap (↑n * 2 ^ min (Int.toNat 6) IntKind.u32.bits)) ||| BitVec.ofInt IntKind.u32.bits ↑k).toNat)] (by simp) (ones_cons rfl ones_nil)
  refine Wd.act .undef H7 (by kernel_rfl) (iop_stP (a := { b := bn, g := 0, o := 0 }) (v := AV.int IntKind.u32 (IntKind.u32.wrap ↑(BitVec.ofInt IntKind.u32.bits (IntKind.u32.wrap (↑n * 2 ^ min (Int.toNat 6) IntKind.u32.bits)) ||| BitVec.ofInt IntKind.u32.bits ↑k).toNat)) (vs := [AV.int IntKind.u32 (IntKind.u32.wrap ↑(BitVec.ofInt IntKind.u32.bits (IntKind.u32.wrap (↑n * 2 ^ min (Int.toNat 6) IntKind.u32.bits)) ||| BitVec.ofInt IntKind.u32.bits ↑k).toNat)]) (by kernel_rfl) (by kernel_rfl) rfl rfl e7) (holds_of [(IOp.ld none (IX.c (AV.ptr { b := bm, g := 0, o := 0 })), AV.int IntKind.i64 ↑many, 5), (IOp.ld none (IX.c (AV.ptr { b := bn, g := 0, o := 0 })), AV.int IntKind.u32 ↑n, 0)] (by kernel_rfl) (holds_and (rd_ldP pm rfl (by kernel_rfl)) (holds_and (rd_ldP pn rfl (by kernel_rfl)) rfl))) ?_
  have m8 := X7.1
  replace P7 : Pt H7 bn (Blk.cells 0 68 [AV.int IntKind.u32 (IntKind.u32.wrap ↑(BitVec.ofInt IntKind.u32.bits (IntKind.u32.wrap (↑n * 2 ^ min (Int.toNat 6) IntKind.u32.bits)) ||| BitVec.ofInt IntKind.u32.bits ↑k).toNat)] 0 false) := P7
  have F9 := (pm.fr X7 (by (first | omega | (intro s hs; omega) | (dsimp only; omega) | (intro s hs; dsimp only at hs; omega) | (simp only [blk_nils, blk_sl]; omega) | (intro s hs; simp only [blk_nils, blk_sl] at hs ⊢; omega) | (simp; done))))
  obtain ⟨H10, e10, P10, X10, n10⟩ := F9.st 0 [AV.int IntKind.i64 (↑many + 1)] (by simp) (ones_cons rfl ones_nil)
  refine Wd.act .undef H10 (by kernel_rfl) (iop_stP (a := { b := bm, g := 0, o := 0 }) (v := AV.int IntKind.i64 (↑many + 1)) (vs := [AV.int IntKind.i64 (↑many + 1)]) (by kernel_rfl) (by kernel_rfl) rfl rfl e10) (holds_of [(IOp.ld none (IX.c (AV.ptr { b := bm, g := 0, o := 0 })), AV.int IntKind.i64 ↑many, 5)] (by kernel_rfl) (holds_and (rd_ldP F9 rfl (by kernel_rfl)) rfl)) ?_
  have m11 := X10.1
  replace P10 : Pt H10 bm (Blk.cells 0 3 [AV.int IntKind.i64 (↑many + 1)] 0 false) := P10
  refine Wd.done (holds_of [] (by kernel_rfl) rfl) ?_
  refine Wp.seq ?_
  refine Wp.seq ?_
  refine Wp.region ?_
  refine Wo.val (AV.int IntKind.i64 (↑many + 1)) H10 (by kernel_rfl) (iop_ldP P10 (a := { b := bm, g := 0, o := 0 }) (by kernel_rfl) rfl (by kernel_rfl)) ?_
  refine Wo.val (.int .i64 (((many + 1) % 4 : Nat) : Int)) _ (by kernel_rfl) (iop_rem4 (a := many + 1) (by kernel_rfl) (by kernel_rfl)) ?_
  refine Wo.cmpN (op := .neq) (x := IX.t 19) (y := IX.c (AV.int IntKind.i64 0)) (k := IntKind.i64) (a := ↑((many + 1) % 4)) (b := 0) ((↑((many + 1) % 4) : Int) = (0 : Int)) (by kernel_rfl) (by kernel_rfl) (by kernel_rfl) (by kernel_rfl) (by simp) (by kernel_rfl) (fun q12 => ?_) (fun q12 => ?_)
  rotate_left
  · (exfalso; omega)
  have m13 := P7.1
  have m14 := F9.1
  have m15 := P10.1
  refine Wo.nil ?_
  refine Wp.cond false (by kernel_rfl) ?_
  refine Wp.skip ?_
  exact  next_cut hn hk hd1 hd2 hd3 hbn hbm hbo hlo hl P7 X7 P10 X10 po ho (by kernel_rfl) (by kernel_rfl) (by kernel_rfl) (fun ts' h' v' q5 a1 a2 a3 a4 a5 => ⟨.inr rfl, .bool true, ret_one (res_tmp (by rw [q5]; rfl) res_nil), rfl, v', a1, a2, a3, a4, a5⟩)
end Go.Det
