/- Base: texts read: the walk of the closure. -/
import Derived.Test.YtdnfbmminagflaaDoorba2
set_option linter.unusedVariables false
set_option linter.unusedSimpArgs false
set_option linter.unusedSectionVars false
namespace Go.Det
open Go.Proofs
attribute [local irreducible] Wp Wo Wd iop ev slots quiets wanted put

/-- The three bytes of 24 bits. -/
def tri (n : Nat) : List UInt8 := [UInt8.ofNat (n / 65536), UInt8.ofNat (n / 256), UInt8.ofNat n]

theorem index_run (h : H) (s : List UInt8) (c : UInt8) : Runs TF 33 [.str s, .int .u8 c.toNat] h (.int .i64 (Lib.indexByte s c)) h :=
  Runs.nat (fn := { ntmps := 0, results := [], body := .skip, known := true }) rfl (by simp only [nIndexByte, Int.toNat_natCast, UInt8.ofNat_toNat])
theorem trim_run (h : H) (s : List UInt8) (hs : s.length ≤ 9223372036854775807) : Runs TF 34 [.str s, .str [61]] h (.str (Lib.trimRightB s 61)) h :=
  Runs.nat (fn := { ntmps := 0, results := [], body := .skip, known := true }) rfl (by simp only [nTrimRight]; rw [if_pos ⟨by decide, hs⟩])

/-- A sign that is no letter. -/
theorem next_no {h : H} {bn bm bo : Nat} {c : UInt8} (hc : Lib.indexByte Ba.table c < 0) : Runs TF 32 [.int .u8 c.toNat, .ptr ⟨bn, 0, 0⟩, .ptr ⟨bm, 0, 0⟩, .ptr ⟨bo, 0, 0⟩] h (.bool false) h := by
  obtain ⟨r, h', h1, h2, h3⟩ : ∃ r h', Runs TF 32 [.int .u8 c.toNat, .ptr ⟨bn, 0, 0⟩, .ptr ⟨bm, 0, 0⟩, .ptr ⟨bo, 0, 0⟩] h r h' ∧ r = .bool false ∧ h' = h := by
    refine Runs.ofP f32 rfl ?_
    have hi := index_run h Ba.table c
    refine Wp.seq ?_
    refine Wp.region ?_
    refine Wo.pre 1 (by kernel_rfl) ?_
    refine Wo.nil ?_
    refine Wp.seq ?_
    refine Wp.region ?_
    refine Wo.pre 1 (by kernel_rfl) ?_
    refine Wo.call (by kernel_rfl) (by kernel_rfl) hi ?_
    clear hi
    refine Wo.pre 1 (by kernel_rfl) ?_
    refine Wo.nil ?_
    refine Wp.seq ?_
    refine Wp.seq ?_
    refine Wp.region ?_
    refine Wo.pre 1 (by kernel_rfl) ?_
    refine Wo.cmp (op := .lss) (x := IX.t 9) (y := IX.c (AV.int IntKind.i64 0)) (k := IntKind.i64) (a := Lib.indexByte Ba.table c) (b := 0) ((Lib.indexByte Ba.table c : Int) < (0 : Int)) (by kernel_rfl) (by kernel_rfl) (by kernel_rfl) (by kernel_rfl) (by simp) (by kernel_rfl) (fun q1 => ?_) (fun q1 => ?_)
    rotate_left
    · (exfalso; omega)
    refine Wo.nil ?_
    refine Wp.cond true (by kernel_rfl) ?_
    refine Wp.seq ?_
    refine Wp.region ?_
    refine Wo.pre 1 (by kernel_rfl) ?_
    refine Wo.nil ?_
    refine Wp.ret ?_
    refine ⟨.inr rfl, (AV.bool false), (ret_one (res_tmp (by kernel_rfl) res_nil)), ?_⟩
    dsimp only
    exact ⟨rfl, rfl⟩
  subst h2; subst h3
  exact h1

theorem iop_rem4 {x y : IX} {ρ : IX → AV} {h : H} {a : Nat} (hx : ρ x = .int .i64 a) (hy : ρ y = .int .i64 4) : iop (.bin .rem x y) ρ h = some (.val (.int .i64 ((a % 4 : Nat) : Int)) h) := by
  have e : Int.tmod (a : Int) 4 = ((a % 4 : Nat) : Int) := by
    rw [Int.tmod_eq_emod_of_nonneg (by omega)]
    omega
  simp [iop, binop, binInt, hx, hy, e]
theorem shl_or {n k : Nat} (hn : n < 262144) (hk : k < 64) : IntKind.u32.wrap (((BitVec.ofInt IntKind.u32.bits (IntKind.u32.wrap ((n : Int) * 2 ^ 6)) ||| BitVec.ofInt IntKind.u32.bits (k : Int)).toNat : Nat) : Int) = ((n * 64 + k : Nat) : Int) := by
  have e1 : IntKind.u32.wrap ((n : Int) * 2 ^ 6) = ((n * 64 : Nat) : Int) := by
    rw [Ba.wrap_u32]
    omega
  rw [e1]
  have := Ba.bits_or_u32 n k 6 64 (by decide) (by omega) hk
  exact this

theorem pt_shl {h : H} {b n k : Nat} (hn : n < 262144) (hk : k < 64) (p : Pt h b (.cells 0 68 [.int .u32 (IntKind.u32.wrap (((BitVec.ofInt IntKind.u32.bits (IntKind.u32.wrap ((n : Int) * 2 ^ min (Int.toNat 6) IntKind.u32.bits)) ||| BitVec.ofInt IntKind.u32.bits (k : Int)).toNat : Nat) : Int))] 0 false)) : Pt h b (.cells 0 68 [.int .u32 ((n * 64 + k : Nat) : Int)] 0 false) := by
  have e : min (Int.toNat 6) IntKind.u32.bits = 6 := by decide
  rw [e, shl_or hn hk] at p
  exact p

theorem pt_cast {h : H} {b many : Nat} (p : Pt h b (.cells 0 3 [.int .i64 ((many : Int) + 1)] 0 false)) : Pt h b (.cells 0 3 [.int .i64 ((many + 1 : Nat) : Int)] 0 false) := by
  rw [Int.natCast_add]
  exact p

set_option maxHeartbeats 8000000 in
/-- A letter that does not fill up four. -/
theorem next_part {h : H} {bn bm bo n many k : Nat} {c : UInt8} (pn : Pt h bn (.cells 0 68 [.int .u32 n] 0 false)) (pm : Pt h bm (.cells 0 3 [.int .i64 many] 0 false)) (hd : bn ≠ bm) (hc : Lib.indexByte Ba.table c = (k : Int)) (hk : k < 64) (hn : n < 262144) (hm : many < 4611686018427387904) (h4 : ¬ (many + 1) % 4 = 0) :
    ∃ r h', Runs TF 32 [.int .u8 c.toNat, .ptr ⟨bn, 0, 0⟩, .ptr ⟨bm, 0, 0⟩, .ptr ⟨bo, 0, 0⟩] h r h' ∧ r = .bool true ∧ Pt h' bn (.cells 0 68 [.int .u32 ((n * 64 + k : Nat) : Int)] 0 false) ∧ Pt h' bm (.cells 0 3 [.int .i64 ((many + 1 : Nat) : Int)] 0 false) ∧ Fr (fun s => s = bn + 1 ∨ s = bm + 1) h h' := by
  refine Runs.ofP f32 rfl ?_
  have m0 := pn.1
  have m1 := pm.1
  have hi := index_run h Ba.table c
  rw [hc] at hi
  have m1 := pn.1
  have m2 := pm.1
  refine Wp.seq ?_
  refine Wp.region ?_
  refine Wo.pre 1 (by kernel_rfl) ?_
  refine Wo.nil ?_
  refine Wp.seq ?_
  refine Wp.region ?_
  refine Wo.pre 1 (by kernel_rfl) ?_
  refine Wo.call (by kernel_rfl) (by kernel_rfl) hi ?_
  clear hi
  refine Wo.pre 1 (by kernel_rfl) ?_
  refine Wo.nil ?_
  refine Wp.seq ?_
  refine Wp.seq ?_
  refine Wp.region ?_
  refine Wo.pre 1 (by kernel_rfl) ?_
  refine Wo.cmp (op := .lss) (x := IX.t 9) (y := IX.c (AV.int IntKind.i64 0)) (k := IntKind.i64) (a := ↑k) (b := 0) ((↑k : Int) < (0 : Int)) (by kernel_rfl) (by kernel_rfl) (by kernel_rfl) (by kernel_rfl) (by simp) (by kernel_rfl) (fun q3 => ?_) (fun q3 => ?_)
  · (exfalso; omega)
  refine Wo.nil ?_
  refine Wp.cond false (by kernel_rfl) ?_
  refine Wp.skip ?_
  refine Wp.seq ?_
  refine Wp.draw ?_
  refine Wd.read (AV.int IntKind.u32 ↑n) (.ld (none) (.c (.ptr { b := bn, g := 0, o := 0 }))) (by kernel_rfl) (by kernel_rfl) (iop_ldP pn (a := { b := bn, g := 0, o := 0 }) (by kernel_rfl) rfl (by kernel_rfl)) ?_
  refine Wd.pure (by kernel_rfl) (by kernel_rfl) ?_
  refine Wd.pure (by kernel_rfl) (by kernel_rfl) ?_
  refine Wd.make (.int IntKind.u32 (↑k)) h (by kernel_rfl) (by kernel_rfl) (iop_cvIfit (k := IntKind.u32) (kk := IntKind.i64) (a := ↑k) (by kernel_rfl) (by simp only [min_u32]; omega) (by simp only [max_u32]; omega)) ?_
  refine Wd.pure (by kernel_rfl) (by kernel_rfl) ?_
  refine Wd.read (AV.int IntKind.i64 ↑many) (.ld (none) (.c (.ptr { b := bm, g := 0, o := 0 }))) (by kernel_rfl) (by kernel_rfl) (iop_ldP pm (a := { b := bm, g := 0, o := 0 }) (by kernel_rfl) rfl (by kernel_rfl)) ?_
  refine Wd.make (.int IntKind.i64 ((↑many : Int) + (1 : Int))) h (by kernel_rfl) (by kernel_rfl) (iop_arith (op := .add) (a := ↑many) (b := 1) (by kernel_rfl) (by kernel_rfl) (by simp) (bin_add IntKind.i64 (by simp only [min_i64]; omega) (by simp only [max_i64]; omega))) ?_
  obtain ⟨H4, e4, P4, X4, n4⟩ := pn.st 0 [AV.int IntKind.u32 (IntKind.u32.wrap ↑(BitVec.ofInt IntKind.u32.bits (IntKind.u32.wrap (↑n * 2 ^ min (Int.toNat 6) IntKind.u32.bits)) ||| BitVec.ofInt IntKind.u32.bits ↑k).toNat)] (by simp) (ones_cons rfl ones_nil)
  refine Wd.act .undef H4 (by kernel_rfl) (iop_stP (a := { b := bn, g := 0, o := 0 }) (v := AV.int IntKind.u32 (IntKind.u32.wrap ↑(BitVec.ofInt IntKind.u32.bits (IntKind.u32.wrap (↑n * 2 ^ min (Int.toNat 6) IntKind.u32.bits)) ||| BitVec.ofInt IntKind.u32.bits ↑k).toNat)) (vs := [AV.int IntKind.u32 (IntKind.u32.wrap ↑(BitVec.ofInt IntKind.u32.bits (IntKind.u32.wrap (↑n * 2 ^ min (Int.toNat 6) IntKind.u32.bits)) ||| BitVec.ofInt IntKind.u32.bits ↑k).toNat)]) (by kernel_rfl) (by kernel_rfl) rfl rfl e4) (holds_of [(IOp.ld none (IX.c (AV.ptr { b := bm, g := 0, o := 0 })), AV.int IntKind.i64 ↑many, 5), (IOp.ld none (IX.c (AV.ptr { b := bn, g := 0, o := 0 })), AV.int IntKind.u32 ↑n, 0)] (by kernel_rfl) (holds_and (rd_ldP pm rfl (by kernel_rfl)) (holds_and (rd_ldP pn rfl (by kernel_rfl)) rfl))) ?_
  have m5 := X4.1
  replace P4 : Pt H4 bn (Blk.cells 0 68 [AV.int IntKind.u32 (IntKind.u32.wrap ↑(BitVec.ofInt IntKind.u32.bits (IntKind.u32.wrap (↑n * 2 ^ min (Int.toNat 6) IntKind.u32.bits)) ||| BitVec.ofInt IntKind.u32.bits ↑k).toNat)] 0 false) := P4
  have F6 := (pm.fr X4 (by (first | omega | (intro s hs; omega) | (dsimp only; omega) | (intro s hs; dsimp only at hs; omega) | (simp only [blk_nils, blk_sl]; omega) | (intro s hs; simp only [blk_nils, blk_sl] at hs ⊢; omega) | (simp; done))))
  obtain ⟨H7, e7, P7, X7, n7⟩ := F6.st 0 [AV.int IntKind.i64 (↑many + 1)] (by simp) (ones_cons rfl ones_nil)
  refine Wd.act .undef H7 (by kernel_rfl) (iop_stP (a := { b := bm, g := 0, o := 0 }) (v := AV.int IntKind.i64 (↑many + 1)) (vs := [AV.int IntKind.i64 (↑many + 1)]) (by kernel_rfl) (by kernel_rfl) rfl rfl e7) (holds_of [(IOp.ld none (IX.c (AV.ptr { b := bm, g := 0, o := 0 })), AV.int IntKind.i64 ↑many, 5)] (by kernel_rfl) (holds_and (rd_ldP F6 rfl (by kernel_rfl)) rfl)) ?_
  have m8 := X7.1
  replace P7 : Pt H7 bm (Blk.cells 0 3 [AV.int IntKind.i64 (↑many + 1)] 0 false) := P7
  refine Wd.done (holds_of [] (by kernel_rfl) rfl) ?_
  refine Wp.seq ?_
  refine Wp.seq ?_
  refine Wp.region ?_
  refine Wo.val (AV.int IntKind.i64 (↑many + 1)) H7 (by kernel_rfl) (iop_ldP P7 (a := { b := bm, g := 0, o := 0 }) (by kernel_rfl) rfl (by kernel_rfl)) ?_
  refine Wo.val (.int .i64 (((many + 1) % 4 : Nat) : Int)) _ (by kernel_rfl) (iop_rem4 (a := many + 1) (by kernel_rfl) (by kernel_rfl)) ?_
  refine Wo.cmpN (op := .neq) (x := IX.t 19) (y := IX.c (AV.int IntKind.i64 0)) (k := IntKind.i64) (a := ↑((many + 1) % 4)) (b := 0) ((↑((many + 1) % 4) : Int) = (0 : Int)) (by kernel_rfl) (by kernel_rfl) (by kernel_rfl) (by kernel_rfl) (by simp) (by kernel_rfl) (fun q9 => ?_) (fun q9 => ?_)
  · (exfalso; omega)
  have m10 := P4.1
  have m11 := F6.1
  have m12 := P7.1
  refine Wo.nil ?_
  refine Wp.cond true (by kernel_rfl) ?_
  refine Wp.seq ?_
  refine Wp.region ?_
  refine Wo.pre 1 (by kernel_rfl) ?_
  refine Wo.nil ?_
  refine Wp.ret ?_
  refine ⟨.inr rfl, (AV.bool true), (ret_one (res_tmp (by kernel_rfl) res_nil)), ?_⟩
  dsimp only
  exact ⟨rfl, (by exact pt_shl hn hk (P4.fr X7 (fun e => hd (Nat.succ.inj e)))), P7, (X4.trans X7)⟩
end Go.Det
