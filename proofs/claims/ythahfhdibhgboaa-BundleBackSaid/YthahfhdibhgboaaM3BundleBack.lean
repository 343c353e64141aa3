/- Texts of the proof, one behind the other (IRN, NameL, Name, Parse, ParseR, NamesR, NmB, JnL, BunR, JoiR, BBkR, EntsOf). -/
import Derived.Test.YthahfhdibhgboaaM2BundleBack
/- Functions of the program in the form that the deterministic machine runs. -/
set_option maxRecDepth 100000
namespace Go.Det
open Go.Proofs
def l58_1 : IC := IC.seq (IC.seq (IC.region [{ dst := some 24, op := IOp.mv (IX.t 7), guard := none }, { dst := some 25, op := IOp.bin (BinOp.geq) (IX.t 24) (IX.c (AV.int (IntKind.i64) 2)), guard := none }]) (IC.cond (IX.t 25) (IC.skip) (IC.exit 0))) (IC.seq (IC.block 1 (IC.region [{ dst := some 30, op := IOp.mv (IX.t 7), guard := none }, { dst := some 31, op := IOp.iaA 11 1 (IX.t 6) (IX.t 30), guard := none }, { dst := some 32, op := IOp.ld none (IX.t 31), guard := none }, { dst := some 33, op := IOp.mv (IX.t 8), guard := none }, { dst := some 34, op := IOp.bin (BinOp.rem) (IX.t 33) (IX.c (AV.int (IntKind.u64) 10)), guard := none }, { dst := some 35, op := IOp.cvI (IntKind.u8) (IX.t 34), guard := none }, { dst := some 36, op := IOp.bin (BinOp.add) (IX.t 32) (IX.t 35), guard := none }, { dst := some 37, op := IOp.iaA 11 1 (IX.t 6) (IX.t 30), guard := none }, { dst := none, op := IOp.st 1 (IX.t 37) (IX.t 36), guard := none }])) (IC.region [{ dst := some 26, op := IOp.mv (IX.t 7), guard := none }, { dst := some 27, op := IOp.bin (BinOp.sub) (IX.t 26) (IX.c (AV.int (IntKind.i64) 1)), guard := none }, { dst := some 28, op := IOp.mv (IX.t 8), guard := none }, { dst := some 29, op := IOp.bin (BinOp.quo) (IX.t 28) (IX.c (AV.int (IntKind.u64) 10)), guard := none }, { dst := some 7, op := IOp.mv (IX.t 27), guard := none }, { dst := some 8, op := IOp.mv (IX.t 29), guard := none }]))
/-- escritoire/bundle.Name params 2 -/
def ir58 : IFunc := { ntmps := 54, results := [(4, none), (5, none)], body := IC.seq (IC.region [{ dst := some 4, op := IOp.mv (IX.c (AV.str [])), guard := none }, { dst := some 5, op := IOp.mv (IX.c (AV.int (IntKind.i64) 0)), guard := none }]) (IC.seq (IC.seq (IC.region [{ dst := some 9, op := IOp.mv (IX.t 0), guard := none }, { dst := some 10, op := IOp.bin (BinOp.geq) (IX.t 9) (IX.c (AV.int (IntKind.u64) 1000000)), guard := none }, { dst := some 11, op := IOp.mv (IX.t 10), guard := none }, { dst := some 12, op := IOp.mv (IX.t 1), guard := some (11, false) }, { dst := some 13, op := IOp.bin (BinOp.lss) (IX.t 12) (IX.c (AV.int (IntKind.i64) 1)), guard := some (11, false) }, { dst := some 14, op := IOp.pick (IX.t 11) (IX.c (AV.bool true)) (IX.t 13), guard := none }, { dst := some 15, op := IOp.mv (IX.t 14), guard := none }, { dst := some 16, op := IOp.mv (IX.t 1), guard := some (15, false) }, { dst := some 17, op := IOp.bin (BinOp.gtr) (IX.t 16) (IX.c (AV.int (IntKind.i64) 16)), guard := some (15, false) }, { dst := some 18, op := IOp.pick (IX.t 15) (IX.c (AV.bool true)) (IX.t 17), guard := none }]) (IC.cond (IX.t 18) (IC.seq (IC.region [{ dst := some 4, op := IOp.mv (IX.c (AV.str [])), guard := none }, { dst := some 5, op := IOp.mv (IX.c (AV.int (IntKind.i64) 1)), guard := none }]) (IC.ret)) (IC.skip))) (IC.seq (IC.region [{ dst := some 19, op := IOp.bsl 5 [AV.int (IntKind.u8) 0, AV.int (IntKind.u8) 0, AV.int (IntKind.u8) 0, AV.int (IntKind.u8) 0, AV.int (IntKind.u8) 0, AV.int (IntKind.u8) 0, AV.int (IntKind.u8) 0, AV.int (IntKind.u8) 0, AV.int (IntKind.u8) 0, AV.int (IntKind.u8) 0, AV.int (IntKind.u8) 0] 11 [(0, 1, IX.c (AV.int (IntKind.u8) 98)), (1, 1, IX.c (AV.int (IntKind.u8) 45)), (2, 1, IX.c (AV.int (IntKind.u8) 48)), (3, 1, IX.c (AV.int (IntKind.u8) 48)), (4, 1, IX.c (AV.int (IntKind.u8) 48)), (5, 1, IX.c (AV.int (IntKind.u8) 48)), (6, 1, IX.c (AV.int (IntKind.u8) 48)), (7, 1, IX.c (AV.int (IntKind.u8) 48)), (8, 1, IX.c (AV.int (IntKind.u8) 45)), (9, 1, IX.c (AV.int (IntKind.u8) 48)), (10, 1, IX.c (AV.int (IntKind.u8) 48))], guard := none }, { dst := some 20, op := IOp.cvBB (IX.t 19), guard := none }, { dst := some 21, op := IOp.sap 11 (IX.t 20), guard := none }, { dst := some 22, op := IOp.ld (some 11) (IX.t 21), guard := none }, { dst := some 6, op := IOp.new 134 (IX.c (AV.agg [AV.int (IntKind.u8) 0, AV.int (IntKind.u8) 0, AV.int (IntKind.u8) 0, AV.int (IntKind.u8) 0, AV.int (IntKind.u8) 0, AV.int (IntKind.u8) 0, AV.int (IntKind.u8) 0, AV.int (IntKind.u8) 0, AV.int (IntKind.u8) 0, AV.int (IntKind.u8) 0, AV.int (IntKind.u8) 0])), guard := none }, { dst := none, op := IOp.st 11 (IX.t 6) (IX.t 22), guard := none }]) (IC.seq (IC.seq (IC.region [{ dst := some 23, op := IOp.mv (IX.t 0), guard := none }, { dst := some 7, op := IOp.mv (IX.c (AV.int (IntKind.i64) 7)), guard := none }, { dst := some 8, op := IOp.mv (IX.t 23), guard := none }]) (IC.block 0 (IC.loop l58_1))) (IC.seq (IC.region [{ dst := some 38, op := IOp.iaA 11 1 (IX.t 6) (IX.c (AV.int (IntKind.i64) 9)), guard := none }, { dst := some 39, op := IOp.ld none (IX.t 38), guard := none }, { dst := some 40, op := IOp.mv (IX.t 1), guard := none }, { dst := some 41, op := IOp.bin (BinOp.quo) (IX.t 40) (IX.c (AV.int (IntKind.i64) 10)), guard := none }, { dst := some 42, op := IOp.cvI (IntKind.u8) (IX.t 41), guard := none }, { dst := some 43, op := IOp.bin (BinOp.add) (IX.t 39) (IX.t 42), guard := none }, { dst := some 44, op := IOp.iaA 11 1 (IX.t 6) (IX.c (AV.int (IntKind.i64) 9)), guard := none }, { dst := none, op := IOp.st 1 (IX.t 44) (IX.t 43), guard := none }]) (IC.seq (IC.region [{ dst := some 45, op := IOp.iaA 11 1 (IX.t 6) (IX.c (AV.int (IntKind.i64) 10)), guard := none }, { dst := some 46, op := IOp.ld none (IX.t 45), guard := none }, { dst := some 47, op := IOp.mv (IX.t 1), guard := none }, { dst := some 48, op := IOp.bin (BinOp.rem) (IX.t 47) (IX.c (AV.int (IntKind.i64) 10)), guard := none }, { dst := some 49, op := IOp.cvI (IntKind.u8) (IX.t 48), guard := none }, { dst := some 50, op := IOp.bin (BinOp.add) (IX.t 46) (IX.t 49), guard := none }, { dst := some 51, op := IOp.iaA 11 1 (IX.t 6) (IX.c (AV.int (IntKind.i64) 10)), guard := none }, { dst := none, op := IOp.st 1 (IX.t 51) (IX.t 50), guard := none }]) (IC.seq (IC.region [{ dst := some 52, op := IOp.slA 11 1 (IX.t 6) none none none, guard := none }, { dst := some 53, op := IOp.cvBS (IX.t 52), guard := none }, { dst := some 4, op := IOp.mv (IX.t 53), guard := none }, { dst := some 5, op := IOp.mv (IX.c (AV.int (IntKind.i64) 0)), guard := none }]) (IC.ret))))))), known := false } 
theorem f58 : TF 58 = some ir58 := by kernel_rfl
def l60_1 : IC := IC.seq (IC.region [{ dst := some 14, op := IOp.next (IX.t 13), guard := none }, { dst := some 15, op := IOp.ext (IX.t 14) 0, guard := none }]) (IC.seq (IC.cond (IX.t 15) (IC.skip) (IC.exit 0)) (IC.block 1 (IC.seq (IC.region [{ dst := some 16, op := IOp.ext (IX.t 14) 1, guard := none }, { dst := some 6, op := IOp.mv (IX.t 16), guard := none }]) (IC.seq (IC.region [{ dst := some 17, op := IOp.mv (IX.t 0), guard := none }, { dst := some 18, op := IOp.mv (IX.t 6), guard := none }, { dst := some 19, op := IOp.ixS (IX.t 17) (IX.t 18), guard := none }, { dst := some 7, op := IOp.mv (IX.t 19), guard := none }]) (IC.seq (IC.seq (IC.region [{ dst := some 20, op := IOp.mv (IX.t 6), guard := none }, { dst := some 21, op := IOp.ixS (IX.c (AV.str [98, 45, 48, 48, 48, 48, 48, 48, 45, 48, 48])) (IX.t 20), guard := none }, { dst := some 22, op := IOp.bin (BinOp.neq) (IX.t 21) (IX.c (AV.int (IntKind.u8) 48)), guard := none }]) (IC.cond (IX.t 22) (IC.seq (IC.seq (IC.region [{ dst := some 23, op := IOp.mv (IX.t 7), guard := none }, { dst := some 24, op := IOp.mv (IX.t 6), guard := none }, { dst := some 25, op := IOp.ixS (IX.c (AV.str [98, 45, 48, 48, 48, 48, 48, 48, 45, 48, 48])) (IX.t 24), guard := none }, { dst := some 26, op := IOp.bin (BinOp.neq) (IX.t 23) (IX.t 25), guard := none }]) (IC.cond (IX.t 26) (IC.seq (IC.region [{ dst := some 2, op := IOp.mv (IX.c (AV.int (IntKind.u64) 0)), guard := none }, { dst := some 3, op := IOp.mv (IX.c (AV.int (IntKind.i64) 0)), guard := none }, { dst := some 4, op := IOp.mv (IX.c (AV.int (IntKind.i64) 5)), guard := none }]) (IC.ret)) (IC.skip))) (IC.exit 1)) (IC.skip))) (IC.seq (IC.seq (IC.region [{ dst := some 27, op := IOp.mv (IX.t 7), guard := none }, { dst := some 28, op := IOp.bin (BinOp.lss) (IX.t 27) (IX.c (AV.int (IntKind.u8) 48)), guard := none }, { dst := some 29, op := IOp.mv (IX.t 28), guard := none }, { dst := some 30, op := IOp.mv (IX.t 7), guard := some (29, false) }, { dst := some 31, op := IOp.bin (BinOp.gtr) (IX.t 30) (IX.c (AV.int (IntKind.u8) 57)), guard := some (29, false) }, { dst := some 32, op := IOp.pick (IX.t 29) (IX.c (AV.bool true)) (IX.t 31), guard := none }]) (IC.cond (IX.t 32) (IC.seq (IC.region [{ dst := some 2, op := IOp.mv (IX.c (AV.int (IntKind.u64) 0)), guard := none }, { dst := some 3, op := IOp.mv (IX.c (AV.int (IntKind.i64) 0)), guard := none }, { dst := some 4, op := IOp.mv (IX.c (AV.int (IntKind.i64) 5)), guard := none }]) (IC.ret)) (IC.skip))) (IC.region [{ dst := some 33, op := IOp.mv (IX.t 5), guard := none }, { dst := some 34, op := IOp.bin (BinOp.mul) (IX.c (AV.int (IntKind.u64) 10)) (IX.t 33), guard := none }, { dst := some 35, op := IOp.mv (IX.t 7), guard := none }, { dst := some 36, op := IOp.bin (BinOp.sub) (IX.t 35) (IX.c (AV.int (IntKind.u8) 48)), guard := none }, { dst := some 37, op := IOp.cvI (IntKind.u64) (IX.t 36), guard := none }, { dst := some 38, op := IOp.bin (BinOp.add) (IX.t 34) (IX.t 37), guard := none }, { dst := some 5, op := IOp.mv (IX.t 38), guard := none }])))))))
/-- escritoire/bundle.Parse params 1 -/
def ir60 : IFunc := { ntmps := 52, results := [(2, none), (3, none), (4, none)], body := IC.seq (IC.region [{ dst := some 2, op := IOp.mv (IX.c (AV.int (IntKind.u64) 0)), guard := none }, { dst := some 3, op := IOp.mv (IX.c (AV.int (IntKind.i64) 0)), guard := none }, { dst := some 4, op := IOp.mv (IX.c (AV.int (IntKind.i64) 0)), guard := none }]) (IC.seq (IC.seq (IC.region [{ dst := some 10, op := IOp.mv (IX.t 0), guard := none }, { dst := some 11, op := IOp.len true (IX.t 10), guard := none }, { dst := some 12, op := IOp.bin (BinOp.neq) (IX.t 11) (IX.c (AV.int (IntKind.i64) 11)), guard := none }]) (IC.cond (IX.t 12) (IC.seq (IC.region [{ dst := some 2, op := IOp.mv (IX.c (AV.int (IntKind.u64) 0)), guard := none }, { dst := some 3, op := IOp.mv (IX.c (AV.int (IntKind.i64) 0)), guard := none }, { dst := some 4, op := IOp.mv (IX.c (AV.int (IntKind.i64) 5)), guard := none }]) (IC.ret)) (IC.skip))) (IC.seq (IC.region [{ dst := some 5, op := IOp.mv (IX.c (AV.int (IntKind.u64) 0)), guard := none }]) (IC.seq (IC.seq (IC.region [{ dst := some 13, op := IOp.rng (IX.c (AV.str [98, 45, 48, 48, 48, 48, 48, 48, 45, 48, 48])), guard := none }]) (IC.block 0 (IC.loop l60_1))) (IC.seq (IC.region [{ dst := some 39, op := IOp.mv (IX.t 5), guard := none }, { dst := some 40, op := IOp.bin (BinOp.quo) (IX.t 39) (IX.c (AV.int (IntKind.u64) 100)), guard := none }, { dst := some 41, op := IOp.mv (IX.t 5), guard := none }, { dst := some 42, op := IOp.bin (BinOp.rem) (IX.t 41) (IX.c (AV.int (IntKind.u64) 100)), guard := none }, { dst := some 43, op := IOp.cvI (IntKind.i64) (IX.t 42), guard := none }, { dst := some 8, op := IOp.mv (IX.t 40), guard := none }, { dst := some 9, op := IOp.mv (IX.t 43), guard := none }]) (IC.seq (IC.seq (IC.region [{ dst := some 44, op := IOp.mv (IX.t 9), guard := none }, { dst := some 45, op := IOp.bin (BinOp.lss) (IX.t 44) (IX.c (AV.int (IntKind.i64) 1)), guard := none }, { dst := some 46, op := IOp.mv (IX.t 45), guard := none }, { dst := some 47, op := IOp.mv (IX.t 9), guard := some (46, false) }, { dst := some 48, op := IOp.bin (BinOp.gtr) (IX.t 47) (IX.c (AV.int (IntKind.i64) 16)), guard := some (46, false) }, { dst := some 49, op := IOp.pick (IX.t 46) (IX.c (AV.bool true)) (IX.t 48), guard := none }]) (IC.cond (IX.t 49) (IC.seq (IC.region [{ dst := some 2, op := IOp.mv (IX.c (AV.int (IntKind.u64) 0)), guard := none }, { dst := some 3, op := IOp.mv (IX.c (AV.int (IntKind.i64) 0)), guard := none }, { dst := some 4, op := IOp.mv (IX.c (AV.int (IntKind.i64) 5)), guard := none }]) (IC.ret)) (IC.skip))) (IC.seq (IC.region [{ dst := some 50, op := IOp.mv (IX.t 8), guard := none }, { dst := some 51, op := IOp.mv (IX.t 9), guard := none }, { dst := some 2, op := IOp.mv (IX.t 50), guard := none }, { dst := some 3, op := IOp.mv (IX.t 51), guard := none }, { dst := some 4, op := IOp.mv (IX.c (AV.int (IntKind.i64) 0)), guard := none }]) (IC.ret))))))), known := false } 
theorem f60 : TF 60 = some ir60 := by kernel_rfl
end Go.Det

/- Names of bundles: the loops. -/
set_option linter.unusedVariables false
set_option linter.unusedSimpArgs false
set_option linter.unusedSectionVars false
namespace Go.Det
open Go.Proofs
attribute [local irreducible] Wp Wo Wd iop ev slots quiets wanted put

/-- The last digits of a number. -/
def digs (n : Nat) : Nat → List UInt8
  | 0 => []
  | i + 1 => UInt8.ofNat (48 + n / 10 ^ i % 10) :: digs n i
theorem digs_len (n : Nat) : ∀ i, (digs n i).length = i
  | 0 => rfl
  | i + 1 => by simp [digs, digs_len n i]

theorem digit_nat (m : Nat) : ((UInt8.ofNat (48 + m % 10)).toNat : Int) = 48 + ((m % 10 : Nat) : Int) := by
  rw [UInt8.toNat_ofNat']
  omega
theorem div_step (n i : Nat) : n / 10 ^ i / 10 = n / 10 ^ (i + 1) := by rw [Nat.div_div_eq_div_mul, ← Nat.pow_succ]
theorem tmod10 (m : Nat) : ((m : Int)).tmod 10 = ((m % 10 : Nat) : Int) := by rw [Int.natCast_emod]; exact Int.tmod_eq_emod_of_nonneg (by omega)
theorem tdiv10 (m : Nat) : ((m : Int)).tdiv 10 = ((m / 10 : Nat) : Int) := by rw [Int.natCast_ediv]; exact Int.tdiv_eq_ediv_of_nonneg (by omega)

/-- A bundle's name while its number is laid down. -/
def arr (n j : Nat) : List UInt8 := [98, 45] ++ (List.replicate (6 - j) 48 ++ (digs n j ++ [45, 48, 48]))
theorem arr_len (n j : Nat) (hj : j ≤ 6) : (arr n j).length = 11 := by simp [arr, digs_len]; omega
theorem arr_get (n j : Nat) (hj : j < 6) : (arr n j)[7 - j]? = some 48 := by
  unfold arr
  have e : 7 - j - ([98, 45] : List UInt8).length = 5 - j := by simp; omega
  rw [List.getElem?_append_right (by simp; omega), e, List.getElem?_append_left (by simp; omega), List.getElem?_replicate, if_pos (by omega)]
theorem arr_set (n j : Nat) (hj : j < 6) : (arr n j).set (7 - j) (UInt8.ofNat (48 + n / 10 ^ j % 10)) = arr n (j + 1) := by
  unfold arr
  rw [List.set_append_right _ _ (by simp; omega)]
  congr 1
  have e1 : 6 - j = (6 - (j + 1)) + 1 := by omega
  have e2 : 7 - j - ([98, 45] : List UInt8).length = 6 - (j + 1) := by simp; omega
  rw [e2, e1, List.replicate_succ', List.append_assoc, List.set_append_right _ _ (by simp)]
  simp [digs]

theorem name_loop {n blk : Nat} {w : AV} (hn : n < 2 ^ 64) :
    ∀ (k j : Nat), j + k = 6 → ∀ (h : H) (ts : List AV), ts.length = 54 → getL ts 1 = some w → getL ts 6 = some (.ptr ⟨blk, 0, 0⟩) → getL ts 7 = some (.int .i64 (7 - (j : Int))) → getL ts 8 = some (.int .u64 (n / 10 ^ j : Nat)) → h.get blk = some (.cells 0 134 (bytesAV (arr n j)) 0 false) →
      ∀ (Q : Ex → St → Prop), (∀ ts' h', ts'.length = 54 → getL ts' 1 = some w → getL ts' 6 = some (.ptr ⟨blk, 0, 0⟩) → h'.n = h.n → (∀ b, b ≠ blk → h'.get b = h.get b) → h'.get blk = some (.cells 0 134 (bytesAV (arr n 6)) 0 false) → Q (.exit 0) (ts', h')) → Wp TF (.loop l58_1) (ts, h) Q := by
  intro k
  induction k with
  | zero =>
    intro j hj h ts t0 t1 t6 t7 t8 hg Q hQ
    obtain rfl : j = 6 := by omega
    refine Wp.loop ?_
    have t7 : getL ts 7 = some (.int .i64 1) := t7
    rw [laid_eq t0 [(1, w), (6, .ptr ⟨blk, 0, 0⟩), (7, .int .i64 1), (8, .int .u64 (n / 10 ^ 6 : Nat))] (by simp [t1, t6, t7, t8])]
    unfold l58_1
    refine Wp.seq ?_
    refine Wp.seq ?_
    refine Wp.region ?_
    refine Wo.pre 8 (by kernel_rfl) ?_
    refine Wo.nil ?_
    refine Wp.cond false (by kernel_rfl) ?_
    exact Wp.exit (hQ _ _ (by kernel_rfl) (by kernel_rfl) (by kernel_rfl) rfl (fun _ _ => rfl) hg)
  | succ k ih =>
    intro j hj h ts t0 t1 t6 t7 t8 hg Q hQ
    refine Wp.loop ?_
    have hlt : j < 6 := by omega
    obtain ⟨m, hm'⟩ : ∃ m, m = n / 10 ^ j := ⟨_, rfl⟩
    have hm64 : m < 2 ^ 64 := by rw [hm']; exact Nat.lt_of_le_of_lt (Nat.div_le_self _ _) hn
    have hset := arr_set n j hlt
    rw [← hm'] at t8 hset
    obtain ⟨p, hp⟩ : ∃ p : Nat, p = 7 - j := ⟨_, rfl⟩
    have t7 : getL ts 7 = some (.int .i64 (p : Int)) := by rw [t7]; congr 2; omega
    have hp2 : 2 ≤ p := by omega
    have hp11 : p < 11 := by omega
    have hget := arr_get n j hlt
    rw [← hp] at hget hset
    have hal := arr_len n j (by omega)
    have w1 : IntKind.i64.wrap ((p : Int) - 1) = (p : Int) - 1 := i64_fit _ (by omega)
    have w2 : IntKind.u8.wrap (((m : Nat) : Int).tmod 10) = ((m % 10 : Nat) : Int) := by rw [tmod10, u8_fit _ (by omega)]
    have w3 : IntKind.u8.wrap (48 + ((m % 10 : Nat) : Int)) = ((UInt8.ofNat (48 + m % 10)).toNat : Int) := by rw [digit_nat, u8_fit _ (by omega)]
    have w4 : IntKind.u64.wrap (((m : Nat) : Int).tdiv 10) = ((m / 10 : Nat) : Int) := by rw [tdiv10, u64_fit _ (by omega)]
    obtain ⟨c, hc⟩ : ∃ c, c = UInt8.ofNat (48 + m % 10) := ⟨_, rfl⟩
    rw [← hc] at w3 hset
    have w23 : IntKind.u8.wrap (48 + IntKind.u8.wrap (((m : Nat) : Int).tmod 10)) = (c.toNat : Int) := by rw [w2, w3]
    clear hc w2 w3
    have hn1 : n / 10 ^ (j + 1) = m / 10 := by rw [hm', div_step]
    have hld : h.ldg ⟨blk, 0, p⟩ none = some (.int .u8 48) := by simp [H.ldg, H.ld, H.row, hg, get_byte, hget]
    have hst := st_byte hg (k := p) (by omega) c
    rw [hset] at hst
    have c2 : (2 : Int) ≤ (p : Int) := by omega
    have eia : ∀ {y z : IX} {ρ : IX → AV}, ρ y = .ptr ⟨blk, 0, 0⟩ → ρ z = .int .i64 p → iop (.iaA 11 1 y z) ρ h = some (.val (.ptr ⟨blk, 0, p⟩) h) := by
      intro y z ρ hy hz
      have hq : (p : Int) < 11 := by omega
      simp [iop, hy, hz, asI, hq]
    rw [laid_eq t0 [(1, w), (6, .ptr ⟨blk, 0, 0⟩), (7, .int .i64 p), (8, .int .u64 m)] (by simp [t1, t6, t7, t8])]
    unfold l58_1
    refine Wp.seq ?_
    refine Wp.seq ?_
    refine Wp.region ?_
    refine Wo.pre 8 (by kernel_rfl) ?_
    refine Wo.nil ?_
    refine Wp.cond (decide ((p : Int) ≥ 2)) (by kernel_rfl) ?_
    rw [if_pos (by simp; omega)]
    refine Wp.skip ?_
    refine Wp.seq ?_
    refine Wp.block ?_
    refine Wp.region ?_
    refine Wo.pre 1 (by kernel_rfl) ?_
    refine Wo.val _ h (by kernel_rfl) (eia (by kernel_rfl) (by kernel_rfl)) ?_
    refine Wo.val (.int .u8 48) h (by kernel_rfl) (iop_ld (a := ⟨blk, 0, p⟩) (by kernel_rfl) hld) ?_
    refine Wo.pre 3 (by kernel_rfl) ?_
    refine Wo.pre 1 (by kernel_rfl) ?_
    refine Wo.val _ h (by kernel_rfl) (eia (by kernel_rfl) (by kernel_rfl)) ?_
    refine Wo.val .undef (h.set blk (.cells 0 134 (bytesAV (arr n (j + 1))) 0 false)) (by kernel_rfl) (iop_st1 (a := ⟨blk, 0, p⟩) (v := .int .u8 c.toNat) (by kernel_rfl) (by rw [← w23]; kernel_rfl) rfl hst) ?_
    refine Wo.nil ?_
    refine Wp.region ?_
    refine Wo.pre 8 (by kernel_rfl) ?_
    refine Wo.nil ?_
    refine ih (j + 1) (by omega) _ _ (by kernel_rfl) (by kernel_rfl) (by kernel_rfl) (by rw [show (7 : Int) - ((j + 1 : Nat) : Int) = (p : Int) - 1 by omega, ← w1]; kernel_rfl) (by rw [hn1, ← w4]; kernel_rfl) (by rw [h.get_set]) Q ?_
    intro ts' h' g0 g1 g1' g2 g3 g4
    exact hQ ts' h' g0 g1 g1' (by rw [g2]; rfl) (fun b hb => by rw [g3 b hb, h.get_set_ne _ b _ hb]) g4
end Go.Det

/- Names of bundles, laid down. -/
set_option linter.unusedVariables false
set_option linter.unusedSimpArgs false
set_option linter.unusedSectionVars false
namespace Go.Det
open Go.Proofs
attribute [local irreducible] Wp Wo Wd iop ev slots quiets wanted put

def nameS (n w : Nat) : List UInt8 := [98, 45] ++ digs n 6 ++ [45] ++ digs w 2
def nameR (number : Nat) (width : Int) : AV := if (number : Int) < 1000000 ∧ 1 ≤ width ∧ width ≤ 16 then .tup [.str (nameS number width.toNat), .int .i64 0] else .tup [.str [], .int .i64 1]
theorem nameR_bad {n : Nat} {w : Int} (h : ¬ ((n : Int) < 1000000 ∧ 1 ≤ w ∧ w ≤ 16)) : nameR n w = .tup [.str [], .int .i64 1] := if_neg h
theorem nameR_ok {n w : Nat} (h : (n : Int) < 1000000 ∧ 1 ≤ (w : Int) ∧ (w : Int) ≤ 16) : nameR n w = .tup [.str (nameS n w), .int .i64 0] := by
  unfold nameR
  rw [if_pos h, Int.toNat_natCast]

theorem arr_end (n w : Nat) (hw : w ≤ 16) : ((arr n 6).set 9 (UInt8.ofNat (48 + w / 10))).set 10 (UInt8.ofNat (48 + w % 10)) = nameS n w := by
  have h1 : w / 10 % 10 = w / 10 := by omega
  have hd := digs_len n 6
  obtain ⟨a0, a1, a2, a3, a4, a5, e⟩ : ∃ a0 a1 a2 a3 a4 a5, digs n 6 = [a0, a1, a2, a3, a4, a5] := ⟨_, _, _, _, _, _, rfl⟩
  unfold arr nameS
  rw [e]
  simp [digs, h1]

theorem name_run {h : H} {n : Nat} (hn : n < 2 ^ 64) (width : Int) : ∃ r h', Runs TF 58 [.int .u64 n, .int .i64 width] h r h' ∧ r = nameR n width ∧ Ext h h' := by
  refine Runs.ofP f58 rfl ?_
  by_cases h1 : (n : Int) ≥ 1000000
  · have e : nameR n width = .tup [.str [], .int .i64 1] := nameR_bad (by omega)
    refine Wp.seq ?_
    refine Wp.region ?_
    refine Wo.pre 1 (by kernel_rfl) ?_
    refine Wo.pre 1 (by kernel_rfl) ?_
    refine Wo.nil ?_
    refine Wp.seq ?_
    refine Wp.seq ?_
    refine Wp.region ?_
    refine Wo.pre 1 (by kernel_rfl) ?_
    refine Wo.val (.bool true) h (by kernel_rfl) (iop_cmp (k := .u64) (a := n) (b := 1000000) true (by kernel_rfl) (by kernel_rfl) (by simp) (by simp [binInt]; omega)) ?_
    refine Wo.pre 1 (by kernel_rfl) ?_
    refine Wo.pre 1 (by kernel_rfl) ?_
    refine Wo.pre 1 (by kernel_rfl) ?_
    refine Wo.pre 1 (by kernel_rfl) ?_
    refine Wo.pre 1 (by kernel_rfl) ?_
    refine Wo.pre 1 (by kernel_rfl) ?_
    refine Wo.pre 1 (by kernel_rfl) ?_
    refine Wo.pre 1 (by kernel_rfl) ?_
    refine Wo.nil ?_
    refine Wp.cond true (by kernel_rfl) ?_
    refine Wp.seq ?_
    refine Wp.region ?_
    refine Wo.pre 1 (by kernel_rfl) ?_
    refine Wo.pre 1 (by kernel_rfl) ?_
    refine Wo.nil ?_
    exact Wp.ret ⟨.inr rfl, .tup [.str [], .int .i64 1], (by kernel_rfl), e.symm, Ext.refl h⟩
  · by_cases h2 : width < 1
    · have e : nameR n width = .tup [.str [], .int .i64 1] := nameR_bad (by omega)
      refine Wp.seq ?_
      refine Wp.region ?_
      refine Wo.pre 1 (by kernel_rfl) ?_
      refine Wo.pre 1 (by kernel_rfl) ?_
      refine Wo.nil ?_
      refine Wp.seq ?_
      refine Wp.seq ?_
      refine Wp.region ?_
      refine Wo.pre 1 (by kernel_rfl) ?_
      refine Wo.val (.bool false) h (by kernel_rfl) (iop_cmp (k := .u64) (a := n) (b := 1000000) false (by kernel_rfl) (by kernel_rfl) (by simp) (by simp [binInt]; omega)) ?_
      refine Wo.pre 1 (by kernel_rfl) ?_
      refine Wo.pre 1 (by kernel_rfl) ?_
      refine Wo.val (.bool true) h (by kernel_rfl) (iop_cmp (k := .i64) (a := width) (b := 1) true (by kernel_rfl) (by kernel_rfl) (by simp) (by simp [binInt]; omega)) ?_
      refine Wo.pre 1 (by kernel_rfl) ?_
      refine Wo.pre 1 (by kernel_rfl) ?_
      refine Wo.pre 1 (by kernel_rfl) ?_
      refine Wo.pre 1 (by kernel_rfl) ?_
      refine Wo.pre 1 (by kernel_rfl) ?_
      refine Wo.nil ?_
      refine Wp.cond true (by kernel_rfl) ?_
      refine Wp.seq ?_
      refine Wp.region ?_
      refine Wo.pre 1 (by kernel_rfl) ?_
      refine Wo.pre 1 (by kernel_rfl) ?_
      refine Wo.nil ?_
      exact Wp.ret ⟨.inr rfl, .tup [.str [], .int .i64 1], (by kernel_rfl), e.symm, Ext.refl h⟩
    · by_cases h3 : width > 16
      · have e : nameR n width = .tup [.str [], .int .i64 1] := nameR_bad (by omega)
        refine Wp.seq ?_
        refine Wp.region ?_
        refine Wo.pre 1 (by kernel_rfl) ?_
        refine Wo.pre 1 (by kernel_rfl) ?_
        refine Wo.nil ?_
        refine Wp.seq ?_
        refine Wp.seq ?_
        refine Wp.region ?_
        refine Wo.pre 1 (by kernel_rfl) ?_
        refine Wo.val (.bool false) h (by kernel_rfl) (iop_cmp (k := .u64) (a := n) (b := 1000000) false (by kernel_rfl) (by kernel_rfl) (by simp) (by simp [binInt]; omega)) ?_
        refine Wo.pre 1 (by kernel_rfl) ?_
        refine Wo.pre 1 (by kernel_rfl) ?_
        refine Wo.val (.bool false) h (by kernel_rfl) (iop_cmp (op := .lss) (k := .i64) (a := width) (b := 1) false (by kernel_rfl) (by kernel_rfl) (by simp) (by simp [binInt]; omega)) ?_
        refine Wo.pre 1 (by kernel_rfl) ?_
        refine Wo.pre 1 (by kernel_rfl) ?_
        refine Wo.pre 1 (by kernel_rfl) ?_
        refine Wo.val (.bool true) h (by kernel_rfl) (iop_cmp (op := .gtr) (k := .i64) (a := width) (b := 16) true (by kernel_rfl) (by kernel_rfl) (by simp) (by simp [binInt]; omega)) ?_
        refine Wo.pre 1 (by kernel_rfl) ?_
        refine Wo.nil ?_
        refine Wp.cond true (by kernel_rfl) ?_
        refine Wp.seq ?_
        refine Wp.region ?_
        refine Wo.pre 1 (by kernel_rfl) ?_
        refine Wo.pre 1 (by kernel_rfl) ?_
        refine Wo.nil ?_
        exact Wp.ret ⟨.inr rfl, .tup [.str [], .int .i64 1], (by kernel_rfl), e.symm, Ext.refl h⟩
      · obtain ⟨w, rfl⟩ : ∃ w : Nat, width = w := ⟨width.toNat, by omega⟩
        have e : nameR n w = .tup [.str (nameS n w), .int .i64 0] := nameR_ok (by omega)
        obtain ⟨H1, hH1⟩ : ∃ H1, H1 = h.new (.cells 0 5 (bytesAV (arr n 0)) 0 false) := ⟨_, rfl⟩
        have X1 : Ext h H1 := by rw [hH1]; exact Ext.new _ _
        have g1 : H1.get h.n = some (.cells 0 5 (bytesAV (arr n 0)) 0 false) := by rw [hH1]; exact h.get_new _
        have e1 : ∀ ts, iop (.bsl 5 [.int .u8 0, .int .u8 0, .int .u8 0, .int .u8 0, .int .u8 0, .int .u8 0, .int .u8 0, .int .u8 0, .int .u8 0, .int .u8 0, .int .u8 0] 11 [(0, 1, .c (.int .u8 98)), (1, 1, .c (.int .u8 45)), (2, 1, .c (.int .u8 48)), (3, 1, .c (.int .u8 48)), (4, 1, .c (.int .u8 48)), (5, 1, .c (.int .u8 48)), (6, 1, .c (.int .u8 48)), (7, 1, .c (.int .u8 48)), (8, 1, .c (.int .u8 45)), (9, 1, .c (.int .u8 48)), (10, 1, .c (.int .u8 48))]) (ev ts) h = some (.val (.sl ⟨h.n, 0, 0⟩ 11 (.ex 11)) H1) := fun ts => by rw [hH1]; kernel_rfl
        have e2 : ∀ {x : IX} {ρ : IX → AV}, ρ x = .sl ⟨h.n, 0, 0⟩ 11 (.ex 11) → iop (.cvBB x) ρ H1 = some (.val (.sl ⟨h.n, 0, 0⟩ 11 (.ex 11)) H1) := fun hx => by simp [iop, hx, g1, capPos]
        have L1 : H1.ldg ⟨h.n, 0, 0⟩ (some 11) = some (.agg (bytesAV (arr n 0))) := by
          have : H1.ldn ⟨h.n, 0, 0⟩ 11 = some (bytesAV (arr n 0)) := by
            unfold H.ldn H.row
            simp only [g1, BEq.rfl, Bool.not_false, Bool.true_or, Bool.and_self, if_true]
            exact cut_all _
          simp [H.ldg, this]
        obtain ⟨H2, hH2⟩ : ∃ H2, H2 = H1.new (.cells 0 134 (List.replicate 11 (.int .u8 0)) 0 false) := ⟨_, rfl⟩
        have g2 : H2.get H1.n = some (.cells 0 134 (List.replicate 11 (.int .u8 0)) 0 false) := by rw [hH2]; exact H1.get_new _
        have enew : ∀ ts, iop (.new 134 (.c (.agg [.int .u8 0, .int .u8 0, .int .u8 0, .int .u8 0, .int .u8 0, .int .u8 0, .int .u8 0, .int .u8 0, .int .u8 0, .int .u8 0, .int .u8 0]))) (ev ts) H1 = some (.val (.ptr ⟨H1.n, 0, 0⟩) H2) := fun ts => by rw [hH2]; exact iop_new (by kernel_rfl) rfl
        obtain ⟨H3, hH3⟩ : ∃ H3, H3 = H2.set H1.n (.cells 0 134 (bytesAV (arr n 0)) 0 false) := ⟨_, rfl⟩
        have st3 : H2.st ⟨H1.n, 0, 0⟩ (bytesAV (arr n 0)) = some H3 := by
          have hl : (bytesAV (arr n 0)).length = 11 := by rw [bytes_len, arr_len _ _ (by omega)]
          have ho := bytes_one (arr n 0)
          unfold H.st
          simp only [g2]
          rw [if_pos (by simp [-List.all_eq_true, hl, ho]), hH3]
          rfl
        have g3 : H3.get H1.n = some (.cells 0 134 (bytesAV (arr n 0)) 0 false) := by rw [hH3, H2.get_set]
        have n3 : H3.n = H1.n + 1 := by rw [hH3, hH2]; rfl
        have X3 : Ext h H3 := ⟨by have := X1.1; omega, fun b hb => by rw [hH3, H2.get_set_ne _ b _ (by have := X1.1; omega), hH2, H1.get_new_ne b _ (by have := X1.1; omega)]; exact X1.2 b hb⟩
        refine Wp.seq ?_
        refine Wp.region ?_
        refine Wo.pre 1 (by kernel_rfl) ?_
        refine Wo.pre 1 (by kernel_rfl) ?_
        refine Wo.nil ?_
        refine Wp.seq ?_
        refine Wp.seq ?_
        refine Wp.region ?_
        refine Wo.pre 1 (by kernel_rfl) ?_
        refine Wo.val (.bool false) h (by kernel_rfl) (iop_cmp (k := .u64) (a := n) (b := 1000000) false (by kernel_rfl) (by kernel_rfl) (by simp) (by simp [binInt]; omega)) ?_
        refine Wo.pre 1 (by kernel_rfl) ?_
        refine Wo.pre 1 (by kernel_rfl) ?_
        refine Wo.val (.bool false) h (by kernel_rfl) (iop_cmp (op := .lss) (k := .i64) (a := w) (b := 1) false (by kernel_rfl) (by kernel_rfl) (by simp) (by simp [binInt]; omega)) ?_
        refine Wo.pre 1 (by kernel_rfl) ?_
        refine Wo.pre 1 (by kernel_rfl) ?_
        refine Wo.pre 1 (by kernel_rfl) ?_
        refine Wo.val (.bool false) h (by kernel_rfl) (iop_cmp (op := .gtr) (k := .i64) (a := w) (b := 16) false (by kernel_rfl) (by kernel_rfl) (by simp) (by simp [binInt]; omega)) ?_
        refine Wo.pre 1 (by kernel_rfl) ?_
        refine Wo.nil ?_
        refine Wp.cond false (by kernel_rfl) ?_
        refine Wp.skip ?_
        refine Wp.seq ?_
        refine Wp.region ?_
        refine Wo.val _ _ (by kernel_rfl) (e1 _) ?_
        refine Wo.val _ H1 (by kernel_rfl) (e2 (by kernel_rfl)) ?_
        refine Wo.pre 1 (by kernel_rfl) ?_
        refine Wo.val (.agg (bytesAV (arr n 0))) H1 (by kernel_rfl) (iop_ld (a := ⟨h.n, 0, 0⟩) (by kernel_rfl) L1) ?_
        refine Wo.val _ _ (by kernel_rfl) (enew _) ?_
        refine Wo.val .undef H3 (by kernel_rfl) (iop_stA (a := ⟨H1.n, 0, 0⟩) (cs := bytesAV (arr n 0)) (by kernel_rfl) (by kernel_rfl) (by rw [bytes_len, arr_len _ _ (by omega)]) st3) ?_
        refine Wo.nil ?_
        refine Wp.seq ?_
        refine Wp.seq ?_
        refine Wp.region ?_
        refine Wo.pre 1 (by kernel_rfl) ?_
        refine Wo.pre 1 (by kernel_rfl) ?_
        refine Wo.pre 1 (by kernel_rfl) ?_
        refine Wo.nil ?_
        refine Wp.block ?_
        refine name_loop (w := .int .i64 w) hn 6 0 (by omega) H3 _ (by kernel_rfl) (by kernel_rfl) (by kernel_rfl) (by kernel_rfl) (by rw [show n / 10 ^ 0 = n by simp]; kernel_rfl) g3 _ ?_
        intro ts' K1 d0 d1 d6 dn dk dg
        rw [laid_eq d0 [(1, .int .i64 w), (6, .ptr ⟨H1.n, 0, 0⟩)] (by simp [d1, d6])]
        obtain ⟨c9, hc9⟩ : ∃ c, c = UInt8.ofNat (48 + w / 10) := ⟨_, rfl⟩
        obtain ⟨c10, hc10⟩ : ∃ c, c = UInt8.ofNat (48 + w % 10) := ⟨_, rfl⟩
        have f9 : IntKind.u8.wrap (48 + IntKind.u8.wrap (IntKind.i64.wrap ((w : Int).tdiv 10))) = (c9.toNat : Int) := by
          rw [tdiv10, i64_fit _ (by omega), u8_fit ((w / 10 : Nat) : Int) (by omega), u8_fit _ (by omega), hc9, UInt8.toNat_ofNat']
          omega
        have f10 : IntKind.u8.wrap (48 + IntKind.u8.wrap ((w : Int).tmod 10)) = (c10.toNat : Int) := by
          rw [tmod10, u8_fit ((w % 10 : Nat) : Int) (by omega), u8_fit _ (by omega), hc10, UInt8.toNat_ofNat']
          omega
        have hend := arr_end n w (by omega)
        rw [← hc9, ← hc10] at hend
        have hal := arr_len n 6 (by omega)
        have a9 : (arr n 6)[9]? = some 48 := rfl
        have a10 : ((arr n 6).set 9 c9)[10]? = some 48 := rfl
        have M9 : K1.ldg ⟨H1.n, 0, 9⟩ none = some (.int .u8 48) := by simp [H.ldg, H.ld, H.row, dg, get_byte, a9]
        have S9 := st_byte dg (k := 9) (by omega) c9
        obtain ⟨K2, hK2⟩ : ∃ K2, K2 = K1.set H1.n (.cells 0 134 (bytesAV ((arr n 6).set 9 c9)) 0 false) := ⟨_, rfl⟩
        rw [← hK2] at S9
        have dg2 : K2.get H1.n = some (.cells 0 134 (bytesAV ((arr n 6).set 9 c9)) 0 false) := by rw [hK2, K1.get_set]
        have M10 : K2.ldg ⟨H1.n, 0, 10⟩ none = some (.int .u8 48) := by simp [H.ldg, H.ld, H.row, dg2, get_byte, a10]
        have S10 := st_byte dg2 (k := 10) (by simp; omega) c10
        rw [hend] at S10
        obtain ⟨K3, hK3⟩ : ∃ K3, K3 = K2.set H1.n (.cells 0 134 (bytesAV (nameS n w)) 0 false) := ⟨_, rfl⟩
        rw [← hK3] at S10
        have dg3 : K3.get H1.n = some (.cells 0 134 (bytesAV (nameS n w)) 0 false) := by rw [hK3, K2.get_set]
        have hsl : (nameS n w).length = 11 := by rw [← hend]; simp [hal]
        have k3n : K3.n = K1.n := by rw [hK3, hK2]; rfl
        have hbs : Bs K3 (.sl ⟨H1.n, 0, 0⟩ 11 (.ex 11)) (nameS n w) := by
          refine .inr ⟨⟨H1.n, 0, 0⟩, .ex 11, by rw [hsl], by show H1.n < K3.n; omega, ?_⟩
          unfold H.ldn H.row
          simp only [dg3, BEq.rfl, Bool.not_false, Bool.true_or, Bool.and_self, if_true]
          rw [← bytes_len]
          exact cut_all _
        refine Wp.seq ?_
        refine Wp.region ?_
        refine Wo.pre 1 (by kernel_rfl) ?_
        refine Wo.val (.int .u8 48) K1 (by kernel_rfl) (iop_ld (a := ⟨H1.n, 0, 9⟩) (by kernel_rfl) M9) ?_
        refine Wo.pre 3 (by kernel_rfl) ?_
        refine Wo.pre 1 (by kernel_rfl) ?_
        refine Wo.pre 1 (by kernel_rfl) ?_
        refine Wo.val .undef K2 (by kernel_rfl) (iop_st1 (a := ⟨H1.n, 0, 9⟩) (v := .int .u8 c9.toNat) (by kernel_rfl) (by rw [← f9]; kernel_rfl) rfl S9) ?_
        refine Wo.nil ?_
        refine Wp.seq ?_
        refine Wp.region ?_
        refine Wo.pre 1 (by kernel_rfl) ?_
        refine Wo.val (.int .u8 48) K2 (by kernel_rfl) (iop_ld (a := ⟨H1.n, 0, 10⟩) (by kernel_rfl) M10) ?_
        refine Wo.pre 3 (by kernel_rfl) ?_
        refine Wo.pre 1 (by kernel_rfl) ?_
        refine Wo.pre 1 (by kernel_rfl) ?_
        refine Wo.val .undef K3 (by kernel_rfl) (iop_st1 (a := ⟨H1.n, 0, 10⟩) (v := .int .u8 c10.toNat) (by kernel_rfl) (by rw [← f10]; kernel_rfl) rfl S10) ?_
        refine Wo.nil ?_
        refine Wp.seq ?_
        refine Wp.region ?_
        refine Wo.pre 1 (by kernel_rfl) ?_
        refine Wo.val (.str (nameS n w)) K3 (by kernel_rfl) (iop_cvBS (v := .sl ⟨H1.n, 0, 0⟩ 11 (.ex 11)) (by kernel_rfl) hbs) ?_
        refine Wo.pre 8 (by kernel_rfl) ?_
        refine Wo.nil ?_
        refine Wp.ret ⟨.inr rfl, .tup [.str (nameS n w), .int .i64 0], (by kernel_rfl), e.symm, (by have := X3.1; show h.n ≤ K3.n; omega), fun b hb => ?_⟩
        have := X1.1
        show K3.get b = h.get b
        rw [hK3, K2.get_set_ne _ b _ (by omega), hK2, K1.get_set_ne _ b _ (by omega), dk b (by omega), X3.2 b hb]
end Go.Det

/- Names of bundles, read. -/
set_option linter.unusedVariables false
set_option linter.unusedSimpArgs false
set_option linter.unusedSectionVars false
namespace Go.Det
open Go.Proofs
attribute [local irreducible] Wp Wo Wd iop ev slots quiets wanted put

def nameF : List UInt8 := [98, 45, 48, 48, 48, 48, 48, 48, 45, 48, 48]
def val (l : List UInt8) : Nat := l.foldl (fun a c => 10 * a + (c.toNat - 48)) 0
theorem val_snoc (l : List UInt8) (c : UInt8) : val (l ++ [c]) = 10 * val l + (c.toNat - 48) := by simp [val]
def dgs (s : List UInt8) (i : Nat) : List UInt8 := (s.take (min i 8)).drop 2 ++ (s.take i).drop 9
def okAt (s : List UInt8) (p : Nat) : Prop := ∃ c f, s[p]? = some c ∧ nameF[p]? = some f ∧ if f = 48 then 48 ≤ c.toNat ∧ c.toNat ≤ 57 else c = f

theorem len11 {s : List UInt8} (h : s.length = 11) : ∃ c0 c1 c2 c3 c4 c5 c6 c7 c8 c9 c10, s = [c0, c1, c2, c3, c4, c5, c6, c7, c8, c9, c10] := by
  match s, h with
  | [c0, c1, c2, c3, c4, c5, c6, c7, c8, c9, c10], _ => exact ⟨c0, c1, c2, c3, c4, c5, c6, c7, c8, c9, c10, rfl⟩

theorem dgs_step {s : List UInt8} (h : s.length = 11) {i : Nat} (hi : i < 11) {c f : UInt8} (hc : s[i]? = some c) (hf : nameF[i]? = some f) : dgs s (i + 1) = if f = 48 then dgs s i ++ [c] else dgs s i := by
  obtain ⟨c0, c1, c2, c3, c4, c5, c6, c7, c8, c9, c10, rfl⟩ := len11 h
  have : i = 0 ∨ i = 1 ∨ i = 2 ∨ i = 3 ∨ i = 4 ∨ i = 5 ∨ i = 6 ∨ i = 7 ∨ i = 8 ∨ i = 9 ∨ i = 10 := by omega
  rcases this with rfl | rfl | rfl | rfl | rfl | rfl | rfl | rfl | rfl | rfl | rfl <;>
    (simp only [nameF, List.getElem?_cons_zero, List.getElem?_cons_succ, Option.some.injEq] at hc hf; subst hc; subst hf; simp [dgs])

theorem dec_F {i : Nat} (hi : i < 11) : ∃ f r, nameF[i]? = some f ∧ Utf8.decode ⟨nameF.toArray⟩ i = (r, 1) := by
  have : i = 0 ∨ i = 1 ∨ i = 2 ∨ i = 3 ∨ i = 4 ∨ i = 5 ∨ i = 6 ∨ i = 7 ∨ i = 8 ∨ i = 9 ∨ i = 10 := by omega
  have h2 : (Utf8.decode ⟨nameF.toArray⟩ i).2 = 1 := by
    rcases this with rfl | rfl | rfl | rfl | rfl | rfl | rfl | rfl | rfl | rfl | rfl <;> kernel_rfl
  exact ⟨nameF[i]'(by simp [nameF]; omega), (Utf8.decode ⟨nameF.toArray⟩ i).1, List.getElem?_eq_getElem _, Prod.ext rfl h2⟩

theorem iop_ixS {x y : IX} {ρ : IX → AV} {h : H} {s : List UInt8} {i : Nat} {c : UInt8} (hx : ρ x = .str s) (hy : ρ y = .int .i64 i) (hc : s[i]? = some c) : iop (.ixS x y) ρ h = some (.val (.int .u8 c.toNat) h) := by
  have hg : getL s i = some c := by rw [getL_eq]; exact hc
  simp [iop, hx, hy, asI, hg]

set_option maxHeartbeats 2000000 in
theorem parse_loop {s : List UInt8} (hs : s.length = 11) {blk : Nat} :
    ∀ (k i : Nat), i + k = 11 → ∀ (h : H) (ts : List AV), ts.length = 52 → getL ts 0 = some (.str s) → getL ts 5 = some (.int .u64 (val (dgs s i))) → getL ts 13 = some (.ptr ⟨blk, 0, 0⟩) → h.get blk = some (.iter nameF i) → (∀ p, p < i → okAt s p) → val (dgs s i) < 10 ^ i →
      ∀ (Q : Ex → St → Prop), (∀ p, p < 11 → ¬ okAt s p → ∀ ts' h', ts'.length = 52 → h'.n = h.n → (∀ b, b ≠ blk → h'.get b = h.get b) → getL ts' 2 = some (.int .u64 0) → getL ts' 3 = some (.int .i64 0) → getL ts' 4 = some (.int .i64 5) → Q .ret (ts', h')) →
        ((∀ p, p < 11 → okAt s p) → val (dgs s 11) < 10 ^ 11 → ∀ ts' h', ts'.length = 52 → h'.n = h.n → (∀ b, b ≠ blk → h'.get b = h.get b) → getL ts' 5 = some (.int .u64 (val (dgs s 11))) → Q (.exit 0) (ts', h')) → Wp TF (.loop l60_1) (ts, h) Q := by
  intro k
  induction k with
  | zero =>
    intro i hi h ts t0 ta t5 t13 hg hok hv Q hbad hgood
    obtain rfl : i = 11 := by omega
    refine Wp.loop ?_
    rw [laid_eq t0 [(0, .str s), (5, .int .u64 (val (dgs s 11))), (13, .ptr ⟨blk, 0, 0⟩)] (by simp [ta, t5, t13])]
    have en : ∀ {x : IX} {ρ : IX → AV}, ρ x = .ptr ⟨blk, 0, 0⟩ → iop (.next x) ρ h = some (.val (.tup [.bool false]) h) := by
      intro x ρ hx
      have hl : ¬ (11 < nameF.length) := by decide
      simp [iop, hx, hg, hl]
    unfold l60_1
    refine Wp.seq ?_
    refine Wp.region ?_
    refine Wo.val _ h (by kernel_rfl) (en (by kernel_rfl)) ?_
    refine Wo.pre 8 (by kernel_rfl) ?_
    refine Wo.nil ?_
    refine Wp.seq ?_
    refine Wp.cond false (by kernel_rfl) ?_
    exact Wp.exit (hgood hok hv _ _ (by kernel_rfl) rfl (fun _ _ => rfl) (by kernel_rfl))
  | succ k ih =>
    intro i hi h ts t0 ta t5 t13 hg hok hv Q hbad hgood
    have hlt : i < 11 := by omega
    obtain ⟨f, r, hf, hdec⟩ := dec_F hlt
    obtain ⟨c, hc⟩ : ∃ c, s[i]? = some c := ⟨s[i]'(by omega), List.getElem?_eq_getElem (by omega)⟩
    have hstep := dgs_step hs hlt hc hf
    obtain ⟨h1, hh1⟩ : ∃ h1, h1 = h.set blk (.iter nameF (i + 1)) := ⟨_, rfl⟩
    have hg1 : h1.get blk = some (.iter nameF (i + 1)) := by rw [hh1, h.get_set]
    have n1 : h1.n = h.n := by rw [hh1]; rfl
    have k1 : ∀ b, b ≠ blk → h1.get b = h.get b := fun b hb => by rw [hh1]; exact h.get_set_ne _ b _ hb
    have en : ∀ {x : IX} {ρ : IX → AV}, ρ x = .ptr ⟨blk, 0, 0⟩ → iop (.next x) ρ h = some (.val (.tup [.bool true, .int .i64 i, .int .i32 r]) h1) := by
      intro x ρ hx
      have hl : i < nameF.length := by simp [nameF]; omega
      simp [iop, hx, hg, hl, hdec, hh1]
    obtain ⟨V, hV⟩ : ∃ V, V = val (dgs s i) := ⟨_, rfl⟩
    rw [← hV] at t5 hv
    have hp10 : 10 ^ (i + 1) = 10 * 10 ^ i := by rw [Nat.pow_succ, Nat.mul_comm]
    have hp11 : 10 ^ i ≤ 10 ^ 10 := Nat.pow_le_pow_right (by omega) (by omega)
    have hc8 := c.toNat_lt
    have hf8 := f.toNat_lt
    refine Wp.loop ?_
    rw [laid_eq t0 [(0, .str s), (5, .int .u64 V), (13, .ptr ⟨blk, 0, 0⟩)] (by simp [ta, t5, t13])]
    unfold l60_1
    by_cases hf48 : f = 48
    · rw [if_pos hf48] at hstep
      by_cases hd : 48 ≤ c.toNat ∧ c.toNat ≤ 57
      · have hoki : okAt s i := ⟨c, f, hc, hf, by rw [if_pos hf48]; exact hd⟩
        have w1 : IntKind.u64.wrap (10 * (V : Int)) = 10 * (V : Int) := u64_fit _ (by omega)
        have w2 : IntKind.u8.wrap ((c.toNat : Int) - 48) = (c.toNat : Int) - 48 := u8_fit _ (by omega)
        have w3 : IntKind.u64.wrap ((c.toNat : Int) - 48) = (c.toNat : Int) - 48 := u64_fit _ (by omega)
        have w4 : IntKind.u64.wrap (10 * (V : Int) + ((c.toNat : Int) - 48)) = ((val (dgs s (i + 1)) : Nat) : Int) := by
          rw [u64_fit _ (by omega), hstep, val_snoc, ← hV]; omega
        have hv1 : val (dgs s (i + 1)) < 10 ^ (i + 1) := by rw [hstep, val_snoc, ← hV, hp10]; omega
        have hfn : (f.toNat : Int) = 48 := by rw [hf48]; rfl
        refine Wp.seq ?_
        refine Wp.region ?_
        refine Wo.val _ h1 (by kernel_rfl) (en (by kernel_rfl)) ?_
        refine Wo.pre 1 (by kernel_rfl) ?_
        refine Wo.nil ?_
        refine Wp.seq ?_
        refine Wp.cond true (by kernel_rfl) ?_
        refine Wp.skip ?_
        refine Wp.block ?_
        refine Wp.seq ?_
        refine Wp.region ?_
        refine Wo.pre 1 (by kernel_rfl) ?_
        refine Wo.pre 1 (by kernel_rfl) ?_
        refine Wo.nil ?_
        refine Wp.seq ?_
        refine Wp.region ?_
        refine Wo.pre 1 (by kernel_rfl) ?_
        refine Wo.pre 1 (by kernel_rfl) ?_
        refine Wo.val (.int .u8 c.toNat) h1 (by kernel_rfl) (iop_ixS (s := s) (i := i) (by kernel_rfl) (by kernel_rfl) hc) ?_
        refine Wo.pre 1 (by kernel_rfl) ?_
        refine Wo.nil ?_
        refine Wp.seq ?_
        refine Wp.seq ?_
        refine Wp.region ?_
        refine Wo.pre 1 (by kernel_rfl) ?_
        refine Wo.val (.int .u8 f.toNat) h1 (by kernel_rfl) (iop_ixS (s := nameF) (i := i) (by kernel_rfl) (by kernel_rfl) hf) ?_
        refine Wo.val (.bool false) h1 (by kernel_rfl) (iop_cmp (op := .neq) (k := .u8) (a := f.toNat) (b := 48) false (by kernel_rfl) (by kernel_rfl) (by simp) (by simp [binInt, hfn])) ?_
        refine Wo.nil ?_
        refine Wp.cond false (by kernel_rfl) ?_
        refine Wp.skip ?_
        refine Wp.seq ?_
        refine Wp.seq ?_
        refine Wp.region ?_
        refine Wo.pre 1 (by kernel_rfl) ?_
        refine Wo.val (.bool false) h1 (by kernel_rfl) (iop_cmp (op := .lss) (k := .u8) (a := c.toNat) (b := 48) false (by kernel_rfl) (by kernel_rfl) (by simp) (by simp [binInt]; omega)) ?_
        refine Wo.pre 1 (by kernel_rfl) ?_
        refine Wo.pre 1 (by kernel_rfl) ?_
        refine Wo.val (.bool false) h1 (by kernel_rfl) (iop_cmp (op := .gtr) (k := .u8) (a := c.toNat) (b := 57) false (by kernel_rfl) (by kernel_rfl) (by simp) (by simp [binInt]; omega)) ?_
        refine Wo.pre 1 (by kernel_rfl) ?_
        refine Wo.nil ?_
        refine Wp.cond false (by kernel_rfl) ?_
        refine Wp.skip ?_
        refine Wp.region ?_
        refine Wo.pre 1 (by kernel_rfl) ?_
        refine Wo.pre 1 (by kernel_rfl) ?_
        refine Wo.pre 1 (by kernel_rfl) ?_
        refine Wo.pre 1 (by kernel_rfl) ?_
        refine Wo.pre 1 (by kernel_rfl) ?_
        refine Wo.pre 1 (by kernel_rfl) ?_
        refine Wo.pre 1 (by kernel_rfl) ?_
        refine Wo.nil ?_
        refine ih (i + 1) (by omega) h1 _ (by kernel_rfl) (by kernel_rfl) (by rw [← w4, ← w3, ← w2, ← w1]; kernel_rfl) (by kernel_rfl) hg1 (fun p hp => ?_) hv1 Q (fun p hp hn ts' h' g0 g1 g2 => hbad p hp hn ts' h' g0 (by rw [g1, n1]) (fun b hb => by rw [g2 b hb, k1 b hb])) (fun ho hv ts' h' g0 g1 g2 => hgood ho hv ts' h' g0 (by rw [g1, n1]) (fun b hb => by rw [g2 b hb, k1 b hb]))
        by_cases hpi : p = i
        · subst hpi; exact hoki
        · exact hok p (by omega)
      · have hnok : ¬ okAt s i := by
          rintro ⟨c', f', e1, e2, e3⟩
          rw [hc] at e1; rw [hf] at e2
          cases e1; cases e2
          rw [if_pos hf48] at e3
          exact hd e3
        have hfn : (f.toNat : Int) = 48 := by rw [hf48]; rfl
        by_cases hlo : c.toNat < 48
        · refine Wp.seq ?_
          refine Wp.region ?_
          refine Wo.val _ h1 (by kernel_rfl) (en (by kernel_rfl)) ?_
          refine Wo.pre 1 (by kernel_rfl) ?_
          refine Wo.nil ?_
          refine Wp.seq ?_
          refine Wp.cond true (by kernel_rfl) ?_
          refine Wp.skip ?_
          refine Wp.block ?_
          refine Wp.seq ?_
          refine Wp.region ?_
          refine Wo.pre 1 (by kernel_rfl) ?_
          refine Wo.pre 1 (by kernel_rfl) ?_
          refine Wo.nil ?_
          refine Wp.seq ?_
          refine Wp.region ?_
          refine Wo.pre 1 (by kernel_rfl) ?_
          refine Wo.pre 1 (by kernel_rfl) ?_
          refine Wo.val (.int .u8 c.toNat) h1 (by kernel_rfl) (iop_ixS (s := s) (i := i) (by kernel_rfl) (by kernel_rfl) hc) ?_
          refine Wo.pre 1 (by kernel_rfl) ?_
          refine Wo.nil ?_
          refine Wp.seq ?_
          refine Wp.seq ?_
          refine Wp.region ?_
          refine Wo.pre 1 (by kernel_rfl) ?_
          refine Wo.val (.int .u8 f.toNat) h1 (by kernel_rfl) (iop_ixS (s := nameF) (i := i) (by kernel_rfl) (by kernel_rfl) hf) ?_
          refine Wo.val (.bool false) h1 (by kernel_rfl) (iop_cmp (op := .neq) (k := .u8) (a := f.toNat) (b := 48) false (by kernel_rfl) (by kernel_rfl) (by simp) (by simp [binInt, hfn])) ?_
          refine Wo.nil ?_
          refine Wp.cond false (by kernel_rfl) ?_
          refine Wp.skip ?_
          refine Wp.seq ?_
          refine Wp.seq ?_
          refine Wp.region ?_
          refine Wo.pre 1 (by kernel_rfl) ?_
          refine Wo.val (.bool true) h1 (by kernel_rfl) (iop_cmp (op := .lss) (k := .u8) (a := c.toNat) (b := 48) true (by kernel_rfl) (by kernel_rfl) (by simp) (by simp [binInt]; omega)) ?_
          refine Wo.pre 1 (by kernel_rfl) ?_
          refine Wo.pre 1 (by kernel_rfl) ?_
          refine Wo.pre 1 (by kernel_rfl) ?_
          refine Wo.pre 1 (by kernel_rfl) ?_
          refine Wo.nil ?_
          refine Wp.cond true (by kernel_rfl) ?_
          refine Wp.seq ?_
          refine Wp.region ?_
          refine Wo.pre 1 (by kernel_rfl) ?_
          refine Wo.pre 1 (by kernel_rfl) ?_
          refine Wo.pre 1 (by kernel_rfl) ?_
          refine Wo.nil ?_
          exact Wp.ret (hbad i hlt hnok _ _ (by kernel_rfl) n1 k1 (by kernel_rfl) (by kernel_rfl) (by kernel_rfl))
        · refine Wp.seq ?_
          refine Wp.region ?_
          refine Wo.val _ h1 (by kernel_rfl) (en (by kernel_rfl)) ?_
          refine Wo.pre 1 (by kernel_rfl) ?_
          refine Wo.nil ?_
          refine Wp.seq ?_
          refine Wp.cond true (by kernel_rfl) ?_
          refine Wp.skip ?_
          refine Wp.block ?_
          refine Wp.seq ?_
          refine Wp.region ?_
          refine Wo.pre 1 (by kernel_rfl) ?_
          refine Wo.pre 1 (by kernel_rfl) ?_
          refine Wo.nil ?_
          refine Wp.seq ?_
          refine Wp.region ?_
          refine Wo.pre 1 (by kernel_rfl) ?_
          refine Wo.pre 1 (by kernel_rfl) ?_
          refine Wo.val (.int .u8 c.toNat) h1 (by kernel_rfl) (iop_ixS (s := s) (i := i) (by kernel_rfl) (by kernel_rfl) hc) ?_
          refine Wo.pre 1 (by kernel_rfl) ?_
          refine Wo.nil ?_
          refine Wp.seq ?_
          refine Wp.seq ?_
          refine Wp.region ?_
          refine Wo.pre 1 (by kernel_rfl) ?_
          refine Wo.val (.int .u8 f.toNat) h1 (by kernel_rfl) (iop_ixS (s := nameF) (i := i) (by kernel_rfl) (by kernel_rfl) hf) ?_
          refine Wo.val (.bool false) h1 (by kernel_rfl) (iop_cmp (op := .neq) (k := .u8) (a := f.toNat) (b := 48) false (by kernel_rfl) (by kernel_rfl) (by simp) (by simp [binInt, hfn])) ?_
          refine Wo.nil ?_
          refine Wp.cond false (by kernel_rfl) ?_
          refine Wp.skip ?_
          refine Wp.seq ?_
          refine Wp.seq ?_
          refine Wp.region ?_
          refine Wo.pre 1 (by kernel_rfl) ?_
          refine Wo.val (.bool false) h1 (by kernel_rfl) (iop_cmp (op := .lss) (k := .u8) (a := c.toNat) (b := 48) false (by kernel_rfl) (by kernel_rfl) (by simp) (by simp [binInt]; omega)) ?_
          refine Wo.pre 1 (by kernel_rfl) ?_
          refine Wo.pre 1 (by kernel_rfl) ?_
          refine Wo.val (.bool true) h1 (by kernel_rfl) (iop_cmp (op := .gtr) (k := .u8) (a := c.toNat) (b := 57) true (by kernel_rfl) (by kernel_rfl) (by simp) (by simp [binInt]; omega)) ?_
          refine Wo.pre 1 (by kernel_rfl) ?_
          refine Wo.nil ?_
          refine Wp.cond true (by kernel_rfl) ?_
          refine Wp.seq ?_
          refine Wp.region ?_
          refine Wo.pre 1 (by kernel_rfl) ?_
          refine Wo.pre 1 (by kernel_rfl) ?_
          refine Wo.pre 1 (by kernel_rfl) ?_
          refine Wo.nil ?_
          exact Wp.ret (hbad i hlt hnok _ _ (by kernel_rfl) n1 k1 (by kernel_rfl) (by kernel_rfl) (by kernel_rfl))
    · rw [if_neg hf48] at hstep
      have hfn : (f.toNat : Int) ≠ 48 := by
        intro e
        exact hf48 (UInt8.toNat_inj.1 (by have : f.toNat = 48 := by omega
                                          rw [this]; rfl))
      by_cases hcf : c = f
      · have hoki : okAt s i := ⟨c, f, hc, hf, by rw [if_neg hf48]; exact hcf⟩
        have hv1 : val (dgs s (i + 1)) < 10 ^ (i + 1) := by rw [hstep, ← hV, hp10]; omega
        refine Wp.seq ?_
        refine Wp.region ?_
        refine Wo.val _ h1 (by kernel_rfl) (en (by kernel_rfl)) ?_
        refine Wo.pre 1 (by kernel_rfl) ?_
        refine Wo.nil ?_
        refine Wp.seq ?_
        refine Wp.cond true (by kernel_rfl) ?_
        refine Wp.skip ?_
        refine Wp.block ?_
        refine Wp.seq ?_
        refine Wp.region ?_
        refine Wo.pre 1 (by kernel_rfl) ?_
        refine Wo.pre 1 (by kernel_rfl) ?_
        refine Wo.nil ?_
        refine Wp.seq ?_
        refine Wp.region ?_
        refine Wo.pre 1 (by kernel_rfl) ?_
        refine Wo.pre 1 (by kernel_rfl) ?_
        refine Wo.val (.int .u8 c.toNat) h1 (by kernel_rfl) (iop_ixS (s := s) (i := i) (by kernel_rfl) (by kernel_rfl) hc) ?_
        refine Wo.pre 1 (by kernel_rfl) ?_
        refine Wo.nil ?_
        refine Wp.seq ?_
        refine Wp.seq ?_
        refine Wp.region ?_
        refine Wo.pre 1 (by kernel_rfl) ?_
        refine Wo.val (.int .u8 f.toNat) h1 (by kernel_rfl) (iop_ixS (s := nameF) (i := i) (by kernel_rfl) (by kernel_rfl) hf) ?_
        refine Wo.val (.bool true) h1 (by kernel_rfl) (iop_cmp (op := .neq) (k := .u8) (a := f.toNat) (b := 48) true (by kernel_rfl) (by kernel_rfl) (by simp) (by simp [binInt, hfn])) ?_
        refine Wo.nil ?_
        refine Wp.cond true (by kernel_rfl) ?_
        refine Wp.seq ?_
        refine Wp.seq ?_
        refine Wp.region ?_
        refine Wo.pre 1 (by kernel_rfl) ?_
        refine Wo.pre 1 (by kernel_rfl) ?_
        refine Wo.val (.int .u8 f.toNat) h1 (by kernel_rfl) (iop_ixS (s := nameF) (i := i) (by kernel_rfl) (by kernel_rfl) hf) ?_
        refine Wo.val (.bool false) h1 (by kernel_rfl) (iop_cmp (op := .neq) (k := .u8) (a := c.toNat) (b := f.toNat) false (by kernel_rfl) (by kernel_rfl) (by simp) (by simp [binInt, hcf])) ?_
        refine Wo.nil ?_
        refine Wp.cond false (by kernel_rfl) ?_
        refine Wp.skip ?_
        refine Wp.exit ?_
        refine ih (i + 1) (by omega) h1 _ (by kernel_rfl) (by kernel_rfl) (by rw [hstep, ← hV]; kernel_rfl) (by kernel_rfl) hg1 (fun p hp => ?_) hv1 Q (fun p hp hn ts' h' g0 g1 g2 => hbad p hp hn ts' h' g0 (by rw [g1, n1]) (fun b hb => by rw [g2 b hb, k1 b hb])) (fun ho hv ts' h' g0 g1 g2 => hgood ho hv ts' h' g0 (by rw [g1, n1]) (fun b hb => by rw [g2 b hb, k1 b hb]))
        by_cases hpi : p = i
        · subst hpi; exact hoki
        · exact hok p (by omega)
      · have hnok : ¬ okAt s i := by
          rintro ⟨c', f', e1, e2, e3⟩
          rw [hc] at e1; rw [hf] at e2
          cases e1; cases e2
          rw [if_neg hf48] at e3
          exact hcf e3
        have hcn : (c.toNat : Int) ≠ (f.toNat : Int) := by
          intro e
          exact hcf (UInt8.toNat_inj.1 (by omega))
        refine Wp.seq ?_
        refine Wp.region ?_
        refine Wo.val _ h1 (by kernel_rfl) (en (by kernel_rfl)) ?_
        refine Wo.pre 1 (by kernel_rfl) ?_
        refine Wo.nil ?_
        refine Wp.seq ?_
        refine Wp.cond true (by kernel_rfl) ?_
        refine Wp.skip ?_
        refine Wp.block ?_
        refine Wp.seq ?_
        refine Wp.region ?_
        refine Wo.pre 1 (by kernel_rfl) ?_
        refine Wo.pre 1 (by kernel_rfl) ?_
        refine Wo.nil ?_
        refine Wp.seq ?_
        refine Wp.region ?_
        refine Wo.pre 1 (by kernel_rfl) ?_
        refine Wo.pre 1 (by kernel_rfl) ?_
        refine Wo.val (.int .u8 c.toNat) h1 (by kernel_rfl) (iop_ixS (s := s) (i := i) (by kernel_rfl) (by kernel_rfl) hc) ?_
        refine Wo.pre 1 (by kernel_rfl) ?_
        refine Wo.nil ?_
        refine Wp.seq ?_
        refine Wp.seq ?_
        refine Wp.region ?_
        refine Wo.pre 1 (by kernel_rfl) ?_
        refine Wo.val (.int .u8 f.toNat) h1 (by kernel_rfl) (iop_ixS (s := nameF) (i := i) (by kernel_rfl) (by kernel_rfl) hf) ?_
        refine Wo.val (.bool true) h1 (by kernel_rfl) (iop_cmp (op := .neq) (k := .u8) (a := f.toNat) (b := 48) true (by kernel_rfl) (by kernel_rfl) (by simp) (by simp [binInt, hfn])) ?_
        refine Wo.nil ?_
        refine Wp.cond true (by kernel_rfl) ?_
        refine Wp.seq ?_
        refine Wp.seq ?_
        refine Wp.region ?_
        refine Wo.pre 1 (by kernel_rfl) ?_
        refine Wo.pre 1 (by kernel_rfl) ?_
        refine Wo.val (.int .u8 f.toNat) h1 (by kernel_rfl) (iop_ixS (s := nameF) (i := i) (by kernel_rfl) (by kernel_rfl) hf) ?_
        refine Wo.val (.bool true) h1 (by kernel_rfl) (iop_cmp (op := .neq) (k := .u8) (a := c.toNat) (b := f.toNat) true (by kernel_rfl) (by kernel_rfl) (by simp) (by simp [binInt, hcn])) ?_
        refine Wo.nil ?_
        refine Wp.cond true (by kernel_rfl) ?_
        refine Wp.seq ?_
        refine Wp.region ?_
        refine Wo.pre 1 (by kernel_rfl) ?_
        refine Wo.pre 1 (by kernel_rfl) ?_
        refine Wo.pre 1 (by kernel_rfl) ?_
        refine Wo.nil ?_
        exact Wp.ret (hbad i hlt hnok _ _ (by kernel_rfl) n1 k1 (by kernel_rfl) (by kernel_rfl) (by kernel_rfl))
end Go.Det

/- Names of bundles, read: both ways. The law BundleNames. -/
set_option linter.unusedVariables false
set_option linter.unusedSimpArgs false
set_option linter.unusedSectionVars false
namespace Go.Det
open Go.Proofs
attribute [local irreducible] Wp Wo Wd iop ev slots quiets wanted put

def numS (s : List UInt8) : Nat := val ((s.take 8).drop 2)
def widS (s : List UInt8) : Nat := val ((s.take 11).drop 9)
def okS (s : List UInt8) : Prop := s.length = 11 ∧ ∀ p, p < 11 → okAt s p
noncomputable def parseR (s : List UInt8) : AV := @ite _ (okS s ∧ 1 ≤ widS s ∧ widS s ≤ 16) (Classical.propDecidable _) (.tup [.int .u64 (numS s : Nat), .int .i64 (widS s : Nat), .int .i64 0]) (.tup [.int .u64 0, .int .i64 0, .int .i64 5])
theorem parseR_bad {s : List UInt8} (h : ¬ (okS s ∧ 1 ≤ widS s ∧ widS s ≤ 16)) : parseR s = .tup [.int .u64 0, .int .i64 0, .int .i64 5] := by unfold parseR; exact if_neg h
theorem parseR_ok {s : List UInt8} (h : okS s ∧ 1 ≤ widS s ∧ widS s ≤ 16) : parseR s = .tup [.int .u64 (numS s : Nat), .int .i64 (widS s : Nat), .int .i64 0] := by unfold parseR; exact if_pos h

theorem ok_digit {s : List UInt8} {p : Nat} {c : UInt8} (h : okAt s p) (hc : s[p]? = some c) (hf : nameF[p]? = some 48) : 48 ≤ c.toNat ∧ c.toNat ≤ 57 := by
  obtain ⟨c', f', e1, e2, e3⟩ := h
  rw [hc] at e1; rw [hf] at e2
  cases e1; cases e2
  simpa using e3

theorem split_val {s : List UInt8} (h : okS s) : val (dgs s 11) = numS s * 100 + widS s ∧ widS s < 100 ∧ numS s < 1000000 := by
  obtain ⟨hl, hok⟩ := h
  obtain ⟨c0, c1, c2, c3, c4, c5, c6, c7, c8, c9, c10, rfl⟩ := len11 hl
  have d2 := ok_digit (hok 2 (by omega)) (c := c2) rfl rfl
  have d3 := ok_digit (hok 3 (by omega)) (c := c3) rfl rfl
  have d4 := ok_digit (hok 4 (by omega)) (c := c4) rfl rfl
  have d5 := ok_digit (hok 5 (by omega)) (c := c5) rfl rfl
  have d6 := ok_digit (hok 6 (by omega)) (c := c6) rfl rfl
  have d7 := ok_digit (hok 7 (by omega)) (c := c7) rfl rfl
  have d9 := ok_digit (hok 9 (by omega)) (c := c9) rfl rfl
  have d10 := ok_digit (hok 10 (by omega)) (c := c10) rfl rfl
  simp only [dgs, numS, widS, val, List.take, List.drop, List.foldl, List.cons_append, List.nil_append, Nat.min_def]
  simp only [show ¬ (11 ≤ 8) by omega, if_false, List.take, List.drop, List.foldl, List.cons_append, List.nil_append]
  omega

set_option maxHeartbeats 2000000 in
theorem parse_run {h : H} (s : List UInt8) (hl : s.length < 2 ^ 62) : ∃ r h', Runs TF 60 [.str s] h r h' ∧ r = parseR s ∧ Ext h h' := by
  refine Runs.ofP f60 rfl ?_
  by_cases h11 : s.length = 11
  · obtain ⟨H1, hH1⟩ : ∃ H1, H1 = h.new (.iter nameF 0) := ⟨_, rfl⟩
    have X1 : Ext h H1 := by rw [hH1]; exact Ext.new _ _
    have g1 : H1.get h.n = some (.iter nameF 0) := by rw [hH1]; exact h.get_new _
    have er : ∀ ts, iop (.rng (.c (.str [98, 45, 48, 48, 48, 48, 48, 48, 45, 48, 48]))) (ev ts) h = some (.val (.ptr ⟨h.n, 0, 0⟩) H1) := fun ts => by rw [hH1]; kernel_rfl
    have hlen : (s.length : Int) = 11 := by omega
    have hv0 : val (dgs s 0) = 0 := by simp [dgs, val]
    refine Wp.seq ?_
    refine Wp.region ?_
    refine Wo.pre 1 (by kernel_rfl) ?_
    refine Wo.pre 1 (by kernel_rfl) ?_
    refine Wo.pre 1 (by kernel_rfl) ?_
    refine Wo.nil ?_
    refine Wp.seq ?_
    refine Wp.seq ?_
    refine Wp.region ?_
    refine Wo.pre 1 (by kernel_rfl) ?_
    refine Wo.pre 1 (by kernel_rfl) ?_
    refine Wo.val (.bool false) h (by kernel_rfl) (iop_cmp (op := .neq) (k := .i64) (a := s.length) (b := 11) false (by kernel_rfl) (by kernel_rfl) (by simp) (by simp [binInt, hlen])) ?_
    refine Wo.nil ?_
    refine Wp.cond false (by kernel_rfl) ?_
    refine Wp.skip ?_
    refine Wp.seq ?_
    refine Wp.region ?_
    refine Wo.pre 1 (by kernel_rfl) ?_
    refine Wo.nil ?_
    refine Wp.seq ?_
    refine Wp.seq ?_
    refine Wp.region ?_
    refine Wo.val _ H1 (by kernel_rfl) (er _) ?_
    refine Wo.nil ?_
    refine Wp.block ?_
    refine parse_loop h11 (blk := h.n) 11 0 (by omega) H1 _ (by kernel_rfl) (by kernel_rfl) (by rw [hv0]; kernel_rfl) (by kernel_rfl) g1 (fun p hp => absurd hp (by omega)) (by rw [hv0]; decide) _ ?_ ?_
    · intro p hp hn ts' h' d0 dn dk d2 d3 d4
      rw [laid_eq d0 [(2, .int .u64 0), (3, .int .i64 0), (4, .int .i64 5)] (by simp [d2, d3, d4])]
      have e := parseR_bad (s := s) (fun q => hn (q.1.2 p hp))
      exact ⟨.inr rfl, .tup [.int .u64 0, .int .i64 0, .int .i64 5], (by kernel_rfl), e.symm, by have := X1.1; show h.n ≤ h'.n; omega, fun b hb => by show h'.get b = _; rw [dk b (by omega)]; exact X1.2 b hb⟩
    · intro hok hv ts' h' d0 dn dk d5
      have hoks : okS s := ⟨h11, hok⟩
      obtain ⟨q1, q2, q3⟩ := split_val hoks
      rw [q1] at d5 hv
      obtain ⟨N, hN⟩ : ∃ N, N = numS s := ⟨_, rfl⟩
      obtain ⟨W, hW⟩ : ∃ W, W = widS s := ⟨_, rfl⟩
      rw [← hN, ← hW] at d5 hv
      rw [← hN] at q3
      rw [← hW] at q2
      have X' : Ext h h' := ⟨by have := X1.1; omega, fun b hb => by rw [dk b (by omega)]; exact X1.2 b hb⟩
      have w1 : IntKind.u64.wrap (((N * 100 + W : Nat) : Int).tdiv 100) = (N : Int) := by
        rw [Int.tdiv_eq_ediv_of_nonneg (by omega), u64_fit _ (by omega)]; omega
      have w2 : IntKind.i64.wrap (((N * 100 + W : Nat) : Int).tmod 100) = (W : Int) := by
        rw [Int.tmod_eq_emod_of_nonneg (by omega), i64_fit _ (by omega)]; omega
      rw [laid_eq d0 [(5, .int .u64 (N * 100 + W : Nat))] (by simp [d5])]
      by_cases hb1 : W < 1
      · have e := parseR_bad (s := s) (fun q => by have := q.2; omega)
        refine Wp.seq ?_
        refine Wp.region ?_
        refine Wo.pre 1 (by kernel_rfl) ?_
        refine Wo.pre 1 (by kernel_rfl) ?_
        refine Wo.pre 1 (by kernel_rfl) ?_
        refine Wo.pre 1 (by kernel_rfl) ?_
        refine Wo.pre 1 (by kernel_rfl) ?_
        refine Wo.pre 1 (by kernel_rfl) ?_
        refine Wo.pre 1 (by kernel_rfl) ?_
        refine Wo.nil ?_
        refine Wp.seq ?_
        refine Wp.seq ?_
        refine Wp.region ?_
        refine Wo.pre 1 (by kernel_rfl) ?_
        refine Wo.val (.bool true) h' (by kernel_rfl) (iop_cmp (op := .lss) (k := .i64) (a := IntKind.i64.wrap (((N * 100 + W : Nat) : Int).tmod 100)) (b := 1) true (by kernel_rfl) (by kernel_rfl) (by simp) (by rw [w2]; simp [binInt]; omega)) ?_
        refine Wo.pre 1 (by kernel_rfl) ?_
        refine Wo.pre 1 (by kernel_rfl) ?_
        refine Wo.pre 1 (by kernel_rfl) ?_
        refine Wo.pre 1 (by kernel_rfl) ?_
        refine Wo.nil ?_
        refine Wp.cond true (by kernel_rfl) ?_
        refine Wp.seq ?_
        refine Wp.region ?_
        refine Wo.pre 1 (by kernel_rfl) ?_
        refine Wo.pre 1 (by kernel_rfl) ?_
        refine Wo.pre 1 (by kernel_rfl) ?_
        refine Wo.nil ?_
        exact Wp.ret ⟨.inr rfl, .tup [.int .u64 0, .int .i64 0, .int .i64 5], (by kernel_rfl), e.symm, X'⟩
      · by_cases hb2 : W > 16
        · have e := parseR_bad (s := s) (fun q => by have := q.2; omega)
          refine Wp.seq ?_
          refine Wp.region ?_
          refine Wo.pre 1 (by kernel_rfl) ?_
          refine Wo.pre 1 (by kernel_rfl) ?_
          refine Wo.pre 1 (by kernel_rfl) ?_
          refine Wo.pre 1 (by kernel_rfl) ?_
          refine Wo.pre 1 (by kernel_rfl) ?_
          refine Wo.pre 1 (by kernel_rfl) ?_
          refine Wo.pre 1 (by kernel_rfl) ?_
          refine Wo.nil ?_
          refine Wp.seq ?_
          refine Wp.seq ?_
          refine Wp.region ?_
          refine Wo.pre 1 (by kernel_rfl) ?_
          refine Wo.val (.bool false) h' (by kernel_rfl) (iop_cmp (op := .lss) (k := .i64) (a := IntKind.i64.wrap (((N * 100 + W : Nat) : Int).tmod 100)) (b := 1) false (by kernel_rfl) (by kernel_rfl) (by simp) (by rw [w2]; simp [binInt]; omega)) ?_
          refine Wo.pre 1 (by kernel_rfl) ?_
          refine Wo.pre 1 (by kernel_rfl) ?_
          refine Wo.val (.bool true) h' (by kernel_rfl) (iop_cmp (op := .gtr) (k := .i64) (a := IntKind.i64.wrap (((N * 100 + W : Nat) : Int).tmod 100)) (b := 16) true (by kernel_rfl) (by kernel_rfl) (by simp) (by rw [w2]; simp [binInt]; omega)) ?_
          refine Wo.pre 1 (by kernel_rfl) ?_
          refine Wo.nil ?_
          refine Wp.cond true (by kernel_rfl) ?_
          refine Wp.seq ?_
          refine Wp.region ?_
          refine Wo.pre 1 (by kernel_rfl) ?_
          refine Wo.pre 1 (by kernel_rfl) ?_
          refine Wo.pre 1 (by kernel_rfl) ?_
          refine Wo.nil ?_
          exact Wp.ret ⟨.inr rfl, .tup [.int .u64 0, .int .i64 0, .int .i64 5], (by kernel_rfl), e.symm, X'⟩
        · have e := parseR_ok (s := s) ⟨hoks, by omega, by omega⟩
          rw [← hN, ← hW] at e
          refine Wp.seq ?_
          refine Wp.region ?_
          refine Wo.pre 1 (by kernel_rfl) ?_
          refine Wo.pre 1 (by kernel_rfl) ?_
          refine Wo.pre 1 (by kernel_rfl) ?_
          refine Wo.pre 1 (by kernel_rfl) ?_
          refine Wo.pre 1 (by kernel_rfl) ?_
          refine Wo.pre 1 (by kernel_rfl) ?_
          refine Wo.pre 1 (by kernel_rfl) ?_
          refine Wo.nil ?_
          refine Wp.seq ?_
          refine Wp.seq ?_
          refine Wp.region ?_
          refine Wo.pre 1 (by kernel_rfl) ?_
          refine Wo.val (.bool false) h' (by kernel_rfl) (iop_cmp (op := .lss) (k := .i64) (a := IntKind.i64.wrap (((N * 100 + W : Nat) : Int).tmod 100)) (b := 1) false (by kernel_rfl) (by kernel_rfl) (by simp) (by rw [w2]; simp [binInt]; omega)) ?_
          refine Wo.pre 1 (by kernel_rfl) ?_
          refine Wo.pre 1 (by kernel_rfl) ?_
          refine Wo.val (.bool false) h' (by kernel_rfl) (iop_cmp (op := .gtr) (k := .i64) (a := IntKind.i64.wrap (((N * 100 + W : Nat) : Int).tmod 100)) (b := 16) false (by kernel_rfl) (by kernel_rfl) (by simp) (by rw [w2]; simp [binInt]; omega)) ?_
          refine Wo.pre 1 (by kernel_rfl) ?_
          refine Wo.nil ?_
          refine Wp.cond false (by kernel_rfl) ?_
          refine Wp.skip ?_
          refine Wp.seq ?_
          refine Wp.region ?_
          refine Wo.pre 1 (by kernel_rfl) ?_
          refine Wo.pre 1 (by kernel_rfl) ?_
          refine Wo.pre 1 (by kernel_rfl) ?_
          refine Wo.pre 1 (by kernel_rfl) ?_
          refine Wo.pre 1 (by kernel_rfl) ?_
          refine Wo.nil ?_
          exact Wp.ret ⟨.inr rfl, .tup [.int .u64 N, .int .i64 W, .int .i64 0], by rw [← w1, ← w2]; kernel_rfl, e.symm, X'⟩
  · have e := parseR_bad (s := s) (fun q => h11 q.1.1)
    have hlen : (s.length : Int) ≠ 11 := by omega
    refine Wp.seq ?_
    refine Wp.region ?_
    refine Wo.pre 1 (by kernel_rfl) ?_
    refine Wo.pre 1 (by kernel_rfl) ?_
    refine Wo.pre 1 (by kernel_rfl) ?_
    refine Wo.nil ?_
    refine Wp.seq ?_
    refine Wp.seq ?_
    refine Wp.region ?_
    refine Wo.pre 1 (by kernel_rfl) ?_
    refine Wo.pre 1 (by kernel_rfl) ?_
    refine Wo.val (.bool true) h (by kernel_rfl) (iop_cmp (op := .neq) (k := .i64) (a := s.length) (b := 11) true (by kernel_rfl) (by kernel_rfl) (by simp) (by simp [binInt, hlen])) ?_
    refine Wo.nil ?_
    refine Wp.cond true (by kernel_rfl) ?_
    refine Wp.seq ?_
    refine Wp.region ?_
    refine Wo.pre 1 (by kernel_rfl) ?_
    refine Wo.pre 1 (by kernel_rfl) ?_
    refine Wo.pre 1 (by kernel_rfl) ?_
    refine Wo.nil ?_
    exact Wp.ret ⟨.inr rfl, .tup [.int .u64 0, .int .i64 0, .int .i64 5], (by kernel_rfl), e.symm, Ext.refl h⟩
end Go.Det

/- Names of bundles, read by the reference; the law BundleNames. -/
set_option linter.unusedVariables false
set_option linter.unusedSimpArgs false
set_option linter.unusedSectionVars false
namespace Go.Det
open Go.Proofs
attribute [local irreducible] Wp Wo Wd iop ev slots quiets wanted put

theorem wakes_run (h : H) : Runs TF 62 [] h (.bool true) h := Runs.known (by kernel_rfl) h

end Go.Det

/- Names of bundles, both ways: the plain law. -/
set_option linter.unusedVariables false
set_option linter.unusedSimpArgs false
set_option linter.unusedSectionVars false
namespace Go.Det
open Go.Proofs

/-- What Name, what Parse answers. -/
def nameT (n : Nat) (w : Int) (s : List UInt8) (E : Int) : Prop := nameR n w = .tup [.str s, .int .i64 E]
def parseT (s : List UInt8) (n w : Nat) (E : Int) : Prop := parseR s = .tup [.int .u64 n, .int .i64 w, .int .i64 E]

theorem nameJ {h : H} {n : Nat} (hn : n < 2 ^ 64) (width : Int) : ∃ r h', Runs TF 58 [.int .u64 n, .int .i64 width] h r h' ∧ ∃ s E, r = .tup [.str s, .int .i64 E] ∧ Ext h h' ∧ nameT n width s E := by
  obtain ⟨r, h', c, e, x⟩ := name_run (h := h) hn width
  by_cases hb : (n : Int) < 1000000 ∧ 1 ≤ width ∧ width ≤ 16
  · obtain ⟨w, rfl⟩ : ∃ w : Nat, width = w := ⟨width.toNat, by omega⟩
    have e2 := nameR_ok hb
    exact ⟨r, h', c, _, _, e.trans e2, x, e2⟩
  · have e2 := nameR_bad hb
    exact ⟨r, h', c, _, _, e.trans e2, x, e2⟩
theorem parseJ {h : H} (s : List UInt8) (hl : s.length < 2 ^ 62) : ∃ r h', Runs TF 60 [.str s] h r h' ∧ ∃ n w E, r = .tup [.int .u64 (n : Nat), .int .i64 (w : Nat), .int .i64 E] ∧ Ext h h' ∧ parseT s n w E ∧ n < 2 ^ 64 := by
  obtain ⟨r, h', c, e, x⟩ := parse_run (h := h) s hl
  by_cases hb : okS s ∧ 1 ≤ widS s ∧ widS s ≤ 16
  · have e2 := parseR_ok hb
    have := split_val hb.1
    exact ⟨r, h', c, _, _, _, e.trans e2, x, e2, by omega⟩
  · have e2 := parseR_bad hb
    exact ⟨r, h', c, 0, 0, 5, e.trans e2, x, e2, by omega⟩

theorem nameT_cases {n : Nat} {w : Int} {s : List UInt8} {E : Int} (h : nameT n w s E) : (E = 0 ∧ n < 1000000 ∧ 1 ≤ w ∧ w ≤ 16 ∧ s = nameS n w.toNat) ∨ (E = 1 ∧ s = [] ∧ ¬ ((n : Int) < 1000000 ∧ 1 ≤ w ∧ w ≤ 16)) := by
  unfold nameT at h
  by_cases hb : (n : Int) < 1000000 ∧ 1 ≤ w ∧ w ≤ 16
  · obtain ⟨k, rfl⟩ : ∃ k : Nat, w = k := ⟨w.toNat, by omega⟩
    rw [nameR_ok hb] at h
    simp only [AV.tup.injEq, List.cons.injEq, AV.str.injEq, AV.int.injEq, true_and, and_true] at h
    exact .inl ⟨h.2.symm, by omega, hb.2.1, hb.2.2, by rw [← h.1]; rfl⟩
  · rw [nameR_bad hb] at h
    simp only [AV.tup.injEq, List.cons.injEq, AV.str.injEq, AV.int.injEq, true_and, and_true] at h
    exact .inr ⟨h.2.symm, h.1.symm, hb⟩
theorem parseT_cases {s : List UInt8} {n w : Nat} {E : Int} (h : parseT s n w E) : (E = 0 ∧ okS s ∧ 1 ≤ w ∧ w ≤ 16 ∧ n = numS s ∧ w = widS s) ∨ (E = 5 ∧ n = 0 ∧ w = 0 ∧ ¬ (okS s ∧ 1 ≤ widS s ∧ widS s ≤ 16)) := by
  unfold parseT at h
  by_cases hb : okS s ∧ 1 ≤ widS s ∧ widS s ≤ 16
  · rw [parseR_ok hb] at h
    simp only [AV.tup.injEq, List.cons.injEq, AV.int.injEq, true_and, and_true] at h
    obtain ⟨h1, h2, h3⟩ := h
    exact .inl ⟨h3.symm, hb.1, by omega, by omega, by omega, by omega⟩
  · rw [parseR_bad hb] at h
    simp only [AV.tup.injEq, List.cons.injEq, AV.int.injEq, true_and, and_true] at h
    obtain ⟨h1, h2, h3⟩ := h
    exact .inr ⟨h3.symm, by omega, by omega, hb⟩

theorem digit_toNat (m : Nat) : (UInt8.ofNat (48 + m % 10)).toNat = 48 + m % 10 := by rw [UInt8.toNat_ofNat']; omega
theorem val_cons (c : UInt8) (l : List UInt8) (a : Nat) : l.foldl (fun a c => 10 * a + (c.toNat - 48)) a = 10 ^ l.length * a + val l := by
  induction l generalizing a with
  | nil => simp [val]
  | cons x l ih =>
    rw [val, List.foldl_cons, List.foldl_cons, ih, ih (10 * 0 + (x.toNat - 48)), List.length_cons, Nat.pow_succ]
    simp only [Nat.mul_zero, Nat.zero_add, Nat.mul_add]
    rw [← Nat.mul_assoc]; omega
theorem val_digs (n : Nat) : ∀ k, val (digs n k) = n % 10 ^ k
  | 0 => by simp [digs, val, Nat.mod_one]
  | k + 1 => by
    rw [digs, val, List.foldl_cons, val_cons 0, val_digs n k, digs_len, digit_toNat]
    simp only [Nat.mul_zero, Nat.zero_add]
    have h1 := Nat.mod_mul (a := 10 ^ k) (b := 10) (x := n)
    rw [← Nat.pow_succ] at h1
    rw [h1, show 48 + n / 10 ^ k % 10 - 48 = n / 10 ^ k % 10 by omega, Nat.mul_comm]
    have : 10 ^ k * (n / 10 ^ k % 10) = n / 10 ^ k % 10 * 10 ^ k := Nat.mul_comm _ _
    omega
theorem digs_digit {n : Nat} : ∀ {k : Nat} {c : UInt8}, c ∈ digs n k → 48 ≤ c.toNat ∧ c.toNat ≤ 57
  | 0, c, h => by simp [digs] at h
  | k + 1, c, h => by
    simp only [digs, List.mem_cons] at h
    rcases h with rfl | h
    · rw [digit_toNat]; omega
    · exact digs_digit h

theorem nameS_len (n w : Nat) : (nameS n w).length = 11 := by simp [nameS, digs_len]
theorem nameS_ok (n w : Nat) : okS (nameS n w) := by
  refine ⟨nameS_len n w, fun p hp => ?_⟩
  obtain ⟨a0, a1, a2, a3, a4, a5, ha⟩ : ∃ a0 a1 a2 a3 a4 a5, digs n 6 = [a0, a1, a2, a3, a4, a5] := ⟨_, _, _, _, _, _, rfl⟩
  obtain ⟨b0, b1, hb⟩ : ∃ b0 b1, digs w 2 = [b0, b1] := ⟨_, _, rfl⟩
  have h6 : ∀ c ∈ [a0, a1, a2, a3, a4, a5], 48 ≤ c.toNat ∧ c.toNat ≤ 57 := fun c hc => digs_digit (n := n) (k := 6) (by rw [ha]; exact hc)
  have h2 : ∀ c ∈ [b0, b1], 48 ≤ c.toNat ∧ c.toNat ≤ 57 := fun c hc => digs_digit (n := w) (k := 2) (by rw [hb]; exact hc)
  have e : nameS n w = [98, 45, a0, a1, a2, a3, a4, a5, 45, b0, b1] := by rw [nameS, ha, hb]; rfl
  rw [e]
  have : p = 0 ∨ p = 1 ∨ p = 2 ∨ p = 3 ∨ p = 4 ∨ p = 5 ∨ p = 6 ∨ p = 7 ∨ p = 8 ∨ p = 9 ∨ p = 10 := by omega
  rcases this with rfl | rfl | rfl | rfl | rfl | rfl | rfl | rfl | rfl | rfl | rfl
  · exact ⟨98, 98, rfl, rfl, by rw [if_neg (by decide)]⟩
  · exact ⟨45, 45, rfl, rfl, by rw [if_neg (by decide)]⟩
  · exact ⟨a0, 48, rfl, rfl, by rw [if_pos rfl]; exact h6 _ (by simp)⟩
  · exact ⟨a1, 48, rfl, rfl, by rw [if_pos rfl]; exact h6 _ (by simp)⟩
  · exact ⟨a2, 48, rfl, rfl, by rw [if_pos rfl]; exact h6 _ (by simp)⟩
  · exact ⟨a3, 48, rfl, rfl, by rw [if_pos rfl]; exact h6 _ (by simp)⟩
  · exact ⟨a4, 48, rfl, rfl, by rw [if_pos rfl]; exact h6 _ (by simp)⟩
  · exact ⟨a5, 48, rfl, rfl, by rw [if_pos rfl]; exact h6 _ (by simp)⟩
  · exact ⟨45, 45, rfl, rfl, by rw [if_neg (by decide)]⟩
  · exact ⟨b0, 48, rfl, rfl, by rw [if_pos rfl]; exact h2 _ (by simp)⟩
  · exact ⟨b1, 48, rfl, rfl, by rw [if_pos rfl]; exact h2 _ (by simp)⟩
theorem nameS_num {n w : Nat} (hn : n < 1000000) (hw : w < 100) : numS (nameS n w) = n ∧ widS (nameS n w) = w := by
  have e1 : ((nameS n w).take 8).drop 2 = digs n 6 := by
    have : nameS n w = [98, 45] ++ digs n 6 ++ ([45] ++ digs w 2) := by simp [nameS]
    rw [this, List.take_append_of_le_length (by simp [digs_len]), List.take_of_length_le (by simp [digs_len])]
    rfl
  have e2 : ((nameS n w).take 11).drop 9 = digs w 2 := by
    rw [List.take_of_length_le (by rw [nameS_len]; exact Nat.le_refl _)]
    have : nameS n w = ([98, 45] ++ digs n 6 ++ [45]) ++ digs w 2 := by simp [nameS]
    rw [this, List.drop_left' (by simp [digs_len])]
  rw [numS, widS, e1, e2, val_digs, val_digs]
  exact ⟨Nat.mod_eq_of_lt (by omega), Nat.mod_eq_of_lt (by omega)⟩

theorem name_back {n : Nat} {w : Int} {s : List UInt8} {n' w' : Nat} {E E' : Int} (h : nameT n w s E) (hE : E = 0) (h' : parseT s n' w' E') : E' = 0 ∧ n' = n ∧ (w' : Int) = w ∧ s.length = 11 := by
  rcases nameT_cases h with ⟨_, h1, h2, h3, rfl⟩ | ⟨e, _⟩
  · have hk := nameS_num (n := n) (w := w.toNat) h1 (by omega)
    have ok := nameS_ok n w.toNat
    rcases parseT_cases h' with ⟨g0, _, _, _, g1, g2⟩ | ⟨_, _, _, g⟩
    · exact ⟨g0, by omega, by omega, nameS_len _ _⟩
    · exact absurd ⟨ok, by omega, by omega⟩ g
  · omega

theorem digs_snoc (n : Nat) : ∀ k, digs n (k + 1) = digs (n / 10) k ++ [UInt8.ofNat (48 + n % 10)]
  | 0 => by simp [digs]
  | k + 1 => by
    rw [digs, digs_snoc n k, digs, Nat.div_div_eq_div_mul, Nat.mul_comm 10, ← Nat.pow_succ]
    rfl
theorem snoc_cases {α : Type} (l : List α) : l = [] ∨ ∃ a c, l = a ++ [c] := by
  cases l with
  | nil => exact .inl rfl
  | cons x l => exact .inr ⟨(x :: l).dropLast, (x :: l).getLast (by simp), (List.dropLast_concat_getLast (by simp)).symm⟩
theorem digs_val : ∀ (k : Nat) (l : List UInt8), l.length = k → (∀ c ∈ l, 48 ≤ c.toNat ∧ c.toNat ≤ 57) → digs (val l) l.length = l
  | 0, l, h, _ => by obtain rfl := List.length_eq_zero_iff.1 h; rfl
  | k + 1, l, h, hd => by
    rcases snoc_cases l with rfl | ⟨a, c, rfl⟩
    · simp at h
    · have hc := hd c (by simp)
      rw [List.length_append, List.length_singleton, digs_snoc, val_snoc, show (10 * val a + (c.toNat - 48)) / 10 = val a by omega, show (10 * val a + (c.toNat - 48)) % 10 = c.toNat - 48 by omega, digs_val k a (by simpa using h) (fun x hx => hd x (by simp [hx]))]
      rw [show 48 + (c.toNat - 48) = c.toNat by omega, UInt8.ofNat_toNat]
theorem okS_name {s : List UInt8} (h : okS s) : nameS (numS s) (widS s) = s := by
  obtain ⟨hl, hok⟩ := h
  obtain ⟨c0, c1, c2, c3, c4, c5, c6, c7, c8, c9, c10, rfl⟩ := len11 hl
  have d2 := ok_digit (hok 2 (by omega)) (c := c2) rfl rfl
  have d3 := ok_digit (hok 3 (by omega)) (c := c3) rfl rfl
  have d4 := ok_digit (hok 4 (by omega)) (c := c4) rfl rfl
  have d5 := ok_digit (hok 5 (by omega)) (c := c5) rfl rfl
  have d6 := ok_digit (hok 6 (by omega)) (c := c6) rfl rfl
  have d7 := ok_digit (hok 7 (by omega)) (c := c7) rfl rfl
  have d9 := ok_digit (hok 9 (by omega)) (c := c9) rfl rfl
  have d10 := ok_digit (hok 10 (by omega)) (c := c10) rfl rfl
  have k0 : c0 = 98 := by
    obtain ⟨c, f, h1, h2, h3⟩ := hok 0 (by omega)
    cases h1; cases h2
    rw [if_neg (by decide)] at h3; exact h3
  have k1 : c1 = 45 := by
    obtain ⟨c, f, h1, h2, h3⟩ := hok 1 (by omega)
    cases h1; cases h2
    rw [if_neg (by decide)] at h3; exact h3
  have k8 : c8 = 45 := by
    obtain ⟨c, f, h1, h2, h3⟩ := hok 8 (by omega)
    cases h1; cases h2
    rw [if_neg (by decide)] at h3; exact h3
  subst k0; subst k1; subst k8
  have e1 := digs_val 6 [c2, c3, c4, c5, c6, c7] rfl (by
    intro c hc
    simp only [List.mem_cons, List.not_mem_nil, or_false] at hc
    rcases hc with rfl | rfl | rfl | rfl | rfl | rfl <;> assumption)
  have e2 := digs_val 2 [c9, c10] rfl (by
    intro c hc
    simp only [List.mem_cons, List.not_mem_nil, or_false] at hc
    rcases hc with rfl | rfl <;> assumption)
  show [98, 45] ++ digs (val [c2, c3, c4, c5, c6, c7]) 6 ++ [45] ++ digs (val [c9, c10]) 2 = _
  have e1' : digs (val [c2, c3, c4, c5, c6, c7]) 6 = _ := e1
  have e2' : digs (val [c9, c10]) 2 = _ := e2
  rw [e1', e2']
  rfl
theorem parse_back {s s' : List UInt8} {n w : Nat} {E E' : Int} (h : parseT s n w E) (hE : E = 0) (h' : nameT n w s' E') : E' = 0 ∧ s' = s := by
  rcases parseT_cases h with ⟨_, ok, h1, h2, g1, g2⟩ | ⟨e, _⟩
  · have h3 := split_val ok
    rcases nameT_cases h' with ⟨e, _, _, _, e2⟩ | ⟨_, _, e⟩
    · refine ⟨e, ?_⟩
      rw [e2, show ((w : Int)).toNat = w by omega, g1, g2]
      exact okS_name ok
    · exact absurd ⟨by omega, by omega, by omega⟩ e
  · omega
theorem parse_none {s : List UInt8} {n w : Nat} {E : Int} (h : parseT s n w E) (hE : ¬ E = 0) : (n : Int) = 0 ∧ (w : Int) = 0 ∧ E = 5 := by
  rcases parseT_cases h with ⟨e, _⟩ | ⟨e, h1, h2, _⟩
  · exact absurd e hE
  · exact ⟨by omega, by omega, e⟩
end Go.Det

/- Bundles joined and cut off: the plain law. -/
set_option linter.unusedVariables false
set_option linter.unusedSimpArgs false
set_option linter.unusedSectionVars false
namespace Go.Det
open Go.Proofs

end Go.Det

/- The laws of bundles, walked. -/
set_option linter.unusedVariables false
set_option linter.unusedSimpArgs false
set_option linter.unusedSectionVars false
namespace Go.Det
open Go.Proofs
attribute [local irreducible] Wp Wo Wd iop ev slots quiets wanted put

def FewR (rs : List Rec) : Prop := (rs.length + 1) * 32 ≤ 200000000000000 ∧ ∀ r ∈ rs, r.2.length * 24 ≤ 140737488355328 ∧ ∀ l ∈ r.2, l.length ≤ maxRow
theorem few_iff {xs : List Ent} : FewE xs ↔ FewR (recsE xs) := by
  unfold FewE FewR
  rw [recs_len]
  refine and_congr Iff.rfl ⟨fun h r hr => ?_, fun h e he => ?_⟩
  · obtain ⟨e, he, rfl⟩ := List.mem_map.1 hr
    refine ⟨?_, fun l hl => ?_⟩
    · have := (h e he).1
      show (says e.ps).length * 24 ≤ _
      rw [says_len]; exact this
    · obtain ⟨p, hp, rfl⟩ := List.mem_map.1 (show l ∈ says e.ps from hl)
      exact (h e he).2 p hp
  · have := h e.tell (List.mem_map_of_mem he)
    refine ⟨?_, fun p hp => this.2 p.2 (List.mem_map_of_mem hp)⟩
    have h1 : (says e.ps).length * 24 ≤ 140737488355328 := this.1
    rw [says_len] at h1; exact h1
theorem few_may {rs : List Rec} (hm : mayR rs = true) : FewR rs := by
  have hmx : 200000000000000 = maxRow := rfl
  obtain ⟨h1, h2, h3⟩ := mayR_iff.1 hm
  refine ⟨by omega, fun r hr => ?_⟩
  obtain ⟨g1, g2, g3⟩ := mayS_small (h3 r hr)
  exact ⟨by omega, fun l hl => by have := (g3 l hl).2; omega⟩
theorem few_take {l : List UInt8} {xs : List Ent} {E : Int} (h : takeOf l = (recsE xs, E)) : FewE xs := by
  rw [few_iff]
  rcases take_dec h with ⟨_, hm, _⟩ | ⟨_, e⟩
  · exact few_may hm
  · rw [e]; exact ⟨by simp, fun r hr => by simp at hr⟩
theorem Es.times {h : H} {v : AV} {xs : List Ent} (c : Es h v xs) : ∀ r ∈ recsE xs, r.1 < 2 ^ 64 := fun r hr => by
  obtain ⟨e, he, rfl⟩ := List.mem_map.1 hr
  exact (c.el e he).2
theorem putE_zero {rs : List Rec} : putE rs = 0 ↔ mayR rs = true := by
  unfold putE; split <;> simp_all
theorem putX_len (rs : List Rec) : (putX rs).length ≤ 50000 := by
  unfold putX
  split
  · rename_i hm
    obtain ⟨h1, h2, h3⟩ := mayR_iff.1 hm
    have := bytesR_len rs h3
    omega
  · simp
/-- A range of entries' rows whose bytes may be spoiled. -/
structure OwEI (lo hi : Nat) (h : H) (v : AV) (xs : List Ent) : Prop where
  k : OwE lo h v xs
  hi : Go.Det.blk v ≤ hi ∧ ∀ e ∈ xs, Go.Det.blk e.z ≤ hi ∧ ∀ p ∈ e.ps, Go.Det.blk p.1 ≤ hi
theorem OwE.rng {lo : Nat} {h : H} {v : AV} {xs : List Ent} (o : OwE lo h v xs) : Go.Det.blk v ≤ h.n ∧ ∀ e ∈ xs, Go.Det.blk e.z ≤ h.n ∧ ∀ p ∈ e.ps, Go.Det.blk p.1 ≤ h.n :=
  ⟨o.row.bd.2, fun e he => ⟨(o.el e he).1.bd.2, fun p hp => ((o.el e he).1.el p hp).bd.2⟩⟩

theorem same68_run {h : H} {v w : AV} {xs ys : List Ent} (hc : Es h v xs) (hd : Es h w ys) (hf : FewE xs) : ∃ r h', Runs TF 68 [v, w] h r h' ∧ r = .bool (decide (recsE xs = recsE ys)) ∧ Ext h h' := by
  refine Runs.ofP f68 rfl ?_
  have hmx : 200000000000000 = maxRow := rfl
  by_cases hl : xs.length = ys.length
  · have m1 := hc.bq
    have k2 := hc.parts
    have m3 := hd.bq
    have k4 := hd.parts
    refine Wp.seq ?_
    refine Wp.region ?_
    refine Wo.pre 1 (by kernel_rfl) ?_
    refine Wo.nil ?_
    refine Wp.seq ?_
    refine Wp.seq ?_
    refine Wp.region ?_
    refine Wo.pre 1 (by kernel_rfl) ?_
    refine Wo.val (.int .i64 (List.length (xs) : Nat)) h (by kernel_rfl) (iop_lenS (v := v) (by kernel_rfl) hc.lenS) ?_
    refine Wo.pre 1 (by kernel_rfl) ?_
    refine Wo.val (.int .i64 (List.length (ys) : Nat)) h (by kernel_rfl) (iop_lenS (v := w) (by kernel_rfl) hd.lenS) ?_
    refine Wo.cmpN (op := .neq) (x := IX.t 7) (y := IX.t 9) (k := IntKind.i64) (a := ↑xs.length) (b := ↑ys.length) ((↑xs.length : Int) = (↑ys.length : Int)) (by kernel_rfl) (by kernel_rfl) (by kernel_rfl) (by kernel_rfl) (by simp) (by kernel_rfl) (fun q5 => ?_) (fun q5 => ?_)
    rotate_left
    · (exfalso; omega)
    refine Wo.nil ?_
    refine Wp.cond false (by kernel_rfl) ?_
    refine Wp.skip ?_
    refine Wp.seq ?_
    refine Wp.seq ?_
    refine Wp.region ?_
    refine Wo.pre 1 (by kernel_rfl) ?_
    refine Wo.nil ?_
    refine Wp.block ?_
    refine same68_loop hc hd hl hf xs.length 0 (by omega) h _ (Ext.refl _) (by simp [recsE]) (by kernel_rfl) (by kernel_rfl) (by kernel_rfl) (by kernel_rfl) _ ?_ ?_
    · intro ts' h' hE hm t0
      rw [hm]
      show Wp TF _ _ _
      rw [laid_eq t0 [] (by simp)]
      have m1 := hc.bq
      have k2 := hc.parts
      have m3 := hd.bq
      have k4 := hd.parts
      have m5 := hE.1
      refine Wp.seq ?_
      refine Wp.region ?_
      refine Wo.pre 1 (by kernel_rfl) ?_
      refine Wo.nil ?_
      refine Wp.ret ?_
      refine ⟨.inr rfl, (AV.bool true), (ret_one (res_tmp (by kernel_rfl) res_nil)), ?_⟩
      dsimp only
      exact ⟨rfl, hE⟩
    · intro ts' h' hm hE t4
      rw [hm]
      exact ⟨.inr rfl, .bool false, ret_one (res_tmp (by rw [t4]; rfl) res_nil), rfl, hE⟩
  · have e : decide (recsE xs = recsE ys) = false := by
      simp only [decide_eq_false_iff_not]
      intro e
      have := congrArg List.length e
      rw [recs_len, recs_len] at this
      exact hl this
    rw [e]
    have m1 := hc.bq
    have k2 := hc.parts
    have m3 := hd.bq
    have k4 := hd.parts
    refine Wp.seq ?_
    refine Wp.region ?_
    refine Wo.pre 1 (by kernel_rfl) ?_
    refine Wo.nil ?_
    refine Wp.seq ?_
    refine Wp.seq ?_
    refine Wp.region ?_
    refine Wo.pre 1 (by kernel_rfl) ?_
    refine Wo.val (.int .i64 (List.length (xs) : Nat)) h (by kernel_rfl) (iop_lenS (v := v) (by kernel_rfl) hc.lenS) ?_
    refine Wo.pre 1 (by kernel_rfl) ?_
    refine Wo.val (.int .i64 (List.length (ys) : Nat)) h (by kernel_rfl) (iop_lenS (v := w) (by kernel_rfl) hd.lenS) ?_
    refine Wo.cmpN (op := .neq) (x := IX.t 7) (y := IX.t 9) (k := IntKind.i64) (a := ↑xs.length) (b := ↑ys.length) ((↑xs.length : Int) = (↑ys.length : Int)) (by kernel_rfl) (by kernel_rfl) (by kernel_rfl) (by kernel_rfl) (by simp) (by kernel_rfl) (fun q5 => ?_) (fun q5 => ?_)
    · (exfalso; omega)
    refine Wo.nil ?_
    refine Wp.cond true (by kernel_rfl) ?_
    refine Wp.seq ?_
    refine Wp.region ?_
    refine Wo.pre 1 (by kernel_rfl) ?_
    refine Wo.nil ?_
    refine Wp.ret ?_
    refine ⟨.inr rfl, (AV.bool false), (ret_one (res_tmp (by kernel_rfl) res_nil)), ?_⟩
    dsimp only
    exact ⟨rfl, (Ext.refl _)⟩

def trueQ (k : Nat) : Ex → St → Prop := fun e s => (e = .normal ∨ e = .ret) ∧ ∃ v, retV s.2 s.1 [(k, none)] = some v ∧ v = .bool true
attribute [local irreducible] takeOf putX putE mayR recsE
end Go.Det

/- The law BundleJoins, walked. -/
set_option linter.unusedVariables false
set_option linter.unusedSimpArgs false
set_option linter.unusedSectionVars false
namespace Go.Det
open Go.Proofs
attribute [local irreducible] Wp Wo Wd iop ev slots quiets wanted put

attribute [local irreducible] takeOf putX putE mayR recsE
end Go.Det

/- The law BundleBack, walked. -/
set_option linter.unusedVariables false
set_option linter.unusedSimpArgs false
set_option linter.unusedSectionVars false
namespace Go.Det
open Go.Proofs
attribute [local irreducible] Wp Wo Wd iop ev slots quiets wanted put

theorem name_short {n : Nat} {w : Int} {s : List UInt8} {E : Int} (h : nameT n w s E) : s.length < 2 ^ 62 := by
  rcases nameT_cases h with ⟨_, _, _, _, rfl⟩ | ⟨_, rfl, _⟩
  · rw [nameS_len]; omega
  · simp
theorem take_put {l : List UInt8} {xs : List Ent} {E : Int} (h : takeOf l = (recsE xs, E)) (hE : E = 0) : putE (recsE xs) = 0 ∧ putX (recsE xs) = l := by
  rcases take_dec h with ⟨_, h1, h2, _⟩ | ⟨h1, _⟩
  · exact ⟨putE_zero.2 h1, by rw [putX, if_pos h1]; exact h2⟩
  · omega
theorem take_not {l : List UInt8} {xs : List Ent} {E : Int} (h : takeOf l = (recsE xs, E)) (hE : ¬ E = 0) : xs.length = 0 ∧ E = 5 := by
  rcases take_dec h with ⟨h1, _⟩ | ⟨h1, h2⟩
  · exact absurd h1 hE
  · exact ⟨by rw [← recs_len, h2]; rfl, h1⟩
theorem putX_nil {rs : List Rec} (h : ¬ putE rs = 0) : (putX rs).length = 0 := by
  have : ¬ mayR rs = true := fun e => h (putE_zero.2 e)
  rw [putX, if_neg this]; rfl
theorem put_take {h : H} {v : AV} {xs ys : List Ent} {E : Int} (hc : Es h v xs) (e : putE (recsE xs) = 0) (h : takeOf (putX (recsE xs)) = (recsE ys, E)) : E = 0 ∧ decide (recsE ys = recsE xs) = true := by
  have hm := putE_zero.1 e
  rw [putX, if_pos hm, take_enc hm hc.times] at h
  simp only [Prod.mk.injEq] at h
  exact ⟨h.2.symm, by simp [h.1]⟩

def bb1 : IC := sndS (sndS (sndS (sndS ir16.body)))
def bb2 : IC := sndS (sndS bb1)
def bb3 : IC := sndS (sndS bb2)

attribute [local irreducible] takeOf putX putE mayR recsE nameT parseT
set_option maxHeartbeats 16000000 in
theorem bb_3 {h : H} {ts : List AV} {nm : List UInt8} (hl : nm.length < 2 ^ 62) (t0 : ts.length = 159) (t4 : getL ts 4 = some (.str nm)) : Wp TF bb3 (ts, h) (trueQ 10) := by
  rw [laid_eq t0 [(4, .str nm)] (by simp [t4])]
  unfold trueQ
  refine Wp.seq ?_
  refine Wp.region ?_
  refine Wo.pre 1 (by kernel_rfl) ?_
  obtain ⟨r1, H2, c3, n4, w5, E6, rfl, X8, q9, q10⟩ := parseJ (h := h) (nm) hl
  have m11 := X8.1
  refine Wo.call (by kernel_rfl) (by kernel_rfl) c3 ?_
  clear c3
  refine Wo.pre 7 (by kernel_rfl) ?_
  refine Wo.nil ?_
  refine Wp.seq ?_
  refine Wp.seq ?_
  refine Wp.region ?_
  refine Wo.pre 1 (by kernel_rfl) ?_
  refine Wo.cmpN (op := .neq) (x := IX.t 128) (y := IX.c (AV.int IntKind.i64 0)) (k := IntKind.i64) (a := E6) (b := 0) ((E6 : Int) = (0 : Int)) (by kernel_rfl) (by kernel_rfl) (by kernel_rfl) (by kernel_rfl) (by simp) (by kernel_rfl) (fun q12 => ?_) (fun q12 => ?_)
  · skip
    refine Wo.nil ?_
    refine Wp.cond false (by kernel_rfl) ?_
    refine Wp.skip ?_
    refine Wp.seq ?_
    refine Wp.region ?_
    refine Wo.pre 2 (by kernel_rfl) ?_
    obtain ⟨r13, H14, c15, s16, E17, rfl, X19, q20⟩ := nameJ (h := H2) (n := n4) q10 (↑w5)
    have m21 := X19.1
    refine Wo.call (by kernel_rfl) (by kernel_rfl) c15 ?_
    clear c15
    refine Wo.pre 5 (by kernel_rfl) ?_
    refine Wo.nil ?_
    refine Wp.seq ?_
    refine Wp.region ?_
    refine Wo.pre 1 (by kernel_rfl) ?_
    refine Wo.cmp (op := .eql) (x := IX.t 149) (y := IX.c (AV.int IntKind.i64 0)) (k := IntKind.i64) (a := E17) (b := 0) ((E17 : Int) = (0 : Int)) (by kernel_rfl) (by kernel_rfl) (by kernel_rfl) (by kernel_rfl) (by simp) (by kernel_rfl) (fun q22 => ?_) (fun q22 => ?_)
    rotate_left
    · exact (‹¬ (_ : Int) = 0› (parse_back (by with_reducible assumption) (by with_reducible assumption) (by with_reducible assumption)).1).elim
    refine Wo.pre 3 (by kernel_rfl) ?_
    refine Wo.cmpS (x := IX.t 152) (y := IX.t 153) (a := s16) (b := nm) (by kernel_rfl) (by kernel_rfl) (by kernel_rfl) (by kernel_rfl) (fun q23 => ?_) (fun q23 => ?_)
    rotate_left
    · exact (‹(_ : List UInt8) ≠ _› (parse_back (by with_reducible assumption) (by with_reducible assumption) (by with_reducible assumption)).2).elim
    refine Wo.pre 2 (by kernel_rfl) ?_
    have c24 := wakes_run (H14)
    refine Wo.call (by kernel_rfl) (by kernel_rfl) c24 ?_
    clear c24
    refine Wo.pre 2 (by kernel_rfl) ?_
    refine Wo.nil ?_
    refine Wp.ret ?_
    refine ⟨.inr rfl, (AV.bool true), (ret_one (res_tmp (by kernel_rfl) res_nil)), ?_⟩
    dsimp only
  · skip
    refine Wo.nil ?_
    refine Wp.cond true (by kernel_rfl) ?_
    refine Wp.seq ?_
    refine Wp.region ?_
    refine Wo.pre 1 (by kernel_rfl) ?_
    refine Wo.cmp (op := .eql) (x := IX.t 130) (y := IX.c (AV.int IntKind.u64 0)) (k := IntKind.u64) (a := ↑n4) (b := 0) ((↑n4 : Int) = (0 : Int)) (by kernel_rfl) (by kernel_rfl) (by kernel_rfl) (by kernel_rfl) (by simp) (by kernel_rfl) (fun q25 => ?_) (fun q25 => ?_)
    rotate_left
    · exact (‹¬ (_ : Int) = 0› (parse_none (by with_reducible assumption) (by with_reducible assumption)).1).elim
    refine Wo.pre 2 (by kernel_rfl) ?_
    refine Wo.cmp (op := .eql) (x := IX.t 133) (y := IX.c (AV.int IntKind.i64 0)) (k := IntKind.i64) (a := ↑w5) (b := 0) ((↑w5 : Int) = (0 : Int)) (by kernel_rfl) (by kernel_rfl) (by kernel_rfl) (by kernel_rfl) (by simp) (by kernel_rfl) (fun q26 => ?_) (fun q26 => ?_)
    rotate_left
    · exact (‹¬ (_ : Int) = 0› (parse_none (by with_reducible assumption) (by with_reducible assumption)).2.1).elim
    refine Wo.pre 3 (by kernel_rfl) ?_
    refine Wo.cmp (op := .eql) (x := IX.t 137) (y := IX.c (AV.int IntKind.i64 5)) (k := IntKind.i64) (a := E6) (b := 5) ((E6 : Int) = (5 : Int)) (by kernel_rfl) (by kernel_rfl) (by kernel_rfl) (by kernel_rfl) (by simp) (by kernel_rfl) (fun q27 => ?_) (fun q27 => ?_)
    rotate_left
    · exact (‹¬ (_ : Int) = 5› (parse_none (by with_reducible assumption) (by with_reducible assumption)).2.2).elim
    refine Wo.pre 2 (by kernel_rfl) ?_
    have c28 := wakes_run (H2)
    refine Wo.call (by kernel_rfl) (by kernel_rfl) c28 ?_
    clear c28
    refine Wo.pre 2 (by kernel_rfl) ?_
    refine Wo.nil ?_
    refine Wp.ret ?_
    refine ⟨.inr rfl, (AV.bool true), (ret_one (res_tmp (by kernel_rfl) res_nil)), ?_⟩
    dsimp only

set_option maxHeartbeats 16000000 in
theorem bb_2 {h : H} {ts : List AV} {n : Nat} {width : Int} {nm : List UInt8} (hn : n < 2 ^ 64) (hl : nm.length < 2 ^ 62) (t0 : ts.length = 159) (t2 : getL ts 2 = some (.int .u64 n)) (t3 : getL ts 3 = some (.int .i64 width)) (t4 : getL ts 4 = some (.str nm)) : Wp TF bb2 (ts, h) (trueQ 10) := by
  rw [laid_eq t0 [(2, .int .u64 n), (3, .int .i64 width), (4, .str nm)] (by simp [t2, t3, t4])]
  unfold trueQ
  refine Wp.seq ?_
  refine Wp.region ?_
  refine Wo.pre 2 (by kernel_rfl) ?_
  obtain ⟨r1, H2, c3, s4, E5, rfl, X7, q8⟩ := nameJ (h := h) (n := n) hn (width)
  have m9 := X7.1
  refine Wo.call (by kernel_rfl) (by kernel_rfl) c3 ?_
  clear c3
  refine Wo.pre 5 (by kernel_rfl) ?_
  refine Wo.nil ?_
  refine Wp.seq ?_
  refine Wp.seq ?_
  refine Wp.region ?_
  refine Wo.pre 1 (by kernel_rfl) ?_
  refine Wo.cmp (op := .eql) (x := IX.t 97) (y := IX.c (AV.int IntKind.i64 0)) (k := IntKind.i64) (a := E5) (b := 0) ((E5 : Int) = (0 : Int)) (by kernel_rfl) (by kernel_rfl) (by kernel_rfl) (by kernel_rfl) (by simp) (by kernel_rfl) (fun q10 => ?_) (fun q10 => ?_)
  · skip
    refine Wo.nil ?_
    refine Wp.cond true (by kernel_rfl) ?_
    refine Wp.seq ?_
    refine Wp.region ?_
    refine Wo.pre 1 (by kernel_rfl) ?_
    obtain ⟨r11, H12, c13, n14, w15, E16, rfl, X18, q19, q20⟩ := parseJ (h := H2) (s4) (by first | omega | (simp; omega) | (simp; done) | assumption | (exact name_short (by with_reducible assumption)))
    have m21 := X18.1
    refine Wo.call (by kernel_rfl) (by kernel_rfl) c13 ?_
    clear c13
    refine Wo.pre 7 (by kernel_rfl) ?_
    refine Wo.nil ?_
    refine Wp.seq ?_
    refine Wp.region ?_
    refine Wo.pre 1 (by kernel_rfl) ?_
    refine Wo.cmpN (op := .neq) (x := IX.t 105) (y := IX.c (AV.int IntKind.i64 0)) (k := IntKind.i64) (a := E16) (b := 0) ((E16 : Int) = (0 : Int)) (by kernel_rfl) (by kernel_rfl) (by kernel_rfl) (by kernel_rfl) (by simp) (by kernel_rfl) (fun q22 => ?_) (fun q22 => ?_)
    rotate_left
    · exact (‹¬ (_ : Int) = 0› (name_back (by with_reducible assumption) (by with_reducible assumption) (by with_reducible assumption)).1).elim
    refine Wo.pre 3 (by kernel_rfl) ?_
    refine Wo.cmpN (op := .neq) (x := IX.t 108) (y := IX.t 109) (k := IntKind.u64) (a := ↑n14) (b := ↑n) ((↑n14 : Int) = (↑n : Int)) (by kernel_rfl) (by kernel_rfl) (by kernel_rfl) (by kernel_rfl) (by simp) (by kernel_rfl) (fun q23 => ?_) (fun q23 => ?_)
    rotate_left
    · ((have hk := (name_back (by with_reducible assumption) (by with_reducible assumption) ‹parseT _ _ _ _›).2; exfalso; omega))
    refine Wo.pre 4 (by kernel_rfl) ?_
    refine Wo.cmpN (op := .neq) (x := IX.t 113) (y := IX.t 114) (k := IntKind.i64) (a := ↑w15) (b := width) ((↑w15 : Int) = (width : Int)) (by kernel_rfl) (by kernel_rfl) (by kernel_rfl) (by kernel_rfl) (by simp) (by kernel_rfl) (fun q24 => ?_) (fun q24 => ?_)
    rotate_left
    · ((have hk := (name_back (by with_reducible assumption) (by with_reducible assumption) ‹parseT _ _ _ _›).2; exfalso; omega))
    refine Wo.pre 4 (by kernel_rfl) ?_
    refine Wo.cmp (op := .gtr) (x := IX.t 119) (y := IX.c (AV.int IntKind.i64 32)) (k := IntKind.i64) (a := ↑s4.length) (b := 32) ((↑s4.length : Int) > (32 : Int)) (by kernel_rfl) (by kernel_rfl) (by kernel_rfl) (by kernel_rfl) (by simp) (by kernel_rfl) (fun q25 => ?_) (fun q25 => ?_)
    · ((have hk := (name_back (by with_reducible assumption) (by with_reducible assumption) ‹parseT _ _ _ _›).2; exfalso; omega))
    refine Wo.pre 1 (by kernel_rfl) ?_
    refine Wo.nil ?_
    refine Wp.cond false (by kernel_rfl) ?_
    refine Wp.skip ?_
    exact  bb_3 (nm := nm) hl (by kernel_rfl) (by kernel_rfl)
  · skip
    refine Wo.nil ?_
    refine Wp.cond false (by kernel_rfl) ?_
    refine Wp.skip ?_
    exact  bb_3 (nm := nm) hl (by kernel_rfl) (by kernel_rfl)

set_option maxHeartbeats 16000000 in
theorem bb_1 {h : H} {ts : List AV} {w : AV} {l : List UInt8} {n : Nat} {width : Int} {nm : List UInt8} (hw : Bs h w l) (hl1 : l.length ≤ maxRow) (hn : n < 2 ^ 64) (hl : nm.length < 2 ^ 62) (t0 : ts.length = 159) (t1 : getL ts 1 = some w) (t2 : getL ts 2 = some (.int .u64 n)) (t3 : getL ts 3 = some (.int .i64 width)) (t4 : getL ts 4 = some (.str nm)) : Wp TF bb1 (ts, h) (trueQ 10) := by
  have hmx : 200000000000000 = maxRow := rfl
  rw [laid_eq t0 [(1, w), (2, .int .u64 n), (3, .int .i64 width), (4, .str nm)] (by simp [t1, t2, t3, t4])]
  unfold trueQ
  have m1 := hw.bq
  have k2 := hw.parts
  refine Wp.seq ?_
  refine Wp.region ?_
  refine Wo.pre 1 (by kernel_rfl) ?_
  obtain ⟨r3, H4, c5, z6, xs7, E8, rfl, X10, q11, q12⟩ := take66_run hw hl1
  have m13 := X10.1
  have m14 := q11.bq
  have k15 := q11.parts
  refine Wo.call (by kernel_rfl) (by kernel_rfl) c5 ?_
  clear c5
  refine Wo.pre 5 (by kernel_rfl) ?_
  refine Wo.nil ?_
  refine Wp.seq ?_
  refine Wp.seq ?_
  refine Wp.region ?_
  refine Wo.pre 1 (by kernel_rfl) ?_
  refine Wo.cmp (op := .eql) (x := IX.t 68) (y := IX.c (AV.int IntKind.i64 0)) (k := IntKind.i64) (a := E8) (b := 0) ((E8 : Int) = (0 : Int)) (by kernel_rfl) (by kernel_rfl) (by kernel_rfl) (by kernel_rfl) (by simp) (by kernel_rfl) (fun q16 => ?_) (fun q16 => ?_)
  · skip
    refine Wo.nil ?_
    refine Wp.cond true (by kernel_rfl) ?_
    refine Wp.seq ?_
    refine Wp.region ?_
    refine Wo.pre 1 (by kernel_rfl) ?_
    obtain ⟨r17, H18, c19, z20, rfl, X22, q23⟩ := put64_run q11.es (by first | omega | (simp; omega) | (simp; done) | assumption | (exact few_take (by with_reducible assumption)))
    have m24 := X22.1
    have m25 := q23.bq
    have k26 := q23.parts
    refine Wo.call (by kernel_rfl) (by kernel_rfl) c19 ?_
    clear c19
    refine Wo.pre 5 (by kernel_rfl) ?_
    refine Wo.nil ?_
    refine Wp.seq ?_
    refine Wp.region ?_
    refine Wo.pre 1 (by kernel_rfl) ?_
    refine Wo.cmpN (op := .neq) (x := IX.t 75) (y := IX.c (AV.int IntKind.i64 0)) (k := IntKind.i64) (a := putE (recsE xs7)) (b := 0) ((putE (recsE xs7) : Int) = (0 : Int)) (by kernel_rfl) (by kernel_rfl) (by kernel_rfl) (by kernel_rfl) (by simp) (by kernel_rfl) (fun q27 => ?_) (fun q27 => ?_)
    rotate_left
    · exact (‹¬ putE _ = 0› (take_put (by with_reducible assumption) (by with_reducible assumption)).1).elim
    refine Wo.pre 2 (by kernel_rfl) ?_
    refine Wo.val (.str (putX (recsE xs7))) H18 (by kernel_rfl) (iop_cvBS (v := z20) (by kernel_rfl) q23.bs) ?_
    refine Wo.pre 1 (by kernel_rfl) ?_
    have F28 := (hw.fr (X10.fr.trans0 X22.fr) (.inr id))
    refine Wo.val (.str (l)) H18 (by kernel_rfl) (iop_cvBS (v := w) (by kernel_rfl) F28) ?_
    refine Wo.cmpSN (x := IX.t 79) (y := IX.t 81) (a := putX (recsE xs7)) (b := l) (by kernel_rfl) (by kernel_rfl) (by kernel_rfl) (by kernel_rfl) (fun q29 => ?_) (fun q29 => ?_)
    rotate_left
    · exact (‹putX _ ≠ _› (take_put (by with_reducible assumption) (by with_reducible assumption)).2).elim
    have m30 := F28.bq
    have k31 := F28.parts
    refine Wo.pre 1 (by kernel_rfl) ?_
    refine Wo.nil ?_
    refine Wp.cond false (by kernel_rfl) ?_
    refine Wp.skip ?_
    exact  bb_2 (n := n) (width := width) (nm := nm) hn hl (by kernel_rfl) (by kernel_rfl) (by kernel_rfl) (by kernel_rfl)
  · skip
    refine Wo.nil ?_
    refine Wp.cond false (by kernel_rfl) ?_
    refine Wp.seq ?_
    refine Wp.region ?_
    refine Wo.pre 1 (by kernel_rfl) ?_
    refine Wo.val (.int .i64 (List.length (xs7) : Nat)) H4 (by kernel_rfl) (iop_lenS (v := z6) (by kernel_rfl) q11.es.lenS) ?_
    refine Wo.cmp (op := .gtr) (x := IX.t 85) (y := IX.c (AV.int IntKind.i64 0)) (k := IntKind.i64) (a := ↑xs7.length) (b := 0) ((↑xs7.length : Int) > (0 : Int)) (by kernel_rfl) (by kernel_rfl) (by kernel_rfl) (by kernel_rfl) (by simp) (by kernel_rfl) (fun q32 => ?_) (fun q32 => ?_)
    · ((have hk := take_not ‹takeOf _ = _› (by with_reducible assumption); exfalso; omega))
    refine Wo.pre 2 (by kernel_rfl) ?_
    refine Wo.cmpN (op := .neq) (x := IX.t 88) (y := IX.c (AV.int IntKind.i64 5)) (k := IntKind.i64) (a := E8) (b := 5) ((E8 : Int) = (5 : Int)) (by kernel_rfl) (by kernel_rfl) (by kernel_rfl) (by kernel_rfl) (by simp) (by kernel_rfl) (fun q33 => ?_) (fun q33 => ?_)
    rotate_left
    · ((have hk := take_not ‹takeOf _ = _› (by with_reducible assumption); exfalso; omega))
    refine Wo.pre 1 (by kernel_rfl) ?_
    refine Wo.nil ?_
    refine Wp.cond false (by kernel_rfl) ?_
    refine Wp.skip ?_
    exact  bb_2 (n := n) (width := width) (nm := nm) hn hl (by kernel_rfl) (by kernel_rfl) (by kernel_rfl) (by kernel_rfl)

set_option maxHeartbeats 16000000 in
theorem back16_run {h : H} {v w : AV} {xs : List Ent} {l : List UInt8} {n : Nat} {width : Int} {nm : List UInt8} (hc : Es h v xs) (hf : FewE xs) (hw : Bs h w l) (hl1 : l.length ≤ maxRow) (hn : n < 2 ^ 64) (hl : nm.length < 2 ^ 62) : ∃ r h', Runs TF 16 [v, w, .int .u64 n, .int .i64 width, .str nm] h r h' ∧ r = .bool true := by
  refine Runs.ofP f16 rfl ?_
  have hmx : 200000000000000 = maxRow := rfl
  have l1 := putX_len (recsE xs)
  have m1 := hc.bq
  have k2 := hc.parts
  have m3 := hw.bq
  have k4 := hw.parts
  refine Wp.seq ?_
  refine Wp.region ?_
  refine Wo.pre 1 (by kernel_rfl) ?_
  refine Wo.nil ?_
  refine Wp.seq ?_
  refine Wp.region ?_
  refine Wo.pre 1 (by kernel_rfl) ?_
  obtain ⟨r5, H6, c7, z8, rfl, X10, q11⟩ := put64_run hc hf
  have m12 := X10.1
  have m13 := q11.bq
  have k14 := q11.parts
  refine Wo.call (by kernel_rfl) (by kernel_rfl) c7 ?_
  clear c7
  refine Wo.pre 5 (by kernel_rfl) ?_
  refine Wo.nil ?_
  refine Wp.seq ?_
  refine Wp.seq ?_
  refine Wp.region ?_
  refine Wo.pre 1 (by kernel_rfl) ?_
  refine Wo.cmp (op := .eql) (x := IX.t 34) (y := IX.c (AV.int IntKind.i64 0)) (k := IntKind.i64) (a := putE (recsE xs)) (b := 0) ((putE (recsE xs) : Int) = (0 : Int)) (by kernel_rfl) (by kernel_rfl) (by kernel_rfl) (by kernel_rfl) (by simp) (by kernel_rfl) (fun q15 => ?_) (fun q15 => ?_)
  · skip
    refine Wo.pre 1 (by kernel_rfl) ?_
    have F16 := (hc.fr X10.fr (fun _ e => e.elim))
    obtain ⟨r17, H18, c19, rfl, X21⟩ := may69_run F16 hf
    have m22 := X21.1
    refine Wo.call (by kernel_rfl) (by kernel_rfl) c19 ?_
    clear c19
    refine Wo.boolS (fun q23 => ?_) (fun q23 => ?_)
    rotate_left
    · exact Bool.noConfusion (‹mayR _ = false›.symm.trans (putE_zero.1 (by with_reducible assumption)))
    have m24 := F16.bq
    have k25 := F16.parts
    refine Wo.pre 3 (by kernel_rfl) ?_
    refine Wo.cmpN (op := .neq) (x := IX.t 40) (y := IX.c (AV.int IntKind.i64 0)) (k := IntKind.i64) (a := putE (recsE xs)) (b := 0) ((putE (recsE xs) : Int) = (0 : Int)) (by kernel_rfl) (by kernel_rfl) (by kernel_rfl) (by kernel_rfl) (by simp) (by kernel_rfl) (fun q26 => ?_) (fun q26 => ?_)
    rotate_left
    · (exfalso; omega)
    refine Wo.pre 3 (by kernel_rfl) ?_
    refine Wo.pre 1 (by kernel_rfl) ?_
    refine Wo.pre 2 (by kernel_rfl) ?_
    refine Wo.nil ?_
    refine Wp.cond false (by kernel_rfl) ?_
    refine Wp.skip ?_
    refine Wp.seq ?_
    refine Wp.seq ?_
    refine Wp.region ?_
    refine Wo.pre 1 (by kernel_rfl) ?_
    refine Wo.cmp (op := .eql) (x := IX.t 48) (y := IX.c (AV.int IntKind.i64 0)) (k := IntKind.i64) (a := putE (recsE xs)) (b := 0) ((putE (recsE xs) : Int) = (0 : Int)) (by kernel_rfl) (by kernel_rfl) (by kernel_rfl) (by kernel_rfl) (by simp) (by kernel_rfl) (fun q27 => ?_) (fun q27 => ?_)
    rotate_left
    · (exfalso; omega)
    refine Wo.nil ?_
    refine Wp.cond true (by kernel_rfl) ?_
    refine Wp.seq ?_
    refine Wp.region ?_
    refine Wo.pre 1 (by kernel_rfl) ?_
    have F28 := (q11.fr X21.fr (.inr id))
    obtain ⟨r29, H30, c31, z32, xs33, E34, rfl, X36, q37, q38⟩ := take66_run F28.bs (by first | omega | (simp; omega) | (simp; done) | assumption | (exact few_take (by with_reducible assumption)))
    have m39 := X36.1
    have m40 := q37.bq
    have k41 := q37.parts
    refine Wo.call (by kernel_rfl) (by kernel_rfl) c31 ?_
    clear c31
    refine Wo.pre 5 (by kernel_rfl) ?_
    refine Wo.nil ?_
    refine Wp.seq ?_
    refine Wp.region ?_
    refine Wo.pre 1 (by kernel_rfl) ?_
    refine Wo.cmpN (op := .neq) (x := IX.t 55) (y := IX.c (AV.int IntKind.i64 0)) (k := IntKind.i64) (a := E34) (b := 0) ((E34 : Int) = (0 : Int)) (by kernel_rfl) (by kernel_rfl) (by kernel_rfl) (by kernel_rfl) (by simp) (by kernel_rfl) (fun q42 => ?_) (fun q42 => ?_)
    rotate_left
    · exact (‹¬ (_ : Int) = 0› (put_take hc (by with_reducible assumption) (by with_reducible assumption)).1).elim
    have m43 := F28.bq
    have k44 := F28.parts
    refine Wo.pre 3 (by kernel_rfl) ?_
    have F45 := (F16.fr (X21.fr.trans0 X36.fr) (fun _ e => e.elim))
    obtain ⟨r46, H47, c48, rfl, X50⟩ := same68_run q37.es F45 (by first | omega | (simp; omega) | (simp; done) | assumption | (exact few_take (by with_reducible assumption)))
    have m51 := X50.1
    refine Wo.call (by kernel_rfl) (by kernel_rfl) c48 ?_
    clear c48
    refine Wo.boolS (fun q52 => ?_) (fun q52 => ?_)
    rotate_left
    · exact Bool.noConfusion (‹decide (recsE _ = recsE _) = false›.symm.trans (put_take hc (by with_reducible assumption) (by with_reducible assumption)).2)
    have m53 := F45.bq
    have k54 := F45.parts
    refine Wo.pre 2 (by kernel_rfl) ?_
    refine Wo.nil ?_
    refine Wp.cond false (by kernel_rfl) ?_
    refine Wp.skip ?_
    exact  bb_1 (w := w) (l := l) (n := n) (width := width) (nm := nm) (hw.fr (((X10.fr.trans0 X21.fr).trans0 X36.fr).trans0 X50.fr) (.inr id)) hl1 hn hl (by kernel_rfl) (by kernel_rfl) (by kernel_rfl) (by kernel_rfl) (by kernel_rfl)
  · skip
    refine Wo.pre 1 (by kernel_rfl) ?_
    have F55 := (hc.fr X10.fr (fun _ e => e.elim))
    obtain ⟨r56, H57, c58, rfl, X60⟩ := may69_run F55 hf
    have m61 := X60.1
    refine Wo.call (by kernel_rfl) (by kernel_rfl) c58 ?_
    clear c58
    refine Wo.boolS (fun q62 => ?_) (fun q62 => ?_)
    · exact (‹¬ putE _ = 0› (putE_zero.2 (by with_reducible assumption))).elim
    have m63 := F55.bq
    have k64 := F55.parts
    refine Wo.pre 3 (by kernel_rfl) ?_
    refine Wo.cmpN (op := .neq) (x := IX.t 40) (y := IX.c (AV.int IntKind.i64 0)) (k := IntKind.i64) (a := putE (recsE xs)) (b := 0) ((putE (recsE xs) : Int) = (0 : Int)) (by kernel_rfl) (by kernel_rfl) (by kernel_rfl) (by kernel_rfl) (by simp) (by kernel_rfl) (fun q65 => ?_) (fun q65 => ?_)
    · (exfalso; omega)
    refine Wo.pre 2 (by kernel_rfl) ?_
    have F66 := (q11.fr X60.fr (.inr id))
    refine Wo.val (.int .i64 (List.length (putX (recsE xs)) : Nat)) H57 (by kernel_rfl) (Bs.len F66.bs (by kernel_rfl)) ?_
    refine Wo.cmp (op := .gtr) (x := IX.t 44) (y := IX.c (AV.int IntKind.i64 0)) (k := IntKind.i64) (a := ↑(putX (recsE xs)).length) (b := 0) ((↑(putX (recsE xs)).length : Int) > (0 : Int)) (by kernel_rfl) (by kernel_rfl) (by kernel_rfl) (by kernel_rfl) (by simp) (by kernel_rfl) (fun q67 => ?_) (fun q67 => ?_)
    · ((have hk := putX_nil ‹¬ putE _ = 0›; exfalso; omega))
    have m68 := F66.bq
    have k69 := F66.parts
    refine Wo.pre 2 (by kernel_rfl) ?_
    refine Wo.nil ?_
    refine Wp.cond false (by kernel_rfl) ?_
    refine Wp.skip ?_
    refine Wp.seq ?_
    refine Wp.seq ?_
    refine Wp.region ?_
    refine Wo.pre 1 (by kernel_rfl) ?_
    refine Wo.cmp (op := .eql) (x := IX.t 48) (y := IX.c (AV.int IntKind.i64 0)) (k := IntKind.i64) (a := putE (recsE xs)) (b := 0) ((putE (recsE xs) : Int) = (0 : Int)) (by kernel_rfl) (by kernel_rfl) (by kernel_rfl) (by kernel_rfl) (by simp) (by kernel_rfl) (fun q70 => ?_) (fun q70 => ?_)
    · (exfalso; omega)
    refine Wo.nil ?_
    refine Wp.cond false (by kernel_rfl) ?_
    refine Wp.skip ?_
    exact  bb_1 (w := w) (l := l) (n := n) (width := width) (nm := nm) (hw.fr (X10.fr.trans0 X60.fr) (.inr id)) hl1 hn hl (by kernel_rfl) (by kernel_rfl) (by kernel_rfl) (by kernel_rfl) (by kernel_rfl)
end Go.Det

/- Rows of entries as arguments. -/
set_option linter.unusedVariables false
set_option linter.unusedSimpArgs false
namespace Go.Det
open Go.Proofs

theorem ents_of {h : H} {xs : List (Int × List (List Int))} {v : AV} (hk : KSl (KPair (KInt .u64) (KSl (KSl (KInt .u8) 1) 1)) (1 + 1) h xs [v]) (hw1 : xs.length * 32 ≤ 140737488355328) (hw : ∀ x ∈ xs, (0 ≤ x.1 ∧ x.1 < 2 ^ 64) ∧ x.2.length * 24 ≤ 140737488355328 ∧ ∀ y ∈ x.2, y.length ≤ maxRow ∧ ∀ n ∈ y, IntKind.u8.min ≤ n ∧ n ≤ IntKind.u8.max) :
    ∃ es : List Ent, Es h v es ∧ FewE es := by
  have hmx : 200000000000000 = maxRow := rfl
  obtain ⟨v', e, hv⟩ := hk
  simp only [List.cons.injEq, and_true] at e
  subst e
  rcases hv with ⟨rfl, rfl⟩ | ⟨a, c, rfl, h1, h2, cc, h3, h4, h5⟩
  · exact ⟨[], Es.nil0, by simp, fun e he => by simp at he⟩
  · have key : ∀ j : Fin xs.length, ∃ p : Ent, cc[j.1]? = some p.cells ∧ Ch h p.z p.ps ∧ p.t < 2 ^ 64 ∧ p.ps.length * 24 ≤ 140737488355328 ∧ ∀ q ∈ p.ps, q.2.length ≤ maxRow := by
      intro j
      have hj : xs[j.1]? = some xs[j.1] := List.getElem?_eq_getElem j.2
      obtain ⟨cs, hc, y, z, rfl, k1, k2⟩ := h5 j.1 _ hj
      have hmem := List.mem_of_getElem? hj
      obtain ⟨⟨w1, w2⟩, w3, w4⟩ := hw _ hmem
      obtain rfl : y = [.int .u64 (xs[j.1]).1] := k1
      obtain ⟨z', rfl, hz⟩ := k2
      obtain ⟨ps, hch, hl, hp⟩ := chain_of (v := z') ⟨z', rfl, hz⟩ (fun x hx => (w4 x hx).2)
      obtain ⟨n, hn⟩ : ∃ n : Nat, (xs[j.1]).1 = n := ⟨(xs[j.1]).1.toNat, by omega⟩
      refine ⟨⟨n, z', ps⟩, ?_, hch, ?_, ?_, ?_⟩
      · rw [hc, hn]; rfl
      · dsimp only; omega
      · dsimp only; omega
      · intro q hq
        obtain ⟨x, hx, e⟩ := hp q hq
        rw [e]; exact (w4 x hx).1
    obtain ⟨f, hf⟩ := Classical.axiomOfChoice key
    have e1 : cc = (List.ofFn f).map Ent.cells := by
      apply List.ext_getElem?
      intro i
      by_cases hi : i < xs.length
      · rw [(hf ⟨i, hi⟩).1]; simp [hi]
      · rw [List.getElem?_eq_none (by omega), List.getElem?_eq_none (by simp; omega)]
    refine ⟨List.ofFn f, ⟨.inr ⟨a, .ex c, by rw [List.length_ofFn], h2, ?_⟩, fun p hp => ?_, fun a m c' e => ?_⟩, ?_, fun p hp => ?_⟩
    · rw [List.length_ofFn, rowE, ← e1]
      exact h3
    · obtain ⟨j, rfl⟩ := mem_fn hp
      exact ⟨(hf j).2.1, (hf j).2.2.1⟩
    · simp only [AV.sl.injEq] at e
      exact .inl ⟨c, e.2.2.symm, by omega⟩
    · rw [List.length_ofFn]; omega
    · obtain ⟨j, rfl⟩ := mem_fn hp
      exact (hf j).2.2.2
end Go.Det

