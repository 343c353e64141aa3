/- Base: the document's reading: bits. -/
import Derived.Test.YtdnfbmminagflaaDoorba7
set_option linter.unusedVariables false
set_option linter.unusedSimpArgs false
set_option linter.unusedSectionVars false
namespace Go.Det
open Go.Proofs
attribute [local irreducible] Wp Wo Wd iop ev slots quiets wanted put

/-! A row of numbers of its own -/
def numAV (l : List Nat) : List AV := l.map fun n => .int .i64 ((n : Nat) : Int)
def OwN (e lo : Nat) (h : H) (v : AV) (l : List Nat) : Prop := (v = .nils ∧ l = []) ∨ ∃ b g, lo ≤ b ∧ b < h.n ∧ h.get b = some (.cells g e (numAV l) 0 false) ∧ v = .sl ⟨b, g, 0⟩ l.length (.op 1)
theorem OwN.nil0 {e lo : Nat} {h : H} : OwN e lo h .nils [] := .inl ⟨rfl, rfl⟩
theorem OwN.parts {e lo : Nat} {h : H} {v : AV} {l : List Nat} (ho : OwN e lo h v l) : v.cells = [v] ∧ v.one = true ∧ isStrV v = false := by
  rcases ho with ⟨rfl, _⟩ | ⟨_, _, _, _, _, rfl⟩ <;> exact ⟨rfl, rfl, rfl⟩
theorem OwN.bd {e lo : Nat} {h : H} {v : AV} {l : List Nat} (ho : OwN e lo h v l) : (Go.Det.blk v = 0 ∨ lo < Go.Det.blk v) ∧ Go.Det.blk v ≤ h.n := by
  rcases ho with ⟨rfl, _⟩ | ⟨b, g, h1, h2, h3, rfl⟩
  · exact ⟨.inl rfl, Nat.zero_le _⟩
  · exact ⟨.inr (Nat.succ_le_succ h1), h2⟩
theorem OwN.bq {e lo : Nat} {h : H} {v : AV} {l : List Nat} (ho : OwN e lo h v l) : Dj (Go.Det.blk v = 0 ∨ lo < Go.Det.blk v) ∧ Go.Det.blk v ≤ h.n := ho.bd
theorem OwN.fr {e lo : Nat} {h h' : H} {v : AV} {l : List Nat} (ho : OwN e lo h v l) {S : Nat → Prop} (x : Fr S h h') (hs : Go.Det.blk v = 0 ∨ ¬ S (Go.Det.blk v)) : OwN e lo h' v l := by
  have := x.1
  rcases ho with ⟨rfl, rfl⟩ | ⟨b, g, h1, h2, h3, rfl⟩
  · exact .inl ⟨rfl, rfl⟩
  · exact .inr ⟨b, g, h1, by omega, by rw [x.2 b h2 (hs.resolve_left (by simp [blk_sl]))]; exact h3, rfl⟩
theorem OwN.len {e lo : Nat} {h : H} {v : AV} {l : List Nat} (ho : OwN e lo h v l) : (v = .nils ∧ l.length = 0) ∨ ∃ a c, v = .sl a l.length c := by
  rcases ho with ⟨rfl, rfl⟩ | ⟨b, g, _, _, _, rfl⟩
  · exact .inl ⟨rfl, rfl⟩
  · exact .inr ⟨_, _, rfl⟩

theorem app3_num {lo : Nat} {h : H} {b a : Nat} {v : AV} {l : List Nat} (p : Pt h b (.cells 0 3 [.int .i64 ((a : Nat) : Int)] 0 false)) (ho : OwN 3 lo h v l) (hlo : lo ≤ h.n) (hl : l.length ≤ 10000000000) :
    ∃ v' h', append h 3 1 8 v (.sl ⟨b, 0, 0⟩ 1 (.ex 1)) = some (.val v' h') ∧ OwN 3 lo h' v' (l ++ [a]) ∧ Fr (fun s => s = blk v) h h' := by
  have hmx : 200000000000000 = maxRow := rfl
  have hld : srcCells h 1 (.sl ⟨b, 0, 0⟩ 1 (.ex 1)) = some (1, [.int .i64 ((a : Nat) : Int)]) := by
    simp only [srcCells, H.ldn, H.row, p.2]
    simp [cut]
  have hf : ∀ n, n ≤ 10000000001 → fits n 8 = true := by
    intro n hn
    simp only [fits, Bool.and_eq_true, decide_eq_true_eq]
    omega
  unfold append
  simp only [hld]
  rcases ho with ⟨rfl, rfl⟩ | ⟨b', g, q1, q2, q3, rfl⟩
  · refine ⟨.sl ⟨h.n, 0, 0⟩ 1 (.op 1), h.new (.cells 0 3 [.int .i64 ((a : Nat) : Int)] 0 false), ?_, .inr ⟨h.n, 0, hlo, by simp, h.get_new _, rfl⟩, ⟨by simp, fun k hk _ => h.get_new_ne k _ (by omega)⟩⟩
    simp [hf 1 (by omega), AV.one]
  · refine ⟨.sl ⟨b', g + 1, 0⟩ (l ++ [a]).length (.op 1), h.set b' (.cells (g + 1) 3 (numAV (l ++ [a])) 0 false), ?_, .inr ⟨b', g + 1, q1, by simpa using q2, h.get_set _ _, rfl⟩, ⟨Nat.le_refl _, fun k hk hs => h.get_set_ne _ k _ (fun e => hs (by rw [e]; rfl))⟩⟩
    have hle : l.length + 1 ≤ 9223372036854775807 := by omega
    have e1 : (numAV l).length = l.length := by simp [numAV]
    have e2 : numAV (l ++ [a]) = numAV l ++ [.int .i64 ((a : Nat) : Int)] := by simp [numAV]
    simp [hf (l.length + 1) (by omega), AV.one, q3, e1, e2, hle]

theorem iop_ldE {h : H} {b g e j c : Nat} {x : IX} {ρ : IX → AV} {l : List Nat} (p : Pt h b (.cells g e (numAV l) 0 false)) (hx : ρ x = .ptr ⟨b, g, 0 + j * 1⟩) (hc : l[j]? = some c) : iop (.ld none x) ρ h = some (.val (.int .i64 ((c : Nat) : Int)) h) := by
  refine iop_ldP p hx rfl ?_
  have : getL (numAV l) j = some (.int .i64 ((c : Nat) : Int)) := by
    rw [getL_eq]
    simp [numAV, hc]
  simp [ldB, this]

theorem iop_shrI {x y : IX} {ρ : IX → AV} {h : H} {a i M : Nat} (hx : ρ x = .int .i64 a) (hy : ρ y = .int .u64 i) (hi : i ≤ 64) (hM : 2 ^ i = M) : iop (.bin .shr x y) ρ h = some (.val (.int .i64 ((a / M : Nat) : Int)) h) := by
  have e : Int.fdiv (a : Int) (2 ^ i) = ((a / M : Nat) : Int) := by
    have e0 : ((2 : Int) ^ i) = ((2 ^ i : Nat) : Int) := by simp
    rw [e0, hM, Int.fdiv_eq_ediv_of_nonneg _ (by omega), ← Int.natCast_ediv]
  have e2 : min (i : Int).toNat IntKind.i64.bits = i := by
    rw [Int.toNat_natCast]
    exact Nat.min_eq_left hi
  have e3 : ¬ (i : Int) < 0 := by omega
  simp only [iop, binop, hx, hy, shInt]
  rw [if_neg e3, e2, e]
  rfl
theorem iop_and1 {x y : IX} {ρ : IX → AV} {h : H} {a : Nat} (hx : ρ x = .int .i64 a) (hy : ρ y = .int .i64 1) (ha : a < 9223372036854775808) : iop (.bin .and x y) ρ h = some (.val (.int .i64 ((a % 2 : Nat) : Int)) h) := by
  refine iop_arith hx hy (by simp) ?_
  simp only [binInt]
  have e : (BitVec.ofInt IntKind.i64.bits (a : Int) &&& BitVec.ofInt IntKind.i64.bits 1).toNat = a % 2 := by
    show (BitVec.ofInt 64 (a : Int) &&& BitVec.ofInt 64 1).toNat = a % 2
    rw [BitVec.toNat_and, BitVec.ofInt_natCast, BitVec.toNat_ofNat]
    show a % 2 ^ 64 &&& 1 = a % 2
    rw [Nat.and_one_is_mod]
    omega
  rw [e, fit_kind .i64 _ (by rw [min_i64]; omega) (by rw [max_i64]; omega)]
theorem iop_mul2 {x y : IX} {ρ : IX → AV} {h : H} {a : Nat} (hx : ρ x = .int .i64 2) (hy : ρ y = .int .i64 a) (ha : a < 4294967296) : iop (.bin .mul x y) ρ h = some (.val (.int .i64 ((2 * a : Nat) : Int)) h) := by
  refine iop_arith hx hy (by simp) ?_
  rw [bin_mul .i64 (by rw [min_i64]; omega) (by rw [max_i64]; omega)]
  rw [Int.natCast_mul]
  rfl
theorem iop_mul8 {x y : IX} {ρ : IX → AV} {h : H} {a : Nat} (hx : ρ x = .int .i64 8) (hy : ρ y = .int .i64 a) (ha : a < 4294967296) : iop (.bin .mul x y) ρ h = some (.val (.int .i64 ((8 * a : Nat) : Int)) h) := by
  refine iop_arith hx hy (by simp) ?_
  rw [bin_mul .i64 (by rw [min_i64]; omega) (by rw [max_i64]; omega)]
  rw [Int.natCast_mul]
  rfl
theorem iop_addN {x y : IX} {ρ : IX → AV} {h : H} {a b : Nat} (hx : ρ x = .int .i64 a) (hy : ρ y = .int .i64 b) (ha : a + b < 9223372036854775808) : iop (.bin .add x y) ρ h = some (.val (.int .i64 ((a + b : Nat) : Int)) h) := by
  refine iop_arith hx hy (by simp) ?_
  rw [bin_add .i64 (by rw [min_i64]; omega) (by rw [max_i64]; omega), Int.natCast_add]
theorem iop_subN {x y : IX} {ρ : IX → AV} {h : H} {a b c : Nat} (hx : ρ x = .int .i64 a) (hy : ρ y = .int .i64 b) (hc : a = c + b) (ha : a < 9223372036854775808) : iop (.bin .sub x y) ρ h = some (.val (.int .i64 ((c : Nat) : Int)) h) := by
  refine iop_arith hx hy (by simp) ?_
  rw [bin_sub .i64 (by rw [min_i64]; omega) (by rw [max_i64]; omega)]
  congr 2
  omega
theorem iop_mulN {x y : IX} {ρ : IX → AV} {h : H} {a b : Nat} (hx : ρ x = .int .i64 a) (hy : ρ y = .int .i64 b) (ha : a * b < 9223372036854775808) : iop (.bin .mul x y) ρ h = some (.val (.int .i64 ((a * b : Nat) : Int)) h) := by
  refine iop_arith hx hy (by simp) ?_
  simp only [binInt]
  rw [← Int.natCast_mul, fit_kind .i64 _ (by rw [min_i64]; omega) (by rw [max_i64]; omega)]
theorem iop_quoD {x y : IX} {ρ : IX → AV} {h : H} {a q : Nat} (hx : ρ x = .int .i64 a) (hy : ρ y = .int .i64 3) (ha : a < 9223372036854775808) (hq : a / 3 = q) : iop (.bin .quo x y) ρ h = some (.val (.int .i64 ((q : Nat) : Int)) h) := by
  subst hq
  refine iop_arith hx hy (by simp) ?_
  have e : Int.tdiv (a : Int) 3 = ((a / 3 : Nat) : Int) := by
    rw [Int.tdiv_eq_ediv_of_nonneg (by omega)]
    rfl
  simp only [binInt]
  rw [e, fit_kind .i64 _ (by rw [min_i64]; omega) (by rw [max_i64]; omega)]
  rfl
theorem iop_ixSN {x y : IX} {ρ : IX → AV} {h : H} {s : List UInt8} {i : Nat} {ie : Int} {c : UInt8} (hx : ρ x = .str s) (hy : ρ y = .int .i64 ie) (hi : ie = i) (hc : s[i]? = some c) : iop (.ixS x y) ρ h = some (.val (.int .u8 c.toNat) h) := by
  subst hi
  exact iop_ixS hx hy hc

/-! the number of a letter -/
theorem index_none : ∀ (l : List UInt8) (c : UInt8), (∀ j, j < l.length → l.getD j 0 ≠ c) → Lib.indexByte l c = -1
  | [], _, _ => rfl
  | b :: l, c, h => by
    have h0 : b ≠ c := h 0 (by simp)
    have h1 := index_none l c (fun j hj => h (j + 1) (by simp; omega))
    simp [Lib.indexByte, h0, h1]
theorem index_some : ∀ (l : List UInt8) (c : UInt8) (j : Nat), j < l.length → l.getD j 0 = c → (∀ m, m < j → l.getD m 0 ≠ c) → Lib.indexByte l c = j
  | [], _, _, h, _, _ => absurd h (by simp)
  | b :: l, c, 0, _, h1, _ => by
    have : b = c := h1
    simp [Lib.indexByte, this]
  | b :: l, c, j + 1, h0, h1, h2 => by
    have e0 : b ≠ c := h2 0 (by omega)
    have e1 := index_some l c j (by simpa using h0) h1 (fun m hm => h2 (m + 1) (by omega))
    have e2 : ¬ ((j : Int) = -1) := by omega
    simp [Lib.indexByte, e0, e1, e2]
theorem table_len : Ba.table.length = 64 := by decide

set_option maxHeartbeats 4000000 in
theorem number_run (h : H) (c : UInt8) : Runs TF 35 [.int .u8 c.toNat] h (.int .i64 (Lib.indexByte Ba.table c)) h := by
  obtain ⟨r, h', h1, h2, h3⟩ : ∃ r h', Runs TF 35 [.int .u8 c.toNat] h r h' ∧ r = .int .i64 (Lib.indexByte Ba.table c) ∧ h' = h := by
    refine Runs.ofP f35 rfl ?_
    refine Wp.seq ?_
    refine Wp.region ?_
    refine Wo.pre 1 (by kernel_rfl) ?_
    refine Wo.nil ?_
    refine Wp.seq ?_
    refine Wp.seq ?_
    refine Wp.region ?_
    refine Wo.pre 1 (by kernel_rfl) ?_
    refine Wo.nil ?_
    refine Wp.block ?_
    refine number_loop (c := c) 64 0 rfl _ (by kernel_rfl) (by kernel_rfl) (by kernel_rfl) _ ?_ ?_
    · intro ts' t0 hn
      have e : Lib.indexByte Ba.table c = -1 := index_none _ _ (fun j hj => hn j (by omega) (by rw [table_len] at hj; omega))
      show Wp TF _ _ _
      rw [laid_eq t0 [] (by simp)]
      refine Wp.seq ?_
      refine Wp.region ?_
      refine Wo.pre 1 (by kernel_rfl) ?_
      refine Wo.nil ?_
      refine Wp.ret ?_
      refine ⟨.inr rfl, (AV.int IntKind.i64 (-1)), (ret_one (res_tmp (by kernel_rfl) res_nil)), ?_⟩
      dsimp only
      exact ⟨by rw [e], rfl⟩
    · intro ts' j h1 h2 h3 h4 h5
      have e : Lib.indexByte Ba.table c = j := index_some _ _ j (by rw [table_len]; exact h2) h3 (fun m hm => h4 m (by omega) hm)
      exact ⟨.inr rfl, .int .i64 j, ret_one (res_tmp (by rw [h5]; rfl) res_nil), by rw [e], rfl⟩
  subst h2; subst h3
  exact h1

end Go.Det
