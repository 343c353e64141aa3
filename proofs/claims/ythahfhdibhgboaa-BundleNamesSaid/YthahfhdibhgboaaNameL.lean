/- Names of bundles: the loops. -/
import Derived.Test.YthahfhdibhgboaaIRN
import Derived.Test.YthahfhdibhgboaaDetDw
import Derived.Test.YthahfhdibhgboaaWire
set_option linter.unusedVariables false
set_option linter.unusedSimpArgs false
set_option linter.unusedSectionVars false
namespace Go.Det
open Go.Proofs
attribute [local irreducible] Wp Wo Wd iop ev slots quiets wanted put

theorem iop_addS {x y : IX} {ρ : IX → AV} {h : H} {a b : List UInt8} (hx : ρ x = .str a) (hy : ρ y = .str b) (hl : a.length + b.length ≤ 1000000) : iop (.bin .add x y) ρ h = some (.val (.str (a ++ b)) h) := by
  have : a.length + b.length ≤ 9223372036854775807 := by omega
  simp [iop, binop, binStr, hx, hy, this]

/-- The last digits of a number. -/
def digs (n : Nat) : Nat → List UInt8
  | 0 => []
  | i + 1 => UInt8.ofNat (48 + n / 10 ^ i % 10) :: digs n i
theorem digs_len (n : Nat) : ∀ i, (digs n i).length = i
  | 0 => rfl
  | i + 1 => by simp [digs, digs_len n i]

theorem digit_nat (m : Nat) : ((UInt8.ofNat (48 + m % 10)).toNat : Int) = 48 + ((m % 10 : Nat) : Int) := by
  rw [UInt8.toNat_ofNat']
  omega
theorem div_step (n i : Nat) : n / 10 ^ i / 10 = n / 10 ^ (i + 1) := by rw [Nat.div_div_eq_div_mul, ← Nat.pow_succ]
theorem tmod10 (m : Nat) : ((m : Int)).tmod 10 = ((m % 10 : Nat) : Int) := by rw [Int.natCast_emod]; exact Int.tmod_eq_emod_of_nonneg (by omega)
theorem tdiv10 (m : Nat) : ((m : Int)).tdiv 10 = ((m / 10 : Nat) : Int) := by rw [Int.natCast_ediv]; exact Int.tdiv_eq_ediv_of_nonneg (by omega)

theorem laid_loop {n many : Nat} (hn : n < 2 ^ 64) (hm : many < 100) :
    ∀ (k i : Nat), i + k = many → ∀ (h : H) (ts : List AV), ts.length = 23 → getL ts 0 = some (.int .u64 (n / 10 ^ i : Nat)) → getL ts 1 = some (.int .i64 many) → getL ts 5 = some (.str (digs n i)) → getL ts 6 = some (.int .i64 i) →
      ∀ (Q : Ex → St → Prop), (∀ ts' h', ts'.length = 23 → Ext h h' → getL ts' 5 = some (.str (digs n many)) → Q (.exit 0) (ts', h')) → Wp TF (.loop l86_1) (ts, h) Q := by
  intro k
  induction k with
  | zero =>
    intro i hi h ts t0 tn t1 t5 t6 Q hQ
    obtain rfl : i = many := by omega
    refine Wp.loop ?_
    rw [laid_eq t0 [(0, .int .u64 (n / 10 ^ i : Nat)), (1, .int .i64 i), (5, .str (digs n i)), (6, .int .i64 i)] (by simp [tn, t1, t5, t6])]
    unfold l86_1
    refine Wp.seq ?_
    refine Wp.seq ?_
    refine Wp.region ?_
    refine Wo.pre 8 (by kernel_rfl) ?_
    refine Wo.nil ?_
    refine Wp.cond (decide ((i : Int) < (i : Int))) (by kernel_rfl) ?_
    rw [if_neg (by simp)]
    exact Wp.exit (hQ _ _ (by kernel_rfl) (Ext.refl h) (by kernel_rfl))
  | succ k ih =>
    intro i hi h ts t0 tn t1 t5 t6 Q hQ
    have hlt : i < many := by omega
    obtain ⟨m, hm'⟩ : ∃ m, m = n / 10 ^ i := ⟨_, rfl⟩
    have hm64 : m < 2 ^ 64 := by rw [hm']; exact Nat.lt_of_le_of_lt (Nat.div_le_self _ _) hn
    rw [← hm'] at tn
    have w1 : IntKind.i64.wrap ((i : Int) + 1) = ((i + 1 : Nat) : Int) := by rw [i64_fit _ (by omega)]; omega
    have w2 : IntKind.u64.wrap (48 + ((m : Nat) : Int).tmod 10) = 48 + ((m % 10 : Nat) : Int) := by rw [tmod10, u64_fit _ (by omega)]
    have w3 : IntKind.u8.wrap (48 + ((m % 10 : Nat) : Int)) = ((UInt8.ofNat (48 + m % 10)).toNat : Int) := by rw [digit_nat, u8_fit _ (by omega)]
    have w4 : IntKind.u64.wrap (((m : Nat) : Int).tdiv 10) = ((m / 10 : Nat) : Int) := by rw [tdiv10, u64_fit _ (by omega)]
    obtain ⟨c, hc⟩ : ∃ c, c = UInt8.ofNat (48 + m % 10) := ⟨_, rfl⟩
    rw [← hc] at w3
    have w23 : IntKind.u8.wrap (IntKind.u64.wrap (48 + ((m : Nat) : Int).tmod 10)) = (c.toNat : Int) := by rw [w2, w3]
    have hdg : digs n (i + 1) = c :: digs n i := by rw [digs, hc, hm']
    obtain ⟨H1, hH1⟩ : ∃ H1, H1 = h.new (.cells 0 5 [.int .u8 c.toNat] 0 false) := ⟨_, rfl⟩
    have hg : H1.get h.n = some (.cells 0 5 [.int .u8 c.toNat] 0 false) := by rw [hH1]; exact h.get_new _
    have hbs : Bs H1 (.sl ⟨h.n, 0, 0⟩ 1 (.ex 1)) [c] := (Ow.bs (lo := h.n) (.inr ⟨h.n, 0, Nat.le_refl _, by rw [hH1]; simp, hg, .inr rfl⟩))
    have hn1 : n / 10 ^ (i + 1) = m / 10 := by rw [hm', div_step]
    have eb : ∀ {p : IX} {ρ : IX → AV}, ρ p = .int .u8 (IntKind.u8.wrap (IntKind.u64.wrap (48 + ((m : Nat) : Int).tmod 10))) → iop (.bsl 5 [.int .u8 0] 1 [(0, 1, p)]) ρ h = some (.val (.sl ⟨h.n, 0, 0⟩ 1 (.ex 1)) H1) := by
      intro p ρ hp
      have o : (AV.int .u8 (c.toNat : Int)).one = true := rfl
      have e : (AV.int .u8 (c.toNat : Int)).cells = [.int .u8 c.toNat] := rfl
      simp [iop, fillL, hp, w23, e, putAt, o, ← hH1]
    refine Wp.loop ?_
    rw [laid_eq t0 [(0, .int .u64 m), (1, .int .i64 many), (5, .str (digs n i)), (6, .int .i64 i)] (by simp [tn, t1, t5, t6])]
    unfold l86_1
    refine Wp.seq ?_
    refine Wp.seq ?_
    refine Wp.region ?_
    refine Wo.pre 8 (by kernel_rfl) ?_
    refine Wo.nil ?_
    refine Wp.cond (decide ((i : Int) < (many : Int))) (by kernel_rfl) ?_
    rw [if_pos (by simp; omega)]
    refine Wp.skip ?_
    refine Wp.seq ?_
    refine Wp.block ?_
    refine Wp.seq ?_
    refine Wp.region ?_
    refine Wo.pre 3 (by kernel_rfl) ?_
    refine Wo.pre 1 (by kernel_rfl) ?_
    refine Wo.val _ H1 (by kernel_rfl) (eb (by kernel_rfl)) ?_
    refine Wo.val (.str [c]) H1 (by kernel_rfl) (iop_cvBS (v := .sl ⟨h.n, 0, 0⟩ 1 (.ex 1)) (by kernel_rfl) hbs) ?_
    refine Wo.pre 1 (by kernel_rfl) ?_
    refine Wo.val (.str ([c] ++ digs n i)) H1 (by kernel_rfl) (iop_addS (by kernel_rfl) (by kernel_rfl) (by rw [digs_len]; simp; omega)) ?_
    refine Wo.pre 8 (by kernel_rfl) ?_
    refine Wo.nil ?_
    refine Wp.region ?_
    refine Wo.pre 8 (by kernel_rfl) ?_
    refine Wo.nil ?_
    refine Wp.region ?_
    refine Wo.pre 8 (by kernel_rfl) ?_
    refine Wo.nil ?_
    refine ih (i + 1) (by omega) H1 _ (by kernel_rfl) (by rw [hn1, ← w4]; kernel_rfl) (by kernel_rfl) (by rw [hdg]; kernel_rfl) (by rw [← w1]; kernel_rfl) Q ?_
    intro ts' h' g0 g1 g2
    exact hQ ts' h' g0 ((show Ext h H1 by rw [hH1]; exact Ext.new h _).trans g1) g2

/-- A bundle's name while its number is laid down. -/
def arr (n j : Nat) : List UInt8 := [98, 45] ++ (List.replicate (6 - j) 48 ++ (digs n j ++ [45, 48, 48]))
theorem arr_len (n j : Nat) (hj : j ≤ 6) : (arr n j).length = 11 := by simp [arr, digs_len]; omega
theorem arr_get (n j : Nat) (hj : j < 6) : (arr n j)[7 - j]? = some 48 := by
  unfold arr
  have e : 7 - j - ([98, 45] : List UInt8).length = 5 - j := by simp; omega
  rw [List.getElem?_append_right (by simp; omega), e, List.getElem?_append_left (by simp; omega), List.getElem?_replicate, if_pos (by omega)]
theorem arr_set (n j : Nat) (hj : j < 6) : (arr n j).set (7 - j) (UInt8.ofNat (48 + n / 10 ^ j % 10)) = arr n (j + 1) := by
  unfold arr
  rw [List.set_append_right _ _ (by simp; omega)]
  congr 1
  have e1 : 6 - j = (6 - (j + 1)) + 1 := by omega
  have e2 : 7 - j - ([98, 45] : List UInt8).length = 6 - (j + 1) := by simp; omega
  rw [e2, e1, List.replicate_succ', List.append_assoc, List.set_append_right _ _ (by simp)]
  simp [digs]

theorem name_loop {n blk : Nat} {w : AV} (hn : n < 2 ^ 64) :
    ∀ (k j : Nat), j + k = 6 → ∀ (h : H) (ts : List AV), ts.length = 54 → getL ts 1 = some w → getL ts 6 = some (.ptr ⟨blk, 0, 0⟩) → getL ts 7 = some (.int .i64 (7 - (j : Int))) → getL ts 8 = some (.int .u64 (n / 10 ^ j : Nat)) → h.get blk = some (.cells 0 134 (bytesAV (arr n j)) 0 false) →
      ∀ (Q : Ex → St → Prop), (∀ ts' h', ts'.length = 54 → getL ts' 1 = some w → getL ts' 6 = some (.ptr ⟨blk, 0, 0⟩) → h'.n = h.n → (∀ b, b ≠ blk → h'.get b = h.get b) → h'.get blk = some (.cells 0 134 (bytesAV (arr n 6)) 0 false) → Q (.exit 0) (ts', h')) → Wp TF (.loop l58_1) (ts, h) Q := by
  intro k
  induction k with
  | zero =>
    intro j hj h ts t0 t1 t6 t7 t8 hg Q hQ
    obtain rfl : j = 6 := by omega
    refine Wp.loop ?_
    have t7 : getL ts 7 = some (.int .i64 1) := t7
    rw [laid_eq t0 [(1, w), (6, .ptr ⟨blk, 0, 0⟩), (7, .int .i64 1), (8, .int .u64 (n / 10 ^ 6 : Nat))] (by simp [t1, t6, t7, t8])]
    unfold l58_1
    refine Wp.seq ?_
    refine Wp.seq ?_
    refine Wp.region ?_
    refine Wo.pre 8 (by kernel_rfl) ?_
    refine Wo.nil ?_
    refine Wp.cond false (by kernel_rfl) ?_
    exact Wp.exit (hQ _ _ (by kernel_rfl) (by kernel_rfl) (by kernel_rfl) rfl (fun _ _ => rfl) hg)
  | succ k ih =>
    intro j hj h ts t0 t1 t6 t7 t8 hg Q hQ
    refine Wp.loop ?_
    have hlt : j < 6 := by omega
    obtain ⟨m, hm'⟩ : ∃ m, m = n / 10 ^ j := ⟨_, rfl⟩
    have hm64 : m < 2 ^ 64 := by rw [hm']; exact Nat.lt_of_le_of_lt (Nat.div_le_self _ _) hn
    have hset := arr_set n j hlt
    rw [← hm'] at t8 hset
    obtain ⟨p, hp⟩ : ∃ p : Nat, p = 7 - j := ⟨_, rfl⟩
    have t7 : getL ts 7 = some (.int .i64 (p : Int)) := by rw [t7]; congr 2; omega
    have hp2 : 2 ≤ p := by omega
    have hp11 : p < 11 := by omega
    have hget := arr_get n j hlt
    rw [← hp] at hget hset
    have hal := arr_len n j (by omega)
    have w1 : IntKind.i64.wrap ((p : Int) - 1) = (p : Int) - 1 := i64_fit _ (by omega)
    have w2 : IntKind.u8.wrap (((m : Nat) : Int).tmod 10) = ((m % 10 : Nat) : Int) := by rw [tmod10, u8_fit _ (by omega)]
    have w3 : IntKind.u8.wrap (48 + ((m % 10 : Nat) : Int)) = ((UInt8.ofNat (48 + m % 10)).toNat : Int) := by rw [digit_nat, u8_fit _ (by omega)]
    have w4 : IntKind.u64.wrap (((m : Nat) : Int).tdiv 10) = ((m / 10 : Nat) : Int) := by rw [tdiv10, u64_fit _ (by omega)]
    obtain ⟨c, hc⟩ : ∃ c, c = UInt8.ofNat (48 + m % 10) := ⟨_, rfl⟩
    rw [← hc] at w3 hset
    have w23 : IntKind.u8.wrap (48 + IntKind.u8.wrap (((m : Nat) : Int).tmod 10)) = (c.toNat : Int) := by rw [w2, w3]
    clear hc w2 w3
    have hn1 : n / 10 ^ (j + 1) = m / 10 := by rw [hm', div_step]
    have hld : h.ldg ⟨blk, 0, p⟩ none = some (.int .u8 48) := by simp [H.ldg, H.ld, H.row, hg, get_byte, hget]
    have hst := st_byte hg (k := p) (by omega) c
    rw [hset] at hst
    have c2 : (2 : Int) ≤ (p : Int) := by omega
    have eia : ∀ {y z : IX} {ρ : IX → AV}, ρ y = .ptr ⟨blk, 0, 0⟩ → ρ z = .int .i64 p → iop (.iaA 11 1 y z) ρ h = some (.val (.ptr ⟨blk, 0, p⟩) h) := by
      intro y z ρ hy hz
      have hq : (p : Int) < 11 := by omega
      simp [iop, hy, hz, asI, hq]
    rw [laid_eq t0 [(1, w), (6, .ptr ⟨blk, 0, 0⟩), (7, .int .i64 p), (8, .int .u64 m)] (by simp [t1, t6, t7, t8])]
    unfold l58_1
    refine Wp.seq ?_
    refine Wp.seq ?_
    refine Wp.region ?_
    refine Wo.pre 8 (by kernel_rfl) ?_
    refine Wo.nil ?_
    refine Wp.cond (decide ((p : Int) ≥ 2)) (by kernel_rfl) ?_
    rw [if_pos (by simp; omega)]
    refine Wp.skip ?_
    refine Wp.seq ?_
    refine Wp.block ?_
    refine Wp.region ?_
    refine Wo.pre 1 (by kernel_rfl) ?_
    refine Wo.val _ h (by kernel_rfl) (eia (by kernel_rfl) (by kernel_rfl)) ?_
    refine Wo.val (.int .u8 48) h (by kernel_rfl) (iop_ld (a := ⟨blk, 0, p⟩) (by kernel_rfl) hld) ?_
    refine Wo.pre 3 (by kernel_rfl) ?_
    refine Wo.pre 1 (by kernel_rfl) ?_
    refine Wo.val _ h (by kernel_rfl) (eia (by kernel_rfl) (by kernel_rfl)) ?_
    refine Wo.val .undef (h.set blk (.cells 0 134 (bytesAV (arr n (j + 1))) 0 false)) (by kernel_rfl) (iop_st1 (a := ⟨blk, 0, p⟩) (v := .int .u8 c.toNat) (by kernel_rfl) (by rw [← w23]; kernel_rfl) rfl hst) ?_
    refine Wo.nil ?_
    refine Wp.region ?_
    refine Wo.pre 8 (by kernel_rfl) ?_
    refine Wo.nil ?_
    refine ih (j + 1) (by omega) _ _ (by kernel_rfl) (by kernel_rfl) (by kernel_rfl) (by rw [show (7 : Int) - ((j + 1 : Nat) : Int) = (p : Int) - 1 by omega, ← w1]; kernel_rfl) (by rw [hn1, ← w4]; kernel_rfl) (by rw [h.get_set]) Q ?_
    intro ts' h' g0 g1 g1' g2 g3 g4
    exact hQ ts' h' g0 g1 g1' (by rw [g2]; rfl) (fun b hb => by rw [g3 b hb, h.get_set_ne _ b _ hb]) g4
end Go.Det
