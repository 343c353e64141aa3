/- What the writers of the packet's first package do: numbers and rows laid behind a row. -/
import Derived.Test.YthahfhdibhgboaaIR
import Derived.Test.YthahfhdibhgboaaDetWalk
set_option linter.unusedVariables false
set_option linter.unusedSimpArgs false
namespace Go.Det
open Go.Proofs
theorem rsized8_run (h : H) : Runs TF 73 [.int .i64 8] h (.bool true) h := by
  refine Runs.of' f73 rfl ?_
  refine Wp.seq (Wp.region ?_)
  refine Wo.val _ _ rfl rfl (Wo.nil ?_)
  refine Wp.seq (Wp.region ?_)
  repeat (first | refine Wo.val _ _ rfl rfl ?_ | refine Wo.not rfl ?_)
  exact Wo.nil (Wp.ret ⟨.inr rfl, rfl, rfl⟩)

attribute [local simp] skip_iff ret_iff exit_iff seq_iff block_iff thenQ_normal thenQ_ret thenQ_exit thenQ_goto blockQ_normal blockQ_ret blockQ_exit blockQ_goto condQ_bool cond_iff region_iff wo_nil ansQ_val ansQ_call wo_cons wo_guard wanted put setL getL ev iop binop binInt shInt asI retV resOf unop getL_put len_put
attribute [local congr] ansQ_congr condQ_congr

theorem sized_run (s : Int) (h : H) : Runs TF 70 [.int .i64 s] h (.bool (decide (1 ≤ s ∧ s ≤ 4 ∨ s = 8))) h := by
  refine Runs.of' f70 rfl ?_
  simp [List.replicate]
  by_cases h3 : s = 8
  · subst h3; simp
  · by_cases h1 : 1 ≤ s <;> by_cases h2 : s ≤ 4 <;> simp [h1, h2, h3]

theorem most_run (s : Int) (hs : 1 ≤ s ∧ s ≤ 4 ∨ s = 8) (h : H) : Runs TF 71 [.int .i64 s] h (.int .u64 (2 ^ (8 * s.toNat) - 1)) h := by
  have : s = 1 ∨ s = 2 ∨ s = 3 ∨ s = 4 ∨ s = 8 := by omega
  refine Runs.of' f71 rfl ?_
  rcases this with rfl | rfl | rfl | rfl | rfl <;> simp [List.replicate, i64_fit, u64_fit, IntKind.bits] <;> decide

theorem clone_run {v : AV} {l : List UInt8} {h : H} (hb : Bs h v l) (hl : l.length ≤ maxRow) : ∃ x h', Runs TF 72 [v] h x h' ∧ Ext h h' ∧ Ow h.n h' x l := by
  rcases hb with ⟨rfl, rfl⟩ | ⟨a, c, rfl, h1, h2⟩
  · refine ⟨.nils, h, Runs.of' f72 rfl ?_, Ext.refl h, .inl ⟨rfl, rfl⟩⟩
    simp [List.replicate, eqv]
  · have hb : Bs (h.new (.cells 0 5 [] 0 false)) (.sl a l.length c) l := Bs.ext (.inr ⟨a, c, rfl, h1, h2⟩) (Ext.new h _)
    obtain ⟨x, h', e1, e2, e3, e4⟩ := Ow.app (lo := h.n) (h := h.new (.cells 0 5 [] 0 false)) (x := .sl ⟨h.n, 0, 0⟩ 0 (.ex 0)) (l := []) (.inr ⟨h.n, 0, Nat.le_refl _, by simp, by rw [h.get_new]; rfl, .inr rfl⟩) hb (by simp) (by simpa using hl)
    refine ⟨x, h', Runs.of' f72 rfl ?_, ?_, e2⟩
    · simp [List.replicate, eqv, fillL, isStrV, e1]
    · exact Ext2.one (((Ext.new h _).two (Nat.le_refl _)).trans e3)

theorem own_run {v : AV} {l : List UInt8} {h : H} (hb : Bs h v l) (hl : l.length ≤ maxRow) : ∃ x h', Runs TF 74 [v] h x h' ∧ Ext h h' ∧ Ow h.n h' x l := by
  obtain ⟨x, h', e1, e2, e3, e4⟩ := Ow.app (lo := h.n) (h := h) (x := .nils) (l := []) (.inl ⟨rfl, rfl⟩) hb (Nat.le_refl _) (by simpa using hl)
  refine ⟨x, h', Runs.of' f74 rfl ?_, Ext2.one e3, e2⟩
  simp [List.replicate, hb.notStr, e1]

/-- A digit of a number, from the front. -/
def dig (n size i : Nat) : UInt8 := b8 ((n : Int).fdiv (2 ^ (8 * (size - 1 - i))))
def digits (n size k : Nat) : List UInt8 := (List.range k).map (dig n size)
theorem digits_succ (n size k : Nat) : digits n size (k + 1) = digits n size k ++ [dig n size k] := by simp [digits, List.range_succ]
theorem digits_len (n size k : Nat) : (digits n size k).length = k := by simp [digits]

theorem num_loop {lo n size : Nat} (hn : n < 2 ^ 64) (hs : 1 ≤ size ∧ size ≤ 8) {l : List UInt8} (hl : l.length + 8 ≤ maxRow) :
    ∀ (k i : Nat), i + k = size → ∀ (x : AV) (h : H) (ts : List AV), ts.length = 39 → getL ts 1 = some (.int .u64 n) → getL ts 2 = some (.int .i64 size) → getL ts 8 = some x → getL ts 21 = some (.int .i64 size) → getL ts 22 = some (.int .i64 i) →
      lo ≤ h.n → Ow lo h x (l ++ digits n size i) → ∀ (Q : Ex → St → Prop), (∀ ts' h' x', ts'.length = 39 → getL ts' 8 = some x' → Ow lo h' x' (l ++ digits n size size) → Ext2 lo h h' → Q (.exit 1) (ts', h')) → Wp TF (.loop l19_1) (ts, h) Q := by
  intro k
  induction k with
  | zero =>
    intro i hi x h ts t0 t1 t2 t8 t21 t22 hlo hx Q hQ
    obtain rfl : i = size := by omega
    refine Wp.loop ?_
    simp [l19_1, t0, t21, t22]
    exact hQ _ _ _ (by simp [t0]) (by simp [t8]) hx ⟨Nat.le_refl _, fun _ _ => rfl⟩
  | succ k ih =>
    intro i hi x h ts t0 t1 t2 t8 t21 t22 hlo hx Q hQ
    refine Wp.loop ?_
    have hlt : i < size := by omega
    obtain ⟨e, he⟩ : ∃ e, e = size - 1 - i := ⟨_, rfl⟩
    have w1 : IntKind.i64.wrap ((size : Int) - 1) = (size : Int) - 1 := i64_fit _ (by omega)
    have w2 : IntKind.i64.wrap ((size : Int) - 1 - (i : Int)) = (e : Int) := by rw [i64_fit _ (by omega)]; omega
    have w3 : IntKind.i64.wrap (8 * (e : Int)) = 8 * (e : Int) := i64_fit _ (by omega)
    have w4 : IntKind.u64.wrap (8 * (e : Int)) = 8 * (e : Int) := u64_fit _ (by omega)
    have w5 : IntKind.i64.wrap ((i : Int) + 1) = (i : Int) + 1 := i64_fit _ (by omega)
    have w6 : min (8 * (e : Int)).toNat IntKind.u64.bits = 8 * e := by simp only [IntKind.bits]; omega
    have w7 : ¬ (8 * (e : Int) < 0) := by omega
    have w8 : IntKind.u8.wrap ((n : Int).fdiv (2 ^ (8 * e))) = ((dig n size i).toNat : Int) := by rw [wrap_u8, dig, ← he]
    obtain ⟨y, h', e1, e2, e3, e4⟩ := Ow.app (hx.ext (Ext.new h (.cells 0 5 [.int .u8 (dig n size i).toNat] 0 false))) (Bs.one h (dig n size i)) (by simp; omega) (by simp [digits_len]; omega)
    have hlo' : lo ≤ h'.n := by have := e3.1; simp at this; omega
    simp only [l19_1]
    simp [t0, t1, t2, t8, t21, t22, hlt, w1, w2, w3, w4, w5, w6, w7, w8, fillL, putAt, AV.cells, AV.one, isStrV, e1]
    refine ih (i + 1) (by omega) y h' _ (by simp [t0]) (by simp [t1]) (by simp [t2]) (by simp [t0]) (by simp [t21]) (by simp [t0]) hlo' (by rw [digits_succ, ← List.append_assoc]; exact e2) Q ?_
    intro ts' h2 x' g1 g2 g3 g4
    exact hQ ts' h2 x' g1 g2 g3 ((((Ext.new h _).two hlo).trans e3).trans g4)

def numE (n : Nat) (size : Int) : Int := if ¬ (1 ≤ size ∧ size ≤ 4 ∨ size = 8) then 1 else if 2 ^ (8 * size.toNat) ≤ n then 3 else 0

theorem num_run {b : AV} {l : List UInt8} {h : H} (hb : Bs h b l) (hl : l.length + 8 ≤ maxRow) {n : Nat} (hn : n < 2 ^ 64) (size : Int) :
    ∃ v h', Runs TF 19 [b, .int .u64 n, .int .i64 size] h v h' ∧ ∃ x, v = .tup [x, .int .i64 (numE n size)] ∧ Ext h h' ∧ Ow h.n h' x (if numE n size = 0 then l ++ digits n size.toNat size.toNat else []) := by
  refine Runs.ofP f19 rfl ?_
  simp [List.replicate]
  refine ⟨_, _, sized_run size h, ?_⟩
  by_cases hs : 1 ≤ size ∧ size ≤ 4 ∨ size = 8
  · simp [hs]
    refine ⟨_, _, most_run size hs h, ?_⟩
    by_cases hm : 2 ^ (8 * size.toNat) ≤ n
    · have e : numE n size = 3 := by simp [numE, hs, hm]
      have h3 : (2 : Int) ^ (8 * size.toNat) - 1 < (n : Int) := by have : ((2 ^ (8 * size.toNat) : Nat) : Int) ≤ n := by exact_mod_cast hm
                                                                   push_cast at this; omega
      simp [h3, e]
      exact ⟨Ext.refl h, .inl ⟨rfl, rfl⟩⟩
    · have e : numE n size = 0 := by simp [numE, hs, hm]
      have h3 : ¬ ((2 : Int) ^ (8 * size.toNat) - 1 < (n : Int)) := by have : (n : Int) < ((2 ^ (8 * size.toNat) : Nat) : Int) := by exact_mod_cast Nat.lt_of_not_le hm
                                                                       push_cast at this; omega
      obtain ⟨x, h', c1, c2, c3⟩ := clone_run hb (by omega)
      simp [h3]
      refine ⟨x, h', c1, ?_⟩
      obtain ⟨m, rfl⟩ : ∃ m : Nat, size = m := ⟨size.toNat, by omega⟩
      refine num_loop (lo := h.n) hn (size := m) (by omega) hl m 0 (by omega) x h' _ rfl rfl rfl rfl rfl rfl c2.1 (by simpa [digits] using c3) _ ?_
      intro ts' h2 x' g1 g2 g3 g4
      simp [g1, g2, e]
      exact ⟨⟨Nat.le_trans c2.1 g4.1, fun b hb => (g4.2 b hb).trans (c2.2 b hb)⟩, g3⟩
  · have e : numE n size = 1 := by simp [numE, hs]
    simp [hs, e]
    exact ⟨Ext.refl h, .inl ⟨rfl, rfl⟩⟩


theorem equal_run {x y : AV} {l m : List UInt8} {h : H} (hx : Bs h x l) (hy : Bs h y m) : Runs TF 23 [x, y] h (.bool (l == m)) h := by
  refine Runs.of' f23 rfl ?_
  have tob : ∀ l : List UInt8, toBytes (bytesAV l) = some l := by
    intro l
    induction l with
    | nil => rfl
    | cons c l ih => simp only [bytesAV, List.map_cons, toBytes] at ih ⊢; rw [ih]; simp
  have key : ∀ {v : AV} {l : List UInt8}, Bs h v l → iop (.cvBS (.c v)) (ev []) h = some (.val (.str l) h) := by
    intro v l hv
    rcases hv with ⟨rfl, rfl⟩ | ⟨a, c, rfl, _, h2⟩
    · rfl
    · simp [h2, tob]
  have kx := key hx
  have ky := key hy
  simp only [iop, ev] at kx ky
  simp [List.replicate, kx, ky, binStr]

theorem dig_eq (n size i : Nat) : dig n size i = UInt8.ofNat (n / 256 ^ (size - 1 - i)) := by
  have e : (n : Int).fdiv (2 ^ (8 * (size - 1 - i))) = ((n / 256 ^ (size - 1 - i) : Nat) : Int) := by
    have h2 : (2 : Int) ^ (8 * (size - 1 - i)) = ((256 ^ (size - 1 - i) : Nat) : Int) := by
      rw [show (256 : Nat) = 2 ^ 8 from rfl, ← Nat.pow_mul, Int.natCast_pow]
      rfl
    rw [h2, Int.fdiv_eq_ediv_of_nonneg _ (Int.natCast_nonneg _)]
    exact_mod_cast rfl
  rw [dig, e, b8]
  generalize n / 256 ^ (size - 1 - i) = x
  have : ((x : Int) % 256).toNat = x % 256 := by omega
  rw [this, ofNat_mod]

theorem rnum_loop {size n : Nat} (hn : n < 2 ^ 64) (hs : 1 ≤ size ∧ size ≤ 8) {blk : Nat} :
    ∀ (k : Nat), k ≤ size → ∀ (h : H) (ts : List AV), ts.length = 35 → blk < h.n → getL ts 1 = some (.int .u64 ((n / 256 ^ (size - k) : Nat) : Int)) → getL ts 8 = some (.sl ⟨blk, 0, 0⟩ size (.ex size)) → getL ts 9 = some (.int .i64 ((k : Int) - 1)) →
      h.get blk = some (.cells 0 5 (bytesAV (List.replicate k 0 ++ (digits n size size).drop k)) 0 false) →
      ∀ (Q : Ex → St → Prop), (∀ ts' h', ts'.length = 35 → getL ts' 0 = getL ts 0 → getL ts' 1 = some (.int .u64 ((n / 256 ^ size : Nat) : Int)) → getL ts' 8 = some (.sl ⟨blk, 0, 0⟩ size (.ex size)) → h'.get blk = some (.cells 0 5 (bytesAV (digits n size size)) 0 false) → h'.n = h.n → (∀ b, b ≠ blk → h'.get b = h.get b) → Q (.exit 0) (ts', h')) → Wp TF (.loop l20_1) (ts, h) Q := by
  intro k
  induction k with
  | zero =>
    intro hk h ts t0 hb t1 t8 t9 hg Q hQ
    refine Wp.loop ?_
    have w : ¬ ((0 : Int) ≤ -1) := by omega
    simp [l20_1, t0, t9]
    exact hQ _ _ (by simp [t0]) (by simp [t0]) (by simp [t0]; simpa using t1) (by simp [t0]; exact t8) (by simpa using hg) rfl (fun _ _ => rfl)
  | succ k ih =>
    intro hk h ts t0 hb t1 t8 t9 hg Q hQ
    refine Wp.loop ?_
    have t9 : getL ts 9 = some (.int .i64 (k : Int)) := by rw [t9]; congr 2; omega
    obtain ⟨m, hm⟩ : ∃ m, m = n / 256 ^ (size - (k + 1)) := ⟨_, rfl⟩
    rw [← hm] at t1
    have hm64 : m < 2 ^ 64 := by rw [hm]; exact Nat.lt_of_le_of_lt (Nat.div_le_self _ _) hn
    have hmd : m / 256 = n / 256 ^ (size - k) := by
      rw [hm, Nat.div_div_eq_div_mul, ← Nat.pow_succ]
      congr 2; omega
    have w1 : IntKind.u8.wrap ((m : Int).tmod 256) = ((dig n size k).toNat : Int) := by
      rw [dig_eq, ← show size - (k + 1) = size - 1 - k by omega, ← hm]
      have : (m : Int).tmod 256 = ((m % 256 : Nat) : Int) := by rw [Int.tmod_eq_emod_of_nonneg (by omega)]; omega
      rw [this, u8_fit _ (by omega), UInt8.toNat_ofNat']
    have w2 : IntKind.u64.wrap ((m : Int).tdiv 256) = (m : Int) / 256 := by
      rw [Int.tdiv_eq_ediv_of_nonneg (by omega), u64_fit _ (by omega)]
    have hmd' : (m : Int) / 256 = (n : Int) / 256 ^ (size - k) := by
      have := congrArg (Nat.cast : Nat → Int) hmd
      rw [Int.natCast_ediv, Int.natCast_ediv, Int.natCast_pow] at this
      exact this
    have w2' : IntKind.u64.wrap ((n : Int) / 256 ^ (size - k)) = (n : Int) / 256 ^ (size - k) := by
      rw [← hmd', u64_fit _ (by omega)]
    have w3 : IntKind.i64.wrap ((k : Int) - 1) = (k : Int) - 1 := i64_fit _ (by omega)
    have hl : (List.replicate (k + 1) (0 : UInt8) ++ (digits n size size).drop (k + 1)).length = size := by simp [digits_len]; omega
    have hset : (List.replicate (k + 1) (0 : UInt8) ++ (digits n size size).drop (k + 1)).set k (dig n size k) = List.replicate k 0 ++ (digits n size size).drop k := by
      have e1 : (digits n size size).drop k = dig n size k :: (digits n size size).drop (k + 1) := by
        rw [List.drop_eq_getElem_cons (by rw [digits_len]; omega)]
        simp [digits]
      rw [e1, List.replicate_succ', List.append_assoc, List.set_append_right _ _ (by simp)]
      simp
    have hst := st_byte hg (k := k) (by rw [hl]; omega) (dig n size k)
    rw [hset] at hst
    have hk' : k < size := by omega
    simp only [l20_1]
    simp [t0, t1, t8, t9, w1, hk', AV.cells, hst, w2, w3]
    refine ih (by omega) _ _ (by simp [t0]) (by simpa using hb) (by simp [t0, hmd', w2']) (by simp [t8]) (by simp [t0]) (by rw [h.get_set]) Q ?_
    intro ts' h' g1 g2 g3 g4 g5 g6 g7
    exact hQ ts' h' g1 (g2.trans (by simp)) g3 g4 g5 g6 (fun b hb => (g7 b hb).trans (h.get_set_ne _ b _ hb))

end Go.Det
