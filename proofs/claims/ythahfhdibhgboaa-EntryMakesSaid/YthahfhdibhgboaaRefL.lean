/- The loops of the reference's reader: a number out of bytes. -/
import Derived.Test.YthahfhdibhgboaaLaysR
set_option linter.unusedVariables false
set_option linter.unusedSimpArgs false
set_option linter.unusedSectionVars false
namespace Go.Det
open Go.Proofs
attribute [local simp] skip_iff ret_iff exit_iff seq_iff block_iff thenQ_normal thenQ_ret thenQ_exit thenQ_goto blockQ_normal blockQ_ret blockQ_exit blockQ_goto condQ_bool cond_iff region_iff wo_nil ansQ_val ansQ_call wo_cons wo_guard wanted put setL getL ev iop binop binInt shInt asI retV resOf unop
attribute [local congr] ansQ_congr condQ_congr Wo_congr Wp_congr

/-- One cell of a row. -/
theorem ldn_at {h : H} {a : AA} {m : Nat} {c : List AV} (hc : h.ldn a m = some c) {i : Nat} {v : AV} (hv : c[i]? = some v) : h.ldg ⟨a.b, a.g, a.o + i⟩ none = some v := by
  unfold H.ldn at hc
  cases hr : h.row a with
  | none => rw [hr] at hc; simp at hc
  | some c0 =>
    rw [hr] at hc
    simp only [cut] at hc
    split at hc
    · simp only [Option.some.injEq] at hc
      subst hc
      simp only [H.ldg, H.ld, row_drop hr i, getL_eq]
      rw [List.getElem?_take] at hv
      split at hv
      · rw [List.getElem?_drop] at hv; exact hv
      · simp at hv
    · simp at hc

theorem Bs.at {h : H} {a : AA} {c : Cp} {l : List UInt8} (hb : Bs h (.sl a l.length c) l) {i : Nat} {b : UInt8} (hi : l[i]? = some b) : h.ldg ⟨a.b, a.g, a.o + i⟩ none = some (.int .u8 b.toNat) := by
  rcases hb with ⟨e, _⟩ | ⟨a', c', e, _, h2⟩
  · simp at e
  · simp only [AV.sl.injEq] at e
    obtain ⟨rfl, _, rfl⟩ := e
    exact ldn_at h2 (by simp [bytesAV, hi])

theorem be_take {l : List UInt8} {i : Nat} {c : UInt8} (hc : l[i]? = some c) : be (l.take (i + 1)) = be (l.take i) * 256 + c.toNat := by
  have ht : l.take (i + 1) = l.take i ++ [c] := by rw [List.take_add_one, hc]; rfl
  rw [ht, be_snoc]

theorem rrnum_loop {h : H} {l : List UInt8} {b : Nat} {a : AA} {cc : Cp} (hg : h.ldg ⟨b, 0, 0⟩ none = some (.sl a l.length cc)) (hb : Bs h (.sl a l.length cc) l) {size : Nat} (hs : size ≤ 8) (hl : size ≤ l.length) :
    ∀ (k i : Nat), i + k = size → ∀ (ts : List AV), ts.length = 44 → getL ts 0 = some (.ptr ⟨b, 0, 0⟩) → getL ts 1 = some (.int .i64 size) → getL ts 6 = some (.int .u64 (be (l.take i) : Nat)) → getL ts 7 = some (.int .i64 i) →
      ∀ (Q : Ex → St → Prop), (∀ ts', ts'.length = 44 → (∀ j, j < 6 → getL ts' j = getL ts j) → getL ts' 6 = some (.int .u64 (be (l.take size) : Nat)) → Q (.exit 0) (ts', h)) → Wp TF (.loop l28_1) (ts, h) Q := by
  intro k
  induction k with
  | zero =>
    intro i hi ts t0 ta t1 t6 t7 Q hQ
    obtain rfl : i = size := by omega
    refine Wp.loop ?_
    simp [l28_1, t0, t1, t7, getL_put, len_put]
    refine hQ _ (by simp [t0, len_put]) (fun j hj => ?_) (by simp [getL_put, t6])
    repeat rw [getL_low _ _ hj (by omega)]
  | succ k ih =>
    intro i hi ts t0 ta t1 t6 t7 Q hQ
    refine Wp.loop ?_
    have hlt : i < size := by omega
    have hlt2 : i < l.length := by omega
    obtain ⟨c, hc⟩ : ∃ c, l[i]? = some c := ⟨l[i]'(by omega), by simp [hlt2]⟩
    have hld := hb.at hc
    have hA : be (l.take i) < 256 ^ i := by have := be_lt (l.take i); rwa [List.length_take, Nat.min_eq_left (by omega)] at this
    have hA2 : be (l.take i) * 256 + 255 < 2 ^ 64 := by
      have : 256 ^ i ≤ 256 ^ 7 := Nat.pow_le_pow_right (by omega) (by omega)
      omega
    have hbe := be_take hc
    obtain ⟨A, hAe⟩ : ∃ A, A = be (l.take i) := ⟨_, rfl⟩
    rw [← hAe] at t6 hA2 hbe
    have w1 : IntKind.i64.wrap ((i : Int) + 1) = (i : Int) + 1 := i64_fit _ (by omega)
    have w2 : IntKind.u64.wrap (256 * (A : Int)) = 256 * (A : Int) := u64_fit _ (by omega)
    have hc8 := c.toNat_lt
    have w3 : IntKind.u64.wrap ((c.toNat : Nat) : Int) = ((c.toNat : Nat) : Int) := u64_fit _ (by omega)
    have w4 : IntKind.u64.wrap (256 * (A : Int) + ((c.toNat : Nat) : Int)) = ((be (l.take (i + 1)) : Nat) : Int) := by rw [u64_fit _ (by omega), hbe]; omega
    simp only [l28_1]
    simp [ta, t0, t1, t6, t7, getL_put, len_put, hlt, hlt2, hg, hld, w2, w3, w4]
    refine ih (i + 1) (by omega) _ (by simp [t0, len_put]) (by simp [ta, getL_put]) (by simp [t1, getL_put]) (by simp [t0, getL_put, len_put]) (by simp [t0, getL_put, len_put, w1]) Q ?_
    intro ts' g0 g1 g2
    refine hQ ts' g0 (fun j hj => ?_) g2
    rw [g1 j hj]
    repeat rw [getL_low _ _ hj (by omega)]

theorem rrvec_loop {h : H} {l : List UInt8} {b : Nat} {a : AA} {cc : Cp} (hg : h.ldg ⟨b, 0, 0⟩ none = some (.sl a l.length cc)) (hb : Bs h (.sl a l.length cc) l) {size : Nat} (hs : size ≤ 3) (hl : size ≤ l.length) :
    ∀ (k i : Nat), i + k = size → ∀ (ts : List AV), ts.length = 73 → getL ts 0 = some (.ptr ⟨b, 0, 0⟩) → getL ts 1 = some (.int .i64 size) → getL ts 6 = some (.int .i64 (be (l.take i) : Nat)) → getL ts 7 = some (.int .i64 i) →
      ∀ (Q : Ex → St → Prop), (∀ ts', ts'.length = 73 → (∀ j, j < 6 → getL ts' j = getL ts j) → getL ts' 6 = some (.int .i64 (be (l.take size) : Nat)) → Q (.exit 0) (ts', h)) → Wp TF (.loop l30_1) (ts, h) Q := by
  intro k
  induction k with
  | zero =>
    intro i hi ts t0 ta t1 t6 t7 Q hQ
    obtain rfl : i = size := by omega
    refine Wp.loop ?_
    simp [l30_1, t0, t1, t7, getL_put, len_put]
    refine hQ _ (by simp [t0, len_put]) (fun j hj => ?_) (by simp [getL_put, t6])
    repeat rw [getL_low _ _ hj (by omega)]
  | succ k ih =>
    intro i hi ts t0 ta t1 t6 t7 Q hQ
    refine Wp.loop ?_
    have hlt : i < size := by omega
    have hlt2 : i < l.length := by omega
    obtain ⟨c, hc⟩ : ∃ c, l[i]? = some c := ⟨l[i]'(by omega), by simp [hlt2]⟩
    have hld := hb.at hc
    have hA : be (l.take i) < 256 ^ i := by have := be_lt (l.take i); rwa [List.length_take, Nat.min_eq_left (by omega)] at this
    have hA2 : be (l.take i) * 256 + 255 < 2 ^ 62 := by
      have : 256 ^ i ≤ 256 ^ 3 := Nat.pow_le_pow_right (by omega) (by omega)
      omega
    have hbe := be_take hc
    obtain ⟨A, hAe⟩ : ∃ A, A = be (l.take i) := ⟨_, rfl⟩
    rw [← hAe] at t6 hA2 hbe
    have w1 : IntKind.i64.wrap ((i : Int) + 1) = (i : Int) + 1 := i64_fit _ (by omega)
    have w2 : IntKind.i64.wrap (256 * (A : Int)) = 256 * (A : Int) := i64_fit _ (by omega)
    have hc8 := c.toNat_lt
    have w3 : IntKind.i64.wrap ((c.toNat : Nat) : Int) = ((c.toNat : Nat) : Int) := i64_fit _ (by omega)
    have w4 : IntKind.i64.wrap (256 * (A : Int) + ((c.toNat : Nat) : Int)) = ((be (l.take (i + 1)) : Nat) : Int) := by rw [i64_fit _ (by omega), hbe]; omega
    simp only [l30_1]
    simp [ta, t0, t1, t6, t7, getL_put, len_put, hlt, hlt2, hg, hld, w2, w3, w4]
    refine ih (i + 1) (by omega) _ (by simp [t0, len_put]) (by simp [ta, getL_put]) (by simp [t1, getL_put]) (by simp [t0, getL_put, len_put]) (by simp [t0, getL_put, len_put, w1]) Q ?_
    intro ts' g0 g1 g2
    refine hQ ts' g0 (fun j hj => ?_) g2
    rw [g1 j hj]
    repeat rw [getL_low _ _ hj (by omega)]
end Go.Det
