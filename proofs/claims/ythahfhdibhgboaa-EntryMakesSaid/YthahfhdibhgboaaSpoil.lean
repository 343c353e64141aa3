/- Rows that are spoiled, byte by byte. -/
import Derived.Test.YthahfhdibhgboaaLays
set_option linter.unusedVariables false
set_option linter.unusedSimpArgs false
set_option linter.unusedSectionVars false
namespace Go.Det
open Go.Proofs
attribute [local simp] skip_iff ret_iff exit_iff seq_iff block_iff thenQ_normal thenQ_ret thenQ_exit thenQ_goto blockQ_normal blockQ_ret blockQ_exit blockQ_goto condQ_bool cond_iff region_iff wo_nil ansQ_val ansQ_call wo_cons wo_guard wanted put setL getL ev iop binop binInt shInt asI retV resOf unop
attribute [local congr] ansQ_congr condQ_congr Wo_congr Wp_congr

theorem spoil3_2 {blk g n : Nat} (hn : n ≤ maxRow) :
    ∀ (k i : Nat), i + k = n → ∀ (h : H) (ts : List AV) (x : AV), ts.length = 143 → getL ts 10 = some x → getL ts 98 = some (.int .i64 n) → getL ts 99 = some (.int .i64 i) →
      (n = 0 ∨ ((∃ cc, x = .sl ⟨blk, g, 0⟩ n cc) ∧ ∃ r : List UInt8, r.length = n ∧ h.get blk = some (.cells g 5 (bytesAV r) 0 false))) →
      ∀ (Q : Ex → St → Prop), (∀ ts' h', ts'.length = 143 → (∀ j, j < 97 → j ≠ 19 → getL ts' j = getL ts j) → h'.n = h.n → (∀ b, b ≠ blk → h'.get b = h.get b) → (n = 0 ∨ ∃ r : List UInt8, r.length = n ∧ h'.get blk = some (.cells g 5 (bytesAV r) 0 false)) → Q (.exit 0) (ts', h')) → Wp TF (.loop l3_2) (ts, h) Q := by
  have hmx : maxRow < 2 ^ 62 := by decide
  intro k
  induction k with
  | zero =>
    intro i hi h ts x t0 tx tl ti hx Q hQ
    obtain rfl : i = n := by omega
    refine Wp.loop ?_
    simp [l3_2, t0, tl, ti, getL_put, len_put]
    refine hQ _ _ (by simp [t0, len_put]) (fun j hj hk => ?_) rfl (fun _ _ => rfl) (hx.imp id (fun y => y.2))
    repeat rw [getL_ne _ _ (by omega)]
  | succ k ih =>
    intro i hi h ts x t0 tx tl ti hx Q hQ
    refine Wp.loop ?_
    obtain ⟨⟨cc, rfl⟩, r, hr, hg⟩ := hx.resolve_left (by omega)
    have hlt : i < n := by omega
    obtain ⟨c, hc⟩ : ∃ c, r[i]? = some c := ⟨r[i]'(by omega), by simp [hr, hlt]⟩
    have hld : h.ldg ⟨blk, g, i⟩ none = some (.int .u8 c.toNat) := by simp [H.ldg, H.ld, H.row, hg, get_byte, hc]
    have w1 : IntKind.i64.wrap ((i : Int) + 1) = (i : Int) + 1 := i64_fit _ (by omega)
    simp only [l3_2]
    simp [t0, tx, tl, ti, getL_put, len_put, hlt, hld, IntKind.bits, wrap_u8, AV.cells, st_byte hg (k := i) (by omega)]
    refine ih (i + 1) (by omega) _ _ _ (by simp [t0, len_put]) (by simp [tx, getL_put]) (by simp [tl, getL_put]) (by simp [t0, getL_put, len_put, w1]) (.inr ⟨⟨cc, rfl⟩, ⟨_, ?hl, h.get_set _ _⟩⟩) Q ?_
    case hl => rw [List.length_set, hr]
    intro ts' h' g1 g2 g3 g4 g5
    refine hQ ts' h' g1 (fun j hj hk => ?_) (by rw [g3]; rfl) (fun b hb => by rw [g4 b hb, h.get_set_ne _ b _ hb]) g5
    rw [g2 j hj hk]
    repeat rw [getL_ne _ _ (by omega)]

theorem spoil3_1 {blk g n : Nat} (hn : n ≤ maxRow) :
    ∀ (k i : Nat), i + k = n → ∀ (h : H) (ts : List AV) (x : AV), ts.length = 143 → getL ts 14 = some x → getL ts 110 = some (.int .i64 n) → getL ts 111 = some (.int .i64 i) →
      (n = 0 ∨ ((∃ cc, x = .sl ⟨blk, g, 0⟩ n cc) ∧ ∃ r : List UInt8, r.length = n ∧ h.get blk = some (.cells g 5 (bytesAV r) 0 false))) →
      ∀ (Q : Ex → St → Prop), (∀ ts' h', ts'.length = 143 → (∀ j, j < 109 → j ≠ 20 → getL ts' j = getL ts j) → h'.n = h.n → (∀ b, b ≠ blk → h'.get b = h.get b) → (n = 0 ∨ ∃ r : List UInt8, r.length = n ∧ h'.get blk = some (.cells g 5 (bytesAV r) 0 false)) → Q (.exit 2) (ts', h')) → Wp TF (.loop l3_1) (ts, h) Q := by
  have hmx : maxRow < 2 ^ 62 := by decide
  intro k
  induction k with
  | zero =>
    intro i hi h ts x t0 tx tl ti hx Q hQ
    obtain rfl : i = n := by omega
    refine Wp.loop ?_
    simp [l3_1, t0, tl, ti, getL_put, len_put]
    refine hQ _ _ (by simp [t0, len_put]) (fun j hj hk => ?_) rfl (fun _ _ => rfl) (hx.imp id (fun y => y.2))
    repeat rw [getL_ne _ _ (by omega)]
  | succ k ih =>
    intro i hi h ts x t0 tx tl ti hx Q hQ
    refine Wp.loop ?_
    obtain ⟨⟨cc, rfl⟩, r, hr, hg⟩ := hx.resolve_left (by omega)
    have hlt : i < n := by omega
    obtain ⟨c, hc⟩ : ∃ c, r[i]? = some c := ⟨r[i]'(by omega), by simp [hr, hlt]⟩
    have hld : h.ldg ⟨blk, g, i⟩ none = some (.int .u8 c.toNat) := by simp [H.ldg, H.ld, H.row, hg, get_byte, hc]
    have w1 : IntKind.i64.wrap ((i : Int) + 1) = (i : Int) + 1 := i64_fit _ (by omega)
    simp only [l3_1]
    simp [t0, tx, tl, ti, getL_put, len_put, hlt, hld, IntKind.bits, wrap_u8, AV.cells, st_byte hg (k := i) (by omega)]
    refine ih (i + 1) (by omega) _ _ _ (by simp [t0, len_put]) (by simp [tx, getL_put]) (by simp [tl, getL_put]) (by simp [t0, getL_put, len_put, w1]) (.inr ⟨⟨cc, rfl⟩, ⟨_, ?hl, h.get_set _ _⟩⟩) Q ?_
    case hl => rw [List.length_set, hr]
    intro ts' h' g1 g2 g3 g4 g5
    refine hQ ts' h' g1 (fun j hj hk => ?_) (by rw [g3]; rfl) (fun b hb => by rw [g4 b hb, h.get_set_ne _ b _ hb]) g5
    rw [g2 j hj hk]
    repeat rw [getL_ne _ _ (by omega)]

theorem spoil4_3 {blk g n : Nat} (hn : n ≤ maxRow) :
    ∀ (k i : Nat), i + k = n → ∀ (h : H) (ts : List AV) (x : AV), ts.length = 136 → getL ts 5 = some x → getL ts 28 = some (.int .i64 n) → getL ts 29 = some (.int .i64 i) →
      (n = 0 ∨ ((∃ cc, x = .sl ⟨blk, g, 0⟩ n cc) ∧ ∃ r : List UInt8, r.length = n ∧ h.get blk = some (.cells g 5 (bytesAV r) 0 false))) →
      ∀ (Q : Ex → St → Prop), (∀ ts' h', ts'.length = 136 → (∀ j, j < 28 → j ≠ 8 → getL ts' j = getL ts j) → h'.n = h.n → (∀ b, b ≠ blk → h'.get b = h.get b) → (n = 0 ∨ ∃ r : List UInt8, r.length = n ∧ h'.get blk = some (.cells g 5 (bytesAV r) 0 false)) → Q (.exit 0) (ts', h')) → Wp TF (.loop l4_3) (ts, h) Q := by
  have hmx : maxRow < 2 ^ 62 := by decide
  intro k
  induction k with
  | zero =>
    intro i hi h ts x t0 tx tl ti hx Q hQ
    obtain rfl : i = n := by omega
    refine Wp.loop ?_
    simp [l4_3, t0, tl, ti, getL_put, len_put]
    refine hQ _ _ (by simp [t0, len_put]) (fun j hj hk => ?_) rfl (fun _ _ => rfl) (hx.imp id (fun y => y.2))
    repeat rw [getL_ne _ _ (by omega)]
  | succ k ih =>
    intro i hi h ts x t0 tx tl ti hx Q hQ
    refine Wp.loop ?_
    obtain ⟨⟨cc, rfl⟩, r, hr, hg⟩ := hx.resolve_left (by omega)
    have hlt : i < n := by omega
    obtain ⟨c, hc⟩ : ∃ c, r[i]? = some c := ⟨r[i]'(by omega), by simp [hr, hlt]⟩
    have hld : h.ldg ⟨blk, g, i⟩ none = some (.int .u8 c.toNat) := by simp [H.ldg, H.ld, H.row, hg, get_byte, hc]
    have w1 : IntKind.i64.wrap ((i : Int) + 1) = (i : Int) + 1 := i64_fit _ (by omega)
    simp only [l4_3]
    simp [t0, tx, tl, ti, getL_put, len_put, hlt, hld, IntKind.bits, wrap_u8, AV.cells, st_byte hg (k := i) (by omega)]
    refine ih (i + 1) (by omega) _ _ _ (by simp [t0, len_put]) (by simp [tx, getL_put]) (by simp [tl, getL_put]) (by simp [t0, getL_put, len_put, w1]) (.inr ⟨⟨cc, rfl⟩, ⟨_, ?hl, h.get_set _ _⟩⟩) Q ?_
    case hl => rw [List.length_set, hr]
    intro ts' h' g1 g2 g3 g4 g5
    refine hQ ts' h' g1 (fun j hj hk => ?_) (by rw [g3]; rfl) (fun b hb => by rw [g4 b hb, h.get_set_ne _ b _ hb]) g5
    rw [g2 j hj hk]
    repeat rw [getL_ne _ _ (by omega)]

theorem spoil4_1 {blk g n : Nat} (hn : n ≤ maxRow) :
    ∀ (k i : Nat), i + k = n → ∀ (h : H) (ts : List AV) (x : AV), ts.length = 136 → getL ts 15 = some x → getL ts 115 = some (.int .i64 n) → getL ts 116 = some (.int .i64 i) →
      (n = 0 ∨ ((∃ cc, x = .sl ⟨blk, g, 0⟩ n cc) ∧ ∃ r : List UInt8, r.length = n ∧ h.get blk = some (.cells g 5 (bytesAV r) 0 false))) →
      ∀ (Q : Ex → St → Prop), (∀ ts' h', ts'.length = 136 → (∀ j, j < 115 → j ≠ 19 → getL ts' j = getL ts j) → h'.n = h.n → (∀ b, b ≠ blk → h'.get b = h.get b) → (n = 0 ∨ ∃ r : List UInt8, r.length = n ∧ h'.get blk = some (.cells g 5 (bytesAV r) 0 false)) → Q (.exit 5) (ts', h')) → Wp TF (.loop l4_1) (ts, h) Q := by
  have hmx : maxRow < 2 ^ 62 := by decide
  intro k
  induction k with
  | zero =>
    intro i hi h ts x t0 tx tl ti hx Q hQ
    obtain rfl : i = n := by omega
    refine Wp.loop ?_
    simp [l4_1, t0, tl, ti, getL_put, len_put]
    refine hQ _ _ (by simp [t0, len_put]) (fun j hj hk => ?_) rfl (fun _ _ => rfl) (hx.imp id (fun y => y.2))
    repeat rw [getL_ne _ _ (by omega)]
  | succ k ih =>
    intro i hi h ts x t0 tx tl ti hx Q hQ
    refine Wp.loop ?_
    obtain ⟨⟨cc, rfl⟩, r, hr, hg⟩ := hx.resolve_left (by omega)
    have hlt : i < n := by omega
    obtain ⟨c, hc⟩ : ∃ c, r[i]? = some c := ⟨r[i]'(by omega), by simp [hr, hlt]⟩
    have hld : h.ldg ⟨blk, g, i⟩ none = some (.int .u8 c.toNat) := by simp [H.ldg, H.ld, H.row, hg, get_byte, hc]
    have w1 : IntKind.i64.wrap ((i : Int) + 1) = (i : Int) + 1 := i64_fit _ (by omega)
    simp only [l4_1]
    simp [t0, tx, tl, ti, getL_put, len_put, hlt, hld, IntKind.bits, wrap_u8, AV.cells, st_byte hg (k := i) (by omega)]
    refine ih (i + 1) (by omega) _ _ _ (by simp [t0, len_put]) (by simp [tx, getL_put]) (by simp [tl, getL_put]) (by simp [t0, getL_put, len_put, w1]) (.inr ⟨⟨cc, rfl⟩, ⟨_, ?hl, h.get_set _ _⟩⟩) Q ?_
    case hl => rw [List.length_set, hr]
    intro ts' h' g1 g2 g3 g4 g5
    refine hQ ts' h' g1 (fun j hj hk => ?_) (by rw [g3]; rfl) (fun b hb => by rw [g4 b hb, h.get_set_ne _ b _ hb]) g5
    rw [g2 j hj hk]
    repeat rw [getL_ne _ _ (by omega)]

end Go.Det
