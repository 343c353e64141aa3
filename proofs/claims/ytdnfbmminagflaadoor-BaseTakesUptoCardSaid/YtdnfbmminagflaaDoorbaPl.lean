/- Base: the plain laws of texts. -/
import Derived.Test.YtdnfbmminagflaaDoorbaPut
set_option linter.unusedVariables false
namespace Go.Proofs.Ba

theorem b64_nil : b64 [] = [] := rfl

theorem b64_step (c l : List UInt8) (hc : c.length = 3) : b64 (c ++ l) = quad c ++ b64 l := by
  unfold b64
  have e : ((c ++ l).length + 2) / 3 = (l.length + 2) / 3 + 1 := by rw [List.length_append, hc]; omega
  rw [e, List.range_succ_eq_map, List.map_cons, List.flatten_cons, List.map_map]
  have h0 : piece (c ++ l) 0 = c := by
    unfold piece
    rw [Nat.mul_zero, List.drop_zero, ← hc, List.take_left']
    rfl
  rw [h0]
  refine congrArg (fun z => quad c ++ z) (congrArg List.flatten (List.map_congr_left ?_))
  intro k _
  show quad (piece (c ++ l) (k + 1)) = quad (piece l k)
  refine congrArg quad ?_
  unfold piece
  rw [show 3 * (k + 1) = c.length + 3 * k by omega, ← List.drop_drop, List.drop_left']
  rfl

theorem b64_last (c : List UInt8) (h0 : 0 < c.length) (h : c.length < 3) : b64 c = quad c := by
  unfold b64
  have e : (c.length + 2) / 3 = 1 := by omega
  rw [e]
  have h1 : piece c 0 = c := by unfold piece; rw [Nat.mul_zero, List.drop_zero, List.take_of_length_le (by omega)]
  simp [List.range_succ, h1]

theorem three {l : List UInt8} (h : 3 ≤ l.length) : ∃ c r, l = c ++ r ∧ c.length = 3 := ⟨l.take 3, l.drop 3, (List.take_append_drop 3 l).symm, by rw [List.length_take]; omega⟩

/-- One behind the other. -/
theorem b64_append : ∀ (n : Nat) (a b : List UInt8), a.length = 3 * n → b64 (a ++ b) = b64 a ++ b64 b
  | 0, a, b, h => by
    obtain rfl : a = [] := List.eq_nil_of_length_eq_zero (by omega)
    rfl
  | n + 1, a, b, h => by
    obtain ⟨c, r, rfl, hc⟩ := three (l := a) (by omega)
    rw [List.append_assoc, b64_step c _ hc, b64_step c _ hc, b64_append n r b (by rw [List.length_append] at h; omega), List.append_assoc]

/-- A letter of the alphabet. -/
def Alpha (c : UInt8) : Prop := (65 ≤ c.toNat ∧ c.toNat ≤ 90) ∨ (97 ≤ c.toNat ∧ c.toNat ≤ 122) ∨ (48 ≤ c.toNat ∧ c.toNat ≤ 57) ∨ c.toNat = 43 ∨ c.toNat = 47

theorem table_alpha : ∀ v < 64, Alpha (table.getD v 0) := by
  have : ((List.range 64).all fun v => let n := (table.getD v 0).toNat; (decide (65 ≤ n) && decide (n ≤ 90)) || (decide (97 ≤ n) && decide (n ≤ 122)) || (decide (48 ≤ n) && decide (n ≤ 57)) || decide (n = 43) || decide (n = 47)) = true := by decide
  intro v hv
  have h := List.all_eq_true.1 this v (List.mem_range.2 hv)
  simp only [Bool.or_eq_true, Bool.and_eq_true, decide_eq_true_eq] at h
  unfold Alpha
  omega

theorem sign_alpha {c : List UInt8} {i : Nat} (h : ¬ i > c.length) : Alpha (sign c i) := by
  unfold sign
  rw [if_neg h]
  exact table_alpha _ (Nat.mod_lt _ (by omega))
theorem sign_pad {c : List UInt8} {i : Nat} (h : i > c.length) : sign c i = 61 := by unfold sign; rw [if_pos h]

/-- Letters, and padding behind them. -/
def Shape (t : List UInt8) (m : Nat) : Prop := ∃ ls, t = ls ++ List.replicate m 61 ∧ ∀ c ∈ ls, Alpha c

theorem b64_shape : ∀ (n : Nat) (l : List UInt8), l.length ≤ n → Shape (b64 l) ((3 - l.length % 3) % 3) := by
  intro n
  induction n using Nat.strongRecOn with
  | _ n ih =>
    intro l hl
    by_cases h : 3 ≤ l.length
    · obtain ⟨c, r, rfl, hc⟩ := three h
      rw [List.length_append] at hl h
      obtain ⟨ls, e, ha⟩ := ih (n - 3) (by omega) r (by omega)
      rw [b64_step c r hc]
      have hm : (3 - (c ++ r).length % 3) % 3 = (3 - r.length % 3) % 3 := by rw [List.length_append, hc]; omega
      rw [hm, e]
      refine ⟨quad c ++ ls, by rw [List.append_assoc], ?_⟩
      intro x hx
      rcases List.mem_append.1 hx with hx | hx
      · unfold quad at hx
        simp only [List.mem_cons, List.not_mem_nil, or_false] at hx
        rcases hx with rfl | rfl | rfl | rfl
        all_goals exact sign_alpha (by omega)
      · exact ha x hx
    · match l, h with
      | [], _ => exact ⟨[], rfl, by simp⟩
      | [a], _ =>
        rw [b64_last [a] (by simp) (by simp)]
        refine ⟨[sign [a] 0, sign [a] 1], ?_, ?_⟩
        · unfold quad; rw [sign_pad (c := [a]) (i := 2) (by simp), sign_pad (c := [a]) (i := 3) (by simp)]; rfl
        · intro x hx
          simp only [List.mem_cons, List.not_mem_nil, or_false] at hx
          rcases hx with rfl | rfl
          all_goals exact sign_alpha (by simp)
      | [a, b], _ =>
        rw [b64_last [a, b] (by simp) (by simp)]
        refine ⟨[sign [a, b] 0, sign [a, b] 1, sign [a, b] 2], ?_, ?_⟩
        · unfold quad; rw [sign_pad (c := [a, b]) (i := 3) (by simp)]; rfl
        · intro x hx
          simp only [List.mem_cons, List.not_mem_nil, or_false] at hx
          rcases hx with rfl | rfl | rfl
          all_goals exact sign_alpha (by simp)
      | _ :: _ :: _ :: _, h => exact absurd (by simp) h

theorem b64_length (l : List UInt8) : (b64 l).length = (l.length + 2) / 3 * 4 := by
  have := told_length l (List.range ((l.length + 2) / 3))
  unfold told at this
  rw [List.length_range] at this
  unfold b64
  rw [this]
  omega

end Go.Proofs.Ba
