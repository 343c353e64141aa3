/- Plain lemmas of this session's own: loops that go up to a number, wrap-round, strings of bytes. -/
import Derived.Test.YtgjidpcddnapmaaWMore
namespace Go.Proofs.Ytgjidpcddnapmaa.Mine
open Go.RowKit Go.Proofs.YtgjidpcddnapmaaW.PrintWords Go.Proofs.YtgjidpcddnapmaaW.PrintLast Go.Proofs.YtgjidpcddnapmaaW.PrintMore
set_option linter.unusedVariables false

/-- A loop whose counter goes from 0 to n: from its end back to its begin. -/
theorem down {ρ : Type} (l : Nat → Nat → Option ρ) (r : Nat → ρ) (n : Nat) (hend : Ev (fun k => l k n) (r n)) (hgo : ∀ i, i < n → Ev (fun k => l k (i + 1)) (r (i + 1)) → Ev (fun k => l k i) (r i)) : Ev (fun k => l k 0) (r 0) := by
  have key : ∀ d, d ≤ n → Ev (fun k => l k (n - d)) (r (n - d)) := by
    intro d
    induction d with
    | zero => intro _; simpa using hend
    | succ d ih =>
      intro h
      have h1 := ih (by omega)
      have h2 := hgo (n - (d + 1)) (by omega)
      rw [show n - (d + 1) + 1 = n - d by omega] at h2
      exact h2 h1
  have := key n (Nat.le_refl _)
  simpa using this
theorem wrap_nat {n : Nat} (h : n < 9223372036854775808) : wrap64 (n : Int) = n := by unfold wrap64; omega
theorem wrap_succ {n : Nat} (h : n < 9223372036854775807) : wrap64 ((n : Int) + 1) = ((n + 1 : Nat) : Int) := by unfold wrap64; omega
theorem wrap_pred {n : Nat} (h0 : 0 < n) (h : n < 9223372036854775807) : wrap64 ((n : Int) - 1) = ((n - 1 : Nat) : Int) := by unfold wrap64; omega
theorem wrap_in {n : Int} (h0 : -9223372036854775808 ≤ n) (h : n < 9223372036854775808) : wrap64 n = n := by unfold wrap64; omega
/-- An early answer, or the loop's end. -/
theorem ev_now {α : Type} {g : Nat → Option α} {r : α} (h : ∀ k, g (k + 1) = some r) : Ev g r := Ev.step (f := fun _ => some r) h (Ev.now r)
theorem ev_some {α : Type} {g : Nat → Option α} {r : α} (h : ∀ k, g k = some r) : Ev g r := ⟨0, fun k _ => h k⟩
/-- A call, then what follows. -/
theorem ev_bind {α β : Type} {g : Nat → Option α} {f : Nat → α → Option β} {a : α} {r : β} (h : Ev g a) (k : Ev (fun n => f n a) r) : Ev (fun n => (g n).bind (f n)) r := Ev.bind h k
theorem ev_ite {α : Type} {c : Prop} [Decidable c] {f g : Nat → Option α} {r : α} (h1 : c → Ev f r) (h2 : ¬ c → Ev g r) : Ev (fun n => if c then f n else g n) r := by
  by_cases h : c
  · simp only [if_pos h]; exact h1 h
  · simp only [if_neg h]; exact h2 h
theorem ev_pos {α : Type} {c : Prop} [Decidable c] {f g : Nat → Option α} {r : α} (h : c) (h1 : Ev f r) : Ev (fun n => if c then f n else g n) r := by simp only [if_pos h]; exact h1
theorem ev_neg {α : Type} {c : Prop} [Decidable c] {f g : Nat → Option α} {r : α} (h : ¬ c) (h1 : Ev g r) : Ev (fun n => if c then f n else g n) r := by simp only [if_neg h]; exact h1
theorem take_succ_getD {α : Type} (l : List α) (d : α) (i : Nat) (hi : i < l.length) : l.take (i + 1) = l.take i ++ [l.getD i d] := by
  rw [List.take_succ_eq_append_getElem hi, List.getD_eq_getElem?_getD, List.getElem?_eq_getElem hi]; rfl
end Go.Proofs.Ytgjidpcddnapmaa.Mine
