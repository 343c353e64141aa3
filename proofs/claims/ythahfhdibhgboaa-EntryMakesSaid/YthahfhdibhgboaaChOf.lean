/- Chains as arguments. -/
import Derived.Test.YthahfhdibhgboaaMay
import Derived.Test.YthahfhdibhgboaaDetStart
set_option linter.unusedVariables false
set_option linter.unusedSimpArgs false
namespace Go.Det
open Go.Proofs

theorem flat_one {α β : Type} (f : α → β) : ∀ l : List α, (l.map fun p => [f p]).flatten = l.map f
  | [] => rfl
  | a :: l => by simp [flat_one f l]

theorem mem_fn {α : Type} {n : Nat} {f : Fin n → α} {p : α} (h : p ∈ List.ofFn f) : ∃ j, f j = p := by
  obtain ⟨i, hi, e⟩ := List.getElem_of_mem h
  exact ⟨⟨i, by simpa using hi⟩, by simpa using e⟩

theorem chain_of {h : H} {xs : List (List Int)} {v : AV} (hk : KSl (KSl (KInt .u8) 1) 1 h xs [v]) (hw : ∀ x ∈ xs, ∀ n ∈ x, IntKind.u8.min ≤ n ∧ n ≤ IntKind.u8.max) :
    ∃ ps : List (AV × List UInt8), Ch h v ps ∧ ps.length = xs.length ∧ ∀ p ∈ ps, ∃ x ∈ xs, p.2.length = x.length := by
  obtain ⟨v', e, hv⟩ := hk
  simp only [List.cons.injEq, and_true] at e
  subst e
  rcases hv with ⟨rfl, rfl⟩ | ⟨a, c, rfl, h1, h2, cc, h3, h4, h5⟩
  · exact ⟨[], ⟨.inl ⟨rfl, rfl⟩, fun p hp => by simp at hp, fun a m c e => by cases e⟩, rfl, fun p hp => by simp at hp⟩
  · have key : ∀ j : Fin xs.length, ∃ p : AV × List UInt8, cc[j.1]? = some [p.1] ∧ Bs h p.1 p.2 ∧ Cok p.1 ∧ ∃ x ∈ xs, p.2.length = x.length := by
      intro j
      have hj : xs[j.1]? = some xs[j.1] := List.getElem?_eq_getElem j.2
      obtain ⟨cs, hc, hl⟩ := h5 j.1 _ hj
      obtain ⟨x, b, rfl, hB, hbl, hcap⟩ := hl.bytes (hw _ (List.mem_of_getElem? hj))
      exact ⟨(x, b), hc, hB, fun a m c e => .inl (hcap a m c e), _, List.mem_of_getElem? hj, hbl⟩
    obtain ⟨f, hf⟩ := Classical.axiomOfChoice key
    have e1 : cc = (List.ofFn f).map fun p => [p.1] := by
      apply List.ext_getElem?
      intro i
      by_cases hi : i < xs.length
      · rw [(hf ⟨i, hi⟩).1]; simp [hi]
      · rw [List.getElem?_eq_none (by omega), List.getElem?_eq_none (by simp; omega)]
    refine ⟨List.ofFn f, ⟨.inr ⟨a, .ex c, by rw [List.length_ofFn], h2, ?_⟩, fun p hp => ?_, fun a m c' e => ?_⟩, List.length_ofFn, fun p hp => ?_⟩
    · rw [List.length_ofFn, ← flat_one (fun p : AV × List UInt8 => p.1), ← e1]
      rw [Nat.mul_one] at h3
      exact h3
    · obtain ⟨j, rfl⟩ := mem_fn hp
      exact ⟨(hf j).2.1, (hf j).2.2.1⟩
    · simp only [AV.sl.injEq] at e
      exact .inl ⟨c, e.2.2.symm, by omega⟩
    · obtain ⟨j, rfl⟩ := mem_fn hp
      exact (hf j).2.2.2
end Go.Det
