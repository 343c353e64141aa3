/- The deterministic machine of a program without package variables, and what a run of it says of the real program. -/
import Derived.Test.YthahfhdibhgboaaDetTake
import Derived.Test.YthahfhdibhgboaaDetFast
set_option linter.unusedVariables false
set_option linter.unusedSimpArgs false
set_option linter.unusedSectionVars false
namespace Go.Det
open Go.RowKit

/-- The machine's functions, as they are made from the program's. -/
noncomputable def tabOf (P : Program) : FTab := fun f => match P.funcs[f]? with
  | some fn => if fn.name == "runtime.NumGoroutine" then none else compFunc P fn
  | none => none

theorem tabOf_ok (P : Program) : FOk P (tabOf P) := by
  intro f fn h
  unfold tabOf at h
  split at h
  · rename_i fn' hfn
    split at h
    · simp at h
    · rename_i hn
      exact ⟨fn', hfn, by simpa using hn, .inl h⟩
  · simp at h

theorem mach_all {P : Program} {F : FTab} (hF : FOk P F) (hm : P.follows .mixedOrders = true) (w0 : World) (n : Nat) : CallOk P w0 (mach F n).call := (mach_ok hF (fun _ h => draw_ok hm h) n).1

/-- The same, but for some functions that are known to answer true. -/
noncomputable def tabWith (P : Program) (K : List FuncId) : FTab := fun f => if K.contains f then some ⟨0, [], .skip, true⟩ else tabOf P f

theorem tabWith_ok (P : Program) (K : List FuncId) (hK : ∀ f ∈ K, ∃ fn, P.funcs[f]? = some fn ∧ (fn.name == "runtime.NumGoroutine") = false ∧ fn.body.isSome = true ∧ ∀ W, Calls P f #[] W (fun e W' => e = .returned (.bool true) ∧ Below W.heap.size W W')) : FOk P (tabWith P K) := by
  intro f fn h
  unfold tabWith at h
  split at h
  · rename_i hf
    simp only [Option.some.injEq] at h
    subst h
    obtain ⟨fn', h1, h2, h3, h4⟩ := hK f (by simpa using hf)
    exact ⟨fn', h1, h2, .inr ⟨rfl, h3, h4⟩⟩
  · exact tabOf_ok P f fn h

def H0 : H := ⟨0, .leaf⟩

def isT : Option (AV × H) → Bool
  | some (.bool true, _) => true
  | _ => false

theorem WRel.empty {w0 : World} : WRel (fun _ _ => none) w0 0 H0 w0 :=
  ⟨Below.refl _ _, fun _ h => absurd h (Nat.not_lt_zero _), fun _ _ _ e => by simp at e, fun _ _ _ _ e => by simp at e, fun _ _ _ _ _ _ _ _ e => by simp at e⟩

/-- A closed law that the machine finds true is true. -/
theorem closed_true {P : Program} {F : FTab} (hF : FOk P F) (hm : P.follows .mixedOrders = true) (hg : P.globals.size = 0) {n : Nat} {f : FuncId} (h : isT ((machK F n).call f [] H0) = true) (W : World) :
    Calls P f #[] W (fun e W' => e = .returned (.bool true) ∧ Below W.heap.size W W') := by
  unfold isT at h
  split at h
  · rename_i h' he
    have := (mach_all hF hm W n f [] H0 _ h' ((machK_sim F n).1 _ _ _ _ he) (fun _ _ => none) W #[] VRels.nil (hg ▸ WRel.empty)).2
    refine this.mono ?_
    rintro e W' ⟨v', μ', rfl, rfl, hW, _⟩
    exact ⟨rfl, hW.base⟩
  · simp at h

end Go.Det
