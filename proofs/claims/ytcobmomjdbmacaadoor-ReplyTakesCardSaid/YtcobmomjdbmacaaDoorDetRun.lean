/- The deterministic machine of a program without package variables, and what a run of it says of the real program. -/
import Derived.Test.YtcobmomjdbmacaaDoorDetTake
import Derived.Test.YtcobmomjdbmacaaDoorDetFast
set_option linter.unusedVariables false
set_option linter.unusedSimpArgs false
set_option linter.unusedSectionVars false
namespace Go.Det
open Go.RowKit

/-- The machine's functions, as they are made from the program's. -/
noncomputable def tabOf (P : Program) : FTab := fun f => match P.funcs[f]? with
  | some fn => if fn.name == "runtime.NumGoroutine" then none else compFunc P fn
  | none => none

theorem tabOf_ok (P : Program) : FOk P (tabOf P) := by
  intro w0 f fn h
  unfold tabOf at h
  split at h
  · rename_i fn' hfn
    split at h
    · simp at h
    · rename_i hn
      exact ⟨fn', hfn, by simpa using hn, .inl h⟩
  · simp at h

theorem mach_at {P : Program} {F : FTab} {w0 : World} (hF : FOkAt P w0 F) (hm : P.follows .mixedOrders = true) (n : Nat) : CallOk P w0 (mach F n).call := (mach_ok hF (fun _ h => draw_ok hm h) n).1

theorem mach_all {P : Program} {F : FTab} (hF : FOk P F) (hm : P.follows .mixedOrders = true) (w0 : World) (n : Nat) : CallOk P w0 (mach F n).call := mach_at (hF w0) hm n

/-- The same, but for some functions that are known to answer true. -/
noncomputable def tabWith (P : Program) (K : List FuncId) : FTab := fun f => if K.contains f then some { ntmps := 0, results := [], body := .skip, known := true } else tabOf P f

theorem tabWith_ok (P : Program) (K : List FuncId) (hK : ∀ f ∈ K, ∃ fn, P.funcs[f]? = some fn ∧ (fn.name == "runtime.NumGoroutine") = false ∧ fn.body.isSome = true ∧ ∀ W, Calls P f #[] W (fun e W' => e = .returned (.bool true) ∧ Below W.heap.size W W')) : FOk P (tabWith P K) := by
  intro w0 f fn h
  unfold tabWith at h
  split at h
  · rename_i hf
    simp only [Option.some.injEq] at h
    subst h
    obtain ⟨fn', h1, h2, h3, h4⟩ := hK f (by simpa using hf)
    exact ⟨fn', h1, h2, .inr ⟨rfl, h3, h4⟩⟩
  · exact tabOf_ok P w0 f fn h

/-- The same, but for some functions of which a contract is known. -/
noncomputable def tabNat (P : Program) (K : FuncId → Option NatF) : FTab := fun f => match K f with
  | some g => some { ntmps := 0, results := [], body := .skip, known := true, nat := some g }
  | none => tabOf P f

/-- A closed function that is known to answer true. -/
def natT : NatF := fun args h => match args with
  | [] => some (.bool true, h)
  | _ => none

theorem tabNat_ok {P : Program} {K : FuncId → Option NatF} {w0 : World} (hK : ∀ f g, K f = some g → (∃ fn, P.funcs[f]? = some fn ∧ (fn.name == "runtime.NumGoroutine") = false ∧ fn.body.isSome = true) ∧ NatOk P w0 f g) : FOkAt P w0 (tabNat P K) := by
  intro f fn h
  unfold tabNat at h
  split at h
  · rename_i g hg
    simp only [Option.some.injEq] at h
    subst h
    obtain ⟨⟨fn', h1, h2, h3⟩, h4⟩ := hK f g hg
    exact ⟨fn', h1, h2, .inr ⟨rfl, h3, h4⟩⟩
  · exact tabOf_ok P w0 f fn h

/-- A function that leaves what was there. -/
theorem NatOk.of_below {P : Program} {w0 : World} {f : FuncId} {g : NatF} (hg : ∀ args h v h', g args h = some (v, h') → h' = h ∧ ∀ (μ : Mu) (w : World) (args' : Array Value), VRels μ args args'.toList → WRel μ w0 0 h w →
    Calls P f args' w fun e w' => ∃ v', e = .returned v' ∧ VRel μ v v' ∧ Below w.heap.size w w') : NatOk P w0 f g := by
  intro args h v h' he μ w args' ha W
  obtain ⟨rfl, hc⟩ := hg args h v h' he
  refine (hc μ w args' ha W).mono ?_
  rintro e w' ⟨v', rfl, hv, hb⟩
  exact ⟨v', μ, rfl, hv, (W.below hb).1, (W.below hb).2⟩

theorem NatOk.ofT {P : Program} {w0 : World} {f : FuncId} (h : ∀ W, Calls P f #[] W (fun e W' => e = .returned (.bool true) ∧ Below W.heap.size W W')) : NatOk P w0 f natT := by
  refine NatOk.of_below ?_
  intro args H v H' he
  unfold natT at he
  split at he
  · simp only [Option.some.injEq, Prod.mk.injEq] at he
    obtain ⟨rfl, rfl⟩ := he
    refine ⟨rfl, ?_⟩
    intro μ w args' ha W
    obtain rfl : args' = #[] := by cases args'; simp only [VRels] at ha; simpa using ha
    refine (h w).mono ?_
    rintro e w' ⟨rfl, hb⟩
    exact ⟨_, rfl, rfl, hb⟩
  · simp at he

def H0 : H := ⟨0, .leaf⟩

def isT : Option (AV × H) → Bool
  | some (.bool true, _) => true
  | _ => false

theorem WRel.empty {w0 : World} : WRel (fun _ _ => none) w0 0 H0 w0 :=
  ⟨Below.refl _ _, fun _ h => absurd h (Nat.not_lt_zero _), fun _ _ _ e => by simp at e, fun _ _ _ _ e => by simp at e, fun _ _ _ _ _ _ _ _ e => by simp at e⟩

/-- A closed law that the machine finds true is true. -/
theorem closed_true {P : Program} {F : FTab} (hF : FOk P F) (hm : P.follows .mixedOrders = true) (hg : P.globals.size = 0) {n : Nat} {f : FuncId} (h : isT ((machK F n).call f [] H0) = true) (W : World) :
    Calls P f #[] W (fun e W' => e = .returned (.bool true) ∧ Below W.heap.size W W') := by
  unfold isT at h
  split at h
  · rename_i h' he
    have := (mach_all hF hm W n f [] H0 _ h' ((machK_sim F n).1 _ _ _ _ he) (fun _ _ => none) W #[] VRels.nil WRel.empty).2
    refine this.mono ?_
    rintro e W' ⟨v', μ', rfl, rfl, hW, _⟩
    exact ⟨rfl, hW.base⟩
  · simp at h

/-- The same, where some functions' contracts are known at this start alone. -/
theorem closed_true_as {P : Program} {F : FTab} {W : World} (hF : FOkAt P W F) (hm : P.follows .mixedOrders = true) {f : FuncId} {h' : H} {n : Nat} (h : (mach F n).call f [] H0 = some (.bool true, h')) :
    Calls P f #[] W (fun e W' => e = .returned (.bool true) ∧ Below W.heap.size W W') := by
  have := (mach_at hF hm n f [] H0 _ h' h (fun _ _ => none) W #[] VRels.nil WRel.empty).2
  refine this.mono ?_
  rintro e W' ⟨v', μ', rfl, rfl, hW, _⟩
  exact ⟨rfl, hW.base⟩

/-- The same by the fast machine. -/
theorem closed_true_of {P : Program} {F : FTab} {W : World} (hF : FOkAt P W F) (hm : P.follows .mixedOrders = true) {f : FuncId} {n : Nat} (h : isT ((machK F n).call f [] H0) = true) :
    Calls P f #[] W (fun e W' => e = .returned (.bool true) ∧ Below W.heap.size W W') := by
  unfold isT at h
  split at h
  · rename_i h' he
    exact closed_true_as hF hm ((machK_sim F n).1 _ _ _ _ he)
  · simp at h

end Go.Det
