/- Reply's closed function awake, run; what the machine takes as known. -/
import Derived.Test.YtcobmomjdbmacaaDoorreNat
import Derived.WalkKit
set_option linter.unusedVariables false
set_option linter.unusedSimpArgs false
set_option linter.unusedSectionVars false
namespace Go.Det
open Go Go.RowKit Go.Proofs
theorem NatOk.ofTAt {P : Program} {w0 : World} {f : FuncId} (h : ∀ W, Below w0.heap.size w0 W → Calls P f #[] W (fun e W' => e = .returned (.bool true) ∧ Below W.heap.size W W')) : NatOk P w0 f natT := by
  refine NatOk.of_below ?_
  intro args H v H' he
  unfold natT at he
  split at he
  · simp only [Option.some.injEq, Prod.mk.injEq] at he
    obtain ⟨rfl, rfl⟩ := he
    refine ⟨rfl, ?_⟩
    intro μ w args' ha W
    obtain rfl : args' = #[] := by cases args'; simp only [VRels] at ha; simpa using ha
    refine (h w W.base).mono ?_
    rintro e w' ⟨rfl, hb⟩
    exact ⟨_, rfl, rfl, hb⟩
  · simp at he
theorem Start.mono {w0 w : World} (S : Start w0) (hb : Below w0.heap.size w0 w) : Start w := by
  refine ⟨S.tabAt hb, ?_⟩
  obtain ⟨ev, h1, h2⟩ := S.err
  exact ⟨ev, (hb.cell (Lib.lt_of_cell h1)).trans h1, h2⟩
set_option maxRecDepth 1000000 in
theorem ran11 : isT ((machK (tabNat Tryd.prog reNats) 10000).call 11 [] H0) = true := by decide +kernel
/-- What is known besides: the function awake, run apart. -/
def reAll : FuncId → Option NatF
  | 11 => some natT
  | f => reNats f
noncomputable abbrev TF : FTab := tabNat Tryd.prog reAll
/-- The table of functions is the program's. -/
theorem tab_ok {W : World} (S : Start W) : FOkAt Tryd.prog W TF := by
  refine tabNat_ok ?_
  intro f g h
  unfold reAll at h
  split at h
  · cases h
    exact ⟨⟨_, Tryd.func11, by kernel_rfl, by kernel_rfl⟩, NatOk.ofTAt fun W' hb => closed_true_of (reNats_ok (S.mono hb)) (by kernel_rfl) ran11⟩
  · unfold reNats at h
    split at h
    · cases h; exact ⟨⟨_, Tryd.func17, by kernel_rfl, by kernel_rfl⟩, nBegins_ok S⟩
    · cases h; exact ⟨⟨_, Tryd.func19, by kernel_rfl, by kernel_rfl⟩, nAtoi_ok S⟩
    · cases h; exact ⟨⟨_, Tryd.func20, by kernel_rfl, by kernel_rfl⟩, nItoa_ok S⟩
    · simp at h
end Go.Det
