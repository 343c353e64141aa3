/- Base's closed functions, run. -/
import Derived.Test.YtdnfbmminagflaaDoorbaIR
import Derived.WalkKit
namespace Go.Det
open Go Go.RowKit Go.Proofs
set_option maxRecDepth 1000000 in
theorem ran15 : isT ((machK (tabNat Tryd.prog baNats) 10000).call 15 [] H0) = true := by decide +kernel
set_option maxRecDepth 1000000 in
theorem ran6 : isT ((machK (tabNat Tryd.prog baNats) 10000).call 6 [] H0) = true := by decide +kernel
/-- The table of functions is the program's. -/
theorem tab_ok (W : World) : FOkAt Tryd.prog W TF := by
  refine tabNat_ok ?_
  intro f g h
  unfold baAll at h
  split at h
  · cases h
    exact ⟨⟨_, Tryd.func15, by kernel_rfl, by kernel_rfl⟩, NatOk.ofT fun W' => closed_true_of (baNats_ok W') (by kernel_rfl) ran15⟩
  · unfold baNats at h
    split at h
    · cases h; exact ⟨⟨_, Tryd.func16, by kernel_rfl, by kernel_rfl⟩, nPut_ok W⟩
    · cases h; exact ⟨⟨_, Tryd.func33, by kernel_rfl, by kernel_rfl⟩, nIndexByte_ok W⟩
    · cases h; exact ⟨⟨_, Tryd.func34, by kernel_rfl, by kernel_rfl⟩, nTrimRight_ok W⟩
    · simp at h
end Go.Det
