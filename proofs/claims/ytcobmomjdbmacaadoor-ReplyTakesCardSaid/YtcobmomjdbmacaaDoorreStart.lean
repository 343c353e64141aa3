/- Reply: from what the rows say of the package's variables to what the walks ask. -/
import Derived.Test.YtcobmomjdbmacaaDoorreRan
import Derived.Stop.LaidErr
import Derived.Lib.LaidTab
set_option linter.unusedVariables false
set_option linter.unusedSimpArgs false
set_option linter.unusedSectionVars false
namespace Go.Det
open Go.RowKit Go.Proofs Go.ChangeShapes

theorem reG : Tryd.prog.globalNamed "internal/strconv.uint64pow10" = some 2 := by kernel_rfl
theorem reGT : (Tryd.prog.globals[2]?).map (·.type) = some 87 := by kernel_rfl
theorem reE : Tryd.prog.globalNamed "strconv.ErrSyntax" = some 0 := by kernel_rfl
theorem reET : (Tryd.prog.globals[0]?).map (·.type) = some 47 := by kernel_rfl
theorem reU87 : Tryd.prog.underlying 87 = some (.array 20 66) := by kernel_rfl
theorem reU66 : Tryd.prog.underlying 66 = some (.int .u64) := by kernel_rfl
theorem reU47 : ∃ ms, Tryd.prog.underlying 47 = some (.interface ms) := ⟨#[("Error", 95)], by kernel_rfl⟩

theorem start_of {a b d : String × DataW Unit} {nm : String} {y : DataW Unit} {W : World}
    (h : laidMet Tryd.prog [a, b, ("internal/strconv.uint64pow10", Lib.tabData .u64 Lib.pow10Tab), d, ("strconv.ErrSyntax", .iface nm y)] W) : Start W := by
  have h2 := h.tail.tail
  have h4 := h2.tail.tail
  refine ⟨Lib.tabIs_of_head reG reGT reU87 reU66 (by kernel_rfl) (by kernel_rfl) h2, ?_⟩
  obtain ⟨ps, ⟨g0, t0, cs0, f0, p0, q0, hg0, ht0, hv0, hd0, _, e0⟩, _, hrows⟩ := h4
  obtain rfl := Option.some.inj (reE.symm.trans hg0)
  obtain rfl := Option.some.inj (reET.symm.trans ht0)
  obtain ⟨ms, hms⟩ := reU47
  obtain ⟨l0⟩ := cs0
  obtain ⟨f1, u, v, hc, _, _⟩ := iface_of_trod hms hd0
  obtain rfl : l0 = [.iface u v] := hc
  exact ⟨_, by simpa using World.var?_cell hg0 hv0 0, .inr ⟨u, v, rfl⟩⟩
end Go.Det
