/- From a run of the deterministic machine to the real program's call; arguments that are numbers. -/
import Derived.Test.YtcobmomjdbmacaaDoorDetRun
import Derived.Test.YtcobmomjdbmacaaDoorDetWp
import Derived.WideShapes
set_option linter.unusedVariables false
set_option linter.unusedSimpArgs false
set_option linter.unusedSectionVars false
namespace Go.Det
open Go.RowKit

def Mu0 : Mu := fun _ _ => none

/-- A law that the machine finds true at arguments that lie in no block. -/
theorem law_true {P : Program} {F : FTab} (hF : FOk P F) (hm : P.follows .mixedOrders = true) (hg : P.globals.size = 0) {f : FuncId} {args : List AV} {args' : Array Value} (ha : VRels Mu0 args args'.toList) {v : AV} {h' : H} (hr : Runs F f args H0 v h') (hv : v = .bool true) (W : World) :
    Calls P f args' W (fun e W' => e = .returned (.bool true) ∧ Below W.heap.size W W') := by
  subst hv
  obtain ⟨n, hr⟩ := hr
  have := (mach_all hF hm W n f args H0 _ h' hr Mu0 W args' ha WRel.empty).2
  refine this.mono ?_
  rintro e W' ⟨v', μ', rfl, rfl, hW, _⟩
  exact ⟨rfl, hW.base⟩

theorem cell_int {P : Program} {w : World} {r : Reach} {b t : Nat} {k : IntKind} {v : Value} (ht : P.underlying t = some (.int k)) (h : Cell.okWide P w r b t v) : ∃ n, v = .int k n ∧ k.has n := by
  simp only [Cell.okWide, ht] at h
  cases v <;> simp_all [Cell.ok]

/-- Cells that are bytes are a row of bytes. -/
theorem rels_bytes {μ : Mu} : ∀ (l : List Value), (∀ v ∈ l, ∃ n, v = .int .u8 n ∧ IntKind.u8.has n) → ∃ r : List UInt8, VRels μ (bytesAV r) l ∧ r.length = l.length
  | [], _ => ⟨[], rfl, rfl⟩
  | v :: l, h => by
    obtain ⟨r, h1, h2⟩ := rels_bytes (μ := μ) l (fun x hx => h x (List.mem_cons_of_mem _ hx))
    obtain ⟨n, rfl, hn⟩ := h v List.mem_cons_self
    have hn' : 0 ≤ n ∧ n ≤ 255 := by simpa [IntKind.has, IntKind.min, IntKind.max, IntKind.bits, IntKind.signed] using hn
    refine ⟨UInt8.ofNat n.toNat :: r, ⟨_, _, rfl, ?_, h1⟩, by simp [h2]⟩
    show Value.int .u8 n = .int .u8 ((UInt8.ofNat n.toNat).toNat : Int)
    congr 1
    rw [UInt8.toNat_ofNat']
    omega

end Go.Det
