-- Laid by a program of this session (pr.py: the kit's printer over stubs of its own); Lean checks it.
import Derived.Test.YtgjidpcddnapmaaCx16
import Derived.Test.YtgjidpcddnapmaaOpen
namespace Go.Proofs.Ytgjidpcddnapmaa.C
open Go.RowKit Go.Proofs.YtgjidpcddnapmaaW.PrintWords Go.Proofs.YtgjidpcddnapmaaW.PrintLast Go.Proofs.YtgjidpcddnapmaaW.PrintMore
/-- What is left of the law ChainCopies: over numbers and lists alone. -/
def escritoirelaw22_ChainCopies.Pure : Prop := ∀ (l0_0 : List Int) (l0_1 : List (List Int)) (a0_2 : Int) (a0_3 : Int) (a0_4 : Int) (l1_0 : List Int) (l1_1 : List (List Int)) (a1_2 : Int) (a1_3 : Int) (a1_4 : Int), Open.WfS 1 (fun n => (Lit.int .u8 n).wf = true) l0_0 → Open.WfS 24 (Open.WfS 1 (fun n => (Lit.int .u8 n).wf = true)) l0_1 → (Lit.int .i64 a0_2).wf = true → (Lit.int .i64 a0_3).wf = true → (Lit.int .i64 a0_4).wf = true → Open.WfS 1 (fun n => (Lit.int .u8 n).wf = true) l1_0 → Open.WfS 24 (Open.WfS 1 (fun n => (Lit.int .u8 n).wf = true)) l1_1 → (Lit.int .i64 a1_2).wf = true → (Lit.int .i64 a1_3).wf = true → (Lit.int .i64 a1_4).wf = true → ∃ k, escritoirelaw22_ChainCopies.f k l0_0 l0_1 a0_2 a0_3 a0_4 l1_0 l1_1 a1_2 a1_3 a1_4 = some true
end Go.Proofs.Ytgjidpcddnapmaa.C
