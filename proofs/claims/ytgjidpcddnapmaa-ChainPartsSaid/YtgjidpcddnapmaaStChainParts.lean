-- Laid by a program of this session (pr.py: the kit's printer over stubs of its own); Lean checks it.
import Derived.Test.YtgjidpcddnapmaaPx22
import Derived.Test.YtgjidpcddnapmaaOpen
namespace Go.Proofs.Ytgjidpcddnapmaa.P
open Go.RowKit Go.Proofs.YtgjidpcddnapmaaW.PrintWords Go.Proofs.YtgjidpcddnapmaaW.PrintLast Go.Proofs.YtgjidpcddnapmaaW.PrintMore
/-- What is left of the law ChainParts: over numbers and lists alone. -/
def escritoirelaw22_ChainParts.Pure : Prop := ∀ (l0_0 : List Int) (l0_1 : List (List Int)) (a0_2 : Int) (a0_3 : Int) (a0_4 : Int) (l1 : List (List Int)) (l2 : List Int), Open.WfS 1 (fun n => (Lit.int .u8 n).wf = true) l0_0 → Open.WfS 24 (Open.WfS 1 (fun n => (Lit.int .u8 n).wf = true)) l0_1 → (Lit.int .i64 a0_2).wf = true → (Lit.int .i64 a0_3).wf = true → (Lit.int .i64 a0_4).wf = true → Open.WfS 24 (Open.WfS 1 (fun n => (Lit.int .u8 n).wf = true)) l1 → Open.WfS 1 (fun n => (Lit.int .u8 n).wf = true) l2 → ∃ k, escritoirelaw22_ChainParts.f k l0_0 l0_1 a0_2 a0_3 a0_4 l1 l2 = some true
end Go.Proofs.Ytgjidpcddnapmaa.P
