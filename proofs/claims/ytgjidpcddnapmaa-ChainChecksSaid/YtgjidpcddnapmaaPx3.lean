-- Laid by a program of this session (pr.py: the kit's printer over stubs of its own); Lean checks it.
import Derived.Test.YtgjidpcddnapmaaPx0
namespace Go.Proofs.Ytgjidpcddnapmaa.P
open Go.RowKit Go.Proofs.YtgjidpcddnapmaaW.PrintWords Go.Proofs.YtgjidpcddnapmaaW.PrintLast Go.Proofs.YtgjidpcddnapmaaW.PrintMore
attribute [local go_sem] Instr.field asAgg max2_int min2_int max_two min_two max_three min_three max_four min_four   -- for this text's walks alone
set_option linter.unusedVariables false
set_option linter.unusedSimpArgs false

-- NOT PRINTED: function 31 (slices_IndexFunc_byte_byte)

-- NOT PRINTED: function 28 (slices_ContainsFunc_byte_byte)

end Go.Proofs.Ytgjidpcddnapmaa.P
