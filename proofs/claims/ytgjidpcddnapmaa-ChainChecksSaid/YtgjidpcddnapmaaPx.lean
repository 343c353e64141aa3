-- Laid by a program of this session (pr.py: the kit's printer over stubs of its own); Lean checks it.
import Derived.Test.YtgjidpcddnapmaaPx0
import Derived.Test.YtgjidpcddnapmaaPx1
import Derived.Test.YtgjidpcddnapmaaPx2
import Derived.Test.YtgjidpcddnapmaaPx3
import Derived.Test.YtgjidpcddnapmaaPx4
import Derived.Test.YtgjidpcddnapmaaPx5
import Derived.Test.YtgjidpcddnapmaaPx6
import Derived.Test.YtgjidpcddnapmaaPx7
import Derived.Test.YtgjidpcddnapmaaPx8
import Derived.Test.YtgjidpcddnapmaaPx9
import Derived.Test.YtgjidpcddnapmaaPx10
import Derived.Test.YtgjidpcddnapmaaPx11
import Derived.Test.YtgjidpcddnapmaaPx12
import Derived.Test.YtgjidpcddnapmaaPx13
import Derived.Test.YtgjidpcddnapmaaPx14
import Derived.Test.YtgjidpcddnapmaaPx15
import Derived.Test.YtgjidpcddnapmaaPx16
import Derived.Test.YtgjidpcddnapmaaPx17
import Derived.Test.YtgjidpcddnapmaaPx18
import Derived.Test.YtgjidpcddnapmaaPx19
import Derived.Test.YtgjidpcddnapmaaPx20
import Derived.Test.YtgjidpcddnapmaaPx21
namespace Go.Proofs.Ytgjidpcddnapmaa.P
open Go.RowKit Go.Proofs.YtgjidpcddnapmaaW.PrintWords Go.Proofs.YtgjidpcddnapmaaW.PrintLast Go.Proofs.YtgjidpcddnapmaaW.PrintMore
attribute [local go_sem] Instr.field asAgg max2_int min2_int max_two min_two max_three min_three max_four min_four   -- for this text's walks alone
set_option linter.unusedVariables false
set_option linter.unusedSimpArgs false

end Go.Proofs.Ytgjidpcddnapmaa.P
