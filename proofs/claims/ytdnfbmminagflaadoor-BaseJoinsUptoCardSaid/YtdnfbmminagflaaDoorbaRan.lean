/- Base's closed functions, run. -/
import Derived.Test.YtdnfbmminagflaaDoorbaNat
namespace Go.Det
open Go.Proofs
set_option maxRecDepth 1000000 in
theorem ran15 : isT ((machK (tabNat Tryd.prog baNats) 10000).call 15 [] H0) = true := by decide +kernel
set_option maxRecDepth 1000000 in
theorem ran6 : isT ((machK (tabNat Tryd.prog baNats) 10000).call 6 [] H0) = true := by decide +kernel
end Go.Det
