/- ChainChecks: for every configuration and every chain, May and Check tell what the document's answers tell; what is handed in stays. Its part over numbers and lists. -/
import Derived.Test.YtgjidpcddnapmaaStChainChecks
import Derived.Test.YtgjidpcddnapmaaChainPlain
namespace Go.Proofs.Ytgjidpcddnapmaa.Pure
open Go.RowKit Go.Proofs.Ytgjidpcddnapmaa.P Go.Proofs.YtgjidpcddnapmaaW.PrintWords Go.Proofs.YtgjidpcddnapmaaW.PrintLast Go.Proofs.YtgjidpcddnapmaaW.PrintMore

theorem ChainChecks : escritoirelaw22_ChainChecks.Pure := by
  intro key roots b p g l hk hr hb hp hg hl
  have hrl : roots.length < 9223372036854775807 := by have := hr.1; omega
  have hll : l.length < 9223372036854775807 := by have := hl.1; omega
  refine Ev.rounds ?_
  unfold escritoirelaw22_ChainChecks.f
  refine Ev.bind (own_is [] l 0 0 0 (by simp) hl.1 (fun x hx => by have := (hl.2 x hx).1; omega)) ?_
  refine Ev.bind (own_is key roots b p g (by have := hk.1; omega) hr.1 (fun x hx => by have := (hr.2 x hx).1; omega)) ?_
  refine Ev.bind (may_loop key roots b p g hrl) (Ev.bind (ref_may key roots b p g hrl) ?_)
  refine Mine.ev_pos (by simp) ?_
  refine Ev.bind (check_is key roots b p g hrl l hll) (Ev.bind (ref_check_is key roots b p g hrl l hll) ?_)
  refine Mine.ev_pos rfl ?_
  refine Ev.bind (same_refl l hll) (Mine.ev_pos rfl ?_)
  have hs := ref_same_is key roots b p g key roots b p g hrl
  rw [sameC_refl] at hs
  refine Ev.bind hs (Mine.ev_pos rfl ?_)
  exact Ev.bind wakes_is (Ev.now _)

end Go.Proofs.Ytgjidpcddnapmaa.Pure
