-- Laid by a program of this session (pr.py: the kit's printer over stubs of its own); Lean checks it.
import Derived.Test.YtgjidpcddnapmaaRows
import Derived.Test.YtgjidpcddnapmaaStChainChecks
import Derived.Test.YtgjidpcddnapmaaPureChainChecks
import Derived.Test.YtgjidpcddnapmaaOpen
import Derived.WalkKit
import Derived.ProofKit
import Derived.OpenShut
import Derived.ShutString
import Derived.ChangeOld
import Derived.Below
import Derived.SizedLaws
namespace Go.Proofs.Ytgjidpcddnapmaa.chainChecks
open Go.ChangeShapes Go.WideShapes Go.ChangeAt Go.RowKit
open Go.ChangeMaps (open_string shut_string)
open Go.Proofs.Ytgjidpcddnapmaa.P Go.Proofs.YtgjidpcddnapmaaW.PrintWords Go.Proofs.YtgjidpcddnapmaaW.PrintLast Go.Proofs.YtgjidpcddnapmaaW.PrintMore
set_option linter.unusedVariables false
theorem own : ownKnob Try.prog.godebug = none := by kernel_rfl
theorem laidOut : laidOutB Try.prog = true := by kernel_rfl
set_option maxRecDepth 100000 in
set_option maxHeartbeats 2000000 in
theorem lifted (os : Os) (started : os.Started) (H : Type) (enc : TypeId × Value → H) :
    ReturnsInHanded {} Try.checked os 3 .any (Rows.chainChecksSpec.pre6 enc Try.prog Try.f3 Rows.chainChecksRow.domain false) (Rows.chainChecksSpec.post enc Try.prog Try.f3 false true false false) := by
  refine returnsInHanded_of_change_sized (C := Try.checked) own started (by kernel_rfl) Try.func3
    (ChangeSpec.witness6 (enc := enc) (C := Try.checked) false ⟨#[], #[.agg #[.slice none 0 0, .slice none 0 0, .int .i64 0, .int .i64 0, .int .i64 0], .slice none 0 0], []⟩ 8 (by kernel_rfl) (by kernel_rfl) (by kernel_rfl) (by kernel_rfl)) ?_
  intro W base args ds gs before hval0 hW hcnd hsz0 _
  have hsz : (DataW.weightsEach Try.prog (Try.f3.params.toList ++ Rows.chainChecksSpec.plain.varTypes Try.prog) (ds ++ gs)).all (· ≤ reachBytes) = true := hsz0
  have hval : ∀ (j : Nat) t v, Try.f3.params[j]? = some t → args[j]? = some v → Value.okWide Try.prog W .any base t v := hval0
  have hW' := hW
  obtain ⟨p, q, hA0, hV, rfl, hfz, hnd⟩ := hW
  have hA : DataW.TrodAll enc Try.prog W 0 (fun _ => true) true Try.f3.params.toList args.toList ds p := hA0
  rw [Try.params3] at hA hval hsz
  obtain ⟨v0, vs0, d0, ds0, p0, q0, hargs, rfl, rfl, h0, r0⟩ := trodAll_cons hA
  obtain ⟨v1, vs1, d1, ds1, p1, q1, rfl, rfl, rfl, h1, r1⟩ := trodAll_cons r0
  obtain ⟨rfl, rfl, rfl⟩ := trodAll_nil r1
  obtain rfl : args = #[v0, v1] := by cases args; simp_all
  obtain ⟨rfl, rfl⟩ := trodVars_none hV
  have k0 := h0
  have lt0 : ∀ x ∈ p0, x.block < W.heap.size := by obtain ⟨m, hm⟩ := k0; exact DataW.trod_lt m _ _ _ hm
  obtain ⟨cs0, rfl, _⟩ := okWide_struct Try.underlying25 (hval 0 25 v0 rfl rfl)
  obtain ⟨x0, hK0, hw0, hb0⟩ := Open.arg (Open.struct Try.underlying25 (by kernel_rfl) (Open.more (Open.slice Try.underlying22 (by kernel_rfl) (by kernel_rfl) (Open.int Try.underlying5 (by kernel_rfl))) rfl rfl (Open.more (Open.slice Try.underlying23 (by kernel_rfl) (by kernel_rfl) (Open.slice Try.underlying22 (by kernel_rfl) (by kernel_rfl) (Open.int Try.underlying5 (by kernel_rfl)))) rfl rfl (Open.more (Open.int Try.underlying3 (by kernel_rfl)) rfl rfl (Open.more (Open.int Try.underlying3 (by kernel_rfl)) rfl rfl (Open.one (Open.int Try.underlying3 (by kernel_rfl)) rfl)))))) hsz (j := 0) (t := 25) rfl rfl h0
  obtain ⟨l0_0, l0_1, a0_2, a0_3, a0_4⟩ := x0
  obtain ⟨w0_0, w0_1, w0_2, w0_3, w0_4⟩ := hw0
  obtain ⟨ce0, hce0⟩ : ∃ c : List Value, c = cs0.toList := ⟨_, rfl⟩
  have hk0 : Kd.K _ W _ cs0.toList := hK0
  rw [← hce0] at hk0
  obtain ⟨_, _, rfl, ⟨A0_0, c0_0, rfl, hc0_0, hr0_0⟩, ⟨_, _, rfl, ⟨A0_1, c0_1, rfl, hc0_1, hr0_1⟩, ⟨_, _, rfl, rfl, ⟨_, _, rfl, rfl, rfl⟩⟩⟩⟩ := hk0
  obtain rfl : cs0 = #[.slice A0_0 l0_0.length c0_0, .slice A0_1 l0_1.length c0_1, .int .i64 a0_2, .int .i64 a0_3, .int .i64 a0_4] := by apply Array.toList_inj.1; rw [← hce0]; rfl
  clear hce0 hK0
  have k1 := h1
  have lt1 : ∀ x ∈ p1, x.block < W.heap.size := by obtain ⟨m, hm⟩ := k1; exact DataW.trod_lt m _ _ _ hm
  obtain ⟨A1, len1, c1, rfl⟩ := okWide_slice Try.underlying23 (hval 1 23 v1 rfl rfl)
  obtain ⟨x1, hK1, hw1, hb1⟩ := Open.arg (Open.slice Try.underlying23 (by kernel_rfl) (by kernel_rfl) (Open.slice Try.underlying22 (by kernel_rfl) (by kernel_rfl) (Open.int Try.underlying5 (by kernel_rfl)))) hsz (j := 1) (t := 23) rfl rfl h1
  obtain ⟨A1', c1', e1, hc1, hr1⟩ := hK1
  obtain ⟨rfl, rfl, rfl⟩ : A1 = A1' ∧ len1 = x1.length ∧ c1 = c1' := by simpa [Value.cells] using e1
  have w1 := hw1
  obtain ⟨k, h⟩ := Pure.ChainChecks l0_0 l0_1 a0_2 a0_3 a0_4 x1 w0_0 w0_1 w0_2 w0_3 w0_4 w1
  refine (P.escritoirelaw22_ChainChecks.calls k _ _ l0_0 _ _ l0_1 a0_2 a0_3 a0_4 _ _ x1 true W hr0_0 hc0_0 hr0_1 hc0_1 hr1 hc1 h).mono fun e W' ⟨he, hd⟩ => ?_
  have bel : Below W.heap.size W W' := hd
  subst he
  exact ⟨_, rfl, _, _, _, [], _, [], hW', trodAll_mk1 (shut_bool Try.underlying4 _), (trodAll_cons_mk (Below.trod laidOut (by kernel_rfl) (of_decide_eq_true (by kernel_rfl)) k0 bel lt0) (trodAll_cons_mk (Below.trod laidOut (by kernel_rfl) (of_decide_eq_true (by kernel_rfl)) k1 bel lt1) trodAll_mk0)), rfl, bel.frame _, fun h => by cases h⟩
theorem over : Rows.chainChecksRow.holds Try.pinned (OpenSpec.ofChange Rows.chainChecksSpec) :=
  OpenClaim.holds_of_wide 3 Try.f3 rfl rfl rfl rfl rfl rfl rfl ⟨rfl, rfl, rfl, rfl, rfl⟩ rfl rfl rfl rfl rfl (by kernel_rfl) Try.func3 (by kernel_rfl)
    (of_decide_eq_true (by kernel_rfl)) (by unfold Func.isWrapper; first | (rw [if_pos (by decide +kernel)]; kernel_rfl) | (rw [if_neg (by decide +kernel)]; exact ⟨rfl, rfl⟩))
    (fun os started H enc _ => lifted os started H enc)
theorem proved : Rows.ChainChecksSaid := over
#print axioms proved
end Go.Proofs.Ytgjidpcddnapmaa.chainChecks
namespace Go.Proofs.Ytgjidpcddnapmaa
/-- The row, under a short name, for the claim. -/
theorem chainChecks_holds : Rows.ChainChecksSaid := chainChecks.proved
end Go.Proofs.Ytgjidpcddnapmaa
