-- Laid by a program of this session (pr.py: the kit's printer over stubs of its own); Lean checks it.
import Derived.Test.YtgjidpcddnapmaaRows
import Derived.Test.YtgjidpcddnapmaaStChainCopies
import Derived.Test.YtgjidpcddnapmaaPureChainCopies
import Derived.Test.YtgjidpcddnapmaaOpen
import Derived.WalkKit
import Derived.ProofKit
import Derived.OpenShut
import Derived.ShutString
import Derived.ChangeOld
import Derived.Below
import Derived.SizedLaws
namespace Go.Proofs.Ytgjidpcddnapmaa.chainCopies
open Go.ChangeShapes Go.WideShapes Go.ChangeAt Go.RowKit
open Go.ChangeMaps (open_string shut_string)
open Go.Proofs.Ytgjidpcddnapmaa.C Go.Proofs.YtgjidpcddnapmaaW.PrintWords Go.Proofs.YtgjidpcddnapmaaW.PrintLast Go.Proofs.YtgjidpcddnapmaaW.PrintMore
set_option linter.unusedVariables false
theorem own : ownKnob Try.prog.godebug = none := by kernel_rfl
theorem laidOut : laidOutB Try.prog = true := by kernel_rfl
set_option maxRecDepth 100000 in
set_option maxHeartbeats 2000000 in
theorem lifted (os : Os) (started : os.Started) (H : Type) (enc : TypeId × Value → H) :
    ReturnsInHanded {} Try.checked os 4 .any (Rows.chainCopiesSpec.pre6 enc Try.prog Try.f4 Rows.chainCopiesRow.domain false) (Rows.chainCopiesSpec.post enc Try.prog Try.f4 false true false false) := by
  refine returnsInHanded_of_change_sized (C := Try.checked) own started (by kernel_rfl) Try.func4
    (ChangeSpec.witness6 (enc := enc) (C := Try.checked) false ⟨#[], #[.agg #[.slice none 0 0, .slice none 0 0, .int .i64 0, .int .i64 0, .int .i64 0], .agg #[.slice none 0 0, .slice none 0 0, .int .i64 0, .int .i64 0, .int .i64 0]], []⟩ 8 (by kernel_rfl) (by kernel_rfl) (by kernel_rfl) (by kernel_rfl)) ?_
  intro W base args ds gs before hval0 hW hcnd hsz0 _
  have hsz : (DataW.weightsEach Try.prog (Try.f4.params.toList ++ Rows.chainCopiesSpec.plain.varTypes Try.prog) (ds ++ gs)).all (· ≤ reachBytes) = true := hsz0
  have hval : ∀ (j : Nat) t v, Try.f4.params[j]? = some t → args[j]? = some v → Value.okWide Try.prog W .any base t v := hval0
  have hW' := hW
  obtain ⟨p, q, hA0, hV, rfl, hfz, hnd⟩ := hW
  have hA : DataW.TrodAll enc Try.prog W 0 (fun _ => true) true Try.f4.params.toList args.toList ds p := hA0
  rw [Try.params4] at hA hval hsz
  obtain ⟨v0, vs0, d0, ds0, p0, q0, hargs, rfl, rfl, h0, r0⟩ := trodAll_cons hA
  obtain ⟨v1, vs1, d1, ds1, p1, q1, rfl, rfl, rfl, h1, r1⟩ := trodAll_cons r0
  obtain ⟨rfl, rfl, rfl⟩ := trodAll_nil r1
  obtain rfl : args = #[v0, v1] := by cases args; simp_all
  obtain ⟨rfl, rfl⟩ := trodVars_none hV
  have k0 := h0
  have lt0 : ∀ x ∈ p0, x.block < W.heap.size := by obtain ⟨m, hm⟩ := k0; exact DataW.trod_lt m _ _ _ hm
  obtain ⟨cs0, rfl, _⟩ := okWide_struct Try.underlying25 (hval 0 25 v0 rfl rfl)
  obtain ⟨x0, hK0, hw0, hb0⟩ := Open.arg (Open.struct Try.underlying25 (by kernel_rfl) (Open.more (Open.slice Try.underlying22 (by kernel_rfl) (by kernel_rfl) (Open.int Try.underlying5 (by kernel_rfl))) rfl rfl (Open.more (Open.slice Try.underlying23 (by kernel_rfl) (by kernel_rfl) (Open.slice Try.underlying22 (by kernel_rfl) (by kernel_rfl) (Open.int Try.underlying5 (by kernel_rfl)))) rfl rfl (Open.more (Open.int Try.underlying3 (by kernel_rfl)) rfl rfl (Open.more (Open.int Try.underlying3 (by kernel_rfl)) rfl rfl (Open.one (Open.int Try.underlying3 (by kernel_rfl)) rfl)))))) hsz (j := 0) (t := 25) rfl rfl h0
  obtain ⟨l0_0, l0_1, a0_2, a0_3, a0_4⟩ := x0
  obtain ⟨w0_0, w0_1, w0_2, w0_3, w0_4⟩ := hw0
  obtain ⟨ce0, hce0⟩ : ∃ c : List Value, c = cs0.toList := ⟨_, rfl⟩
  have hk0 : Kd.K _ W _ cs0.toList := hK0
  rw [← hce0] at hk0
  obtain ⟨_, _, rfl, ⟨A0_0, c0_0, rfl, hc0_0, hr0_0⟩, ⟨_, _, rfl, ⟨A0_1, c0_1, rfl, hc0_1, hr0_1⟩, ⟨_, _, rfl, rfl, ⟨_, _, rfl, rfl, rfl⟩⟩⟩⟩ := hk0
  obtain rfl : cs0 = #[.slice A0_0 l0_0.length c0_0, .slice A0_1 l0_1.length c0_1, .int .i64 a0_2, .int .i64 a0_3, .int .i64 a0_4] := by apply Array.toList_inj.1; rw [← hce0]; rfl
  clear hce0 hK0
  have k1 := h1
  have lt1 : ∀ x ∈ p1, x.block < W.heap.size := by obtain ⟨m, hm⟩ := k1; exact DataW.trod_lt m _ _ _ hm
  obtain ⟨cs1, rfl, _⟩ := okWide_struct Try.underlying25 (hval 1 25 v1 rfl rfl)
  obtain ⟨x1, hK1, hw1, hb1⟩ := Open.arg (Open.struct Try.underlying25 (by kernel_rfl) (Open.more (Open.slice Try.underlying22 (by kernel_rfl) (by kernel_rfl) (Open.int Try.underlying5 (by kernel_rfl))) rfl rfl (Open.more (Open.slice Try.underlying23 (by kernel_rfl) (by kernel_rfl) (Open.slice Try.underlying22 (by kernel_rfl) (by kernel_rfl) (Open.int Try.underlying5 (by kernel_rfl)))) rfl rfl (Open.more (Open.int Try.underlying3 (by kernel_rfl)) rfl rfl (Open.more (Open.int Try.underlying3 (by kernel_rfl)) rfl rfl (Open.one (Open.int Try.underlying3 (by kernel_rfl)) rfl)))))) hsz (j := 1) (t := 25) rfl rfl h1
  obtain ⟨l1_0, l1_1, a1_2, a1_3, a1_4⟩ := x1
  obtain ⟨w1_0, w1_1, w1_2, w1_3, w1_4⟩ := hw1
  obtain ⟨ce1, hce1⟩ : ∃ c : List Value, c = cs1.toList := ⟨_, rfl⟩
  have hk1 : Kd.K _ W _ cs1.toList := hK1
  rw [← hce1] at hk1
  obtain ⟨_, _, rfl, ⟨A1_0, c1_0, rfl, hc1_0, hr1_0⟩, ⟨_, _, rfl, ⟨A1_1, c1_1, rfl, hc1_1, hr1_1⟩, ⟨_, _, rfl, rfl, ⟨_, _, rfl, rfl, rfl⟩⟩⟩⟩ := hk1
  obtain rfl : cs1 = #[.slice A1_0 l1_0.length c1_0, .slice A1_1 l1_1.length c1_1, .int .i64 a1_2, .int .i64 a1_3, .int .i64 a1_4] := by apply Array.toList_inj.1; rw [← hce1]; rfl
  clear hce1 hK1
  obtain ⟨k, h⟩ := Pure.ChainCopies l0_0 l0_1 a0_2 a0_3 a0_4 l1_0 l1_1 a1_2 a1_3 a1_4 w0_0 w0_1 w0_2 w0_3 w0_4 w1_0 w1_1 w1_2 w1_3 w1_4
  refine (C.escritoirelaw22_ChainCopies.calls k _ _ l0_0 _ _ l0_1 a0_2 a0_3 a0_4 _ _ l1_0 _ _ l1_1 a1_2 a1_3 a1_4 true W hr0_0 hc0_0 hr0_1 hc0_1 hr1_0 hc1_0 hr1_1 hc1_1 h).mono fun e W' ⟨he, hd⟩ => ?_
  have bel : Below W.heap.size W W' := hd
  subst he
  exact ⟨_, rfl, _, _, _, [], _, [], hW', trodAll_mk1 (shut_bool Try.underlying4 _), (trodAll_cons_mk (Below.trod laidOut (by kernel_rfl) (of_decide_eq_true (by kernel_rfl)) k0 bel lt0) (trodAll_cons_mk (Below.trod laidOut (by kernel_rfl) (of_decide_eq_true (by kernel_rfl)) k1 bel lt1) trodAll_mk0)), rfl, bel.frame _, fun h => by cases h⟩
theorem over : Rows.chainCopiesRow.holds Try.pinned (OpenSpec.ofChange Rows.chainCopiesSpec) :=
  OpenClaim.holds_of_wide 4 Try.f4 rfl rfl rfl rfl rfl rfl rfl ⟨rfl, rfl, rfl, rfl, rfl⟩ rfl rfl rfl rfl rfl (by kernel_rfl) Try.func4 (by kernel_rfl)
    (of_decide_eq_true (by kernel_rfl)) (by unfold Func.isWrapper; first | (rw [if_pos (by decide +kernel)]; kernel_rfl) | (rw [if_neg (by decide +kernel)]; exact ⟨rfl, rfl⟩))
    (fun os started H enc _ => lifted os started H enc)
theorem proved : Rows.ChainCopiesSaid := over
#print axioms proved
end Go.Proofs.Ytgjidpcddnapmaa.chainCopies
namespace Go.Proofs.Ytgjidpcddnapmaa
/-- The row, under a short name, for the claim. -/
theorem chainCopies_holds : Rows.ChainCopiesSaid := chainCopies.proved
end Go.Proofs.Ytgjidpcddnapmaa
