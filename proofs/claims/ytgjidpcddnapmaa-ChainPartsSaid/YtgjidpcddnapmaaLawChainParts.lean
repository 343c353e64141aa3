-- Laid by a program of this session (pr.py: the kit's printer over stubs of its own); Lean checks it.
import Derived.Test.YtgjidpcddnapmaaRows
import Derived.Test.YtgjidpcddnapmaaStChainParts
import Derived.Test.YtgjidpcddnapmaaPureChainParts
import Derived.Test.YtgjidpcddnapmaaOpen
import Derived.WalkKit
import Derived.ProofKit
import Derived.OpenShut
import Derived.ShutString
import Derived.ChangeOld
import Derived.Below
import Derived.SizedLaws
namespace Go.Proofs.Ytgjidpcddnapmaa.chainParts
open Go.ChangeShapes Go.WideShapes Go.ChangeAt Go.RowKit
open Go.ChangeMaps (open_string shut_string)
open Go.Proofs.Ytgjidpcddnapmaa.P Go.Proofs.YtgjidpcddnapmaaW.PrintWords Go.Proofs.YtgjidpcddnapmaaW.PrintLast Go.Proofs.YtgjidpcddnapmaaW.PrintMore
set_option linter.unusedVariables false
theorem own : ownKnob Try.prog.godebug = none := by kernel_rfl
theorem laidOut : laidOutB Try.prog = true := by kernel_rfl
set_option maxRecDepth 100000 in
set_option maxHeartbeats 2000000 in
theorem lifted (os : Os) (started : os.Started) (H : Type) (enc : TypeId × Value → H) :
    ReturnsInHanded {} Try.checked os 5 .any (Rows.chainPartsSpec.pre6 enc Try.prog Try.f5 Rows.chainPartsRow.domain false) (Rows.chainPartsSpec.post enc Try.prog Try.f5 false true false false) := by
  refine returnsInHanded_of_change_sized (C := Try.checked) own started (by kernel_rfl) Try.func5
    (ChangeSpec.witness6 (enc := enc) (C := Try.checked) false ⟨#[], #[.agg #[.slice none 0 0, .slice none 0 0, .int .i64 0, .int .i64 0, .int .i64 0], .slice none 0 0, .slice none 0 0], []⟩ 8 (by kernel_rfl) (by kernel_rfl) (by kernel_rfl) (by kernel_rfl)) ?_
  intro W base args ds gs before hval0 hW hcnd hsz0 _
  have hsz : (DataW.weightsEach Try.prog (Try.f5.params.toList ++ Rows.chainPartsSpec.plain.varTypes Try.prog) (ds ++ gs)).all (· ≤ reachBytes) = true := hsz0
  have hval : ∀ (j : Nat) t v, Try.f5.params[j]? = some t → args[j]? = some v → Value.okWide Try.prog W .any base t v := hval0
  have hW' := hW
  obtain ⟨p, q, hA0, hV, rfl, hfz, hnd⟩ := hW
  have hA : DataW.TrodAll enc Try.prog W 0 (fun _ => true) true Try.f5.params.toList args.toList ds p := hA0
  rw [Try.params5] at hA hval hsz
  obtain ⟨v0, vs0, d0, ds0, p0, q0, hargs, rfl, rfl, h0, r0⟩ := trodAll_cons hA
  obtain ⟨v1, vs1, d1, ds1, p1, q1, rfl, rfl, rfl, h1, r1⟩ := trodAll_cons r0
  obtain ⟨v2, vs2, d2, ds2, p2, q2, rfl, rfl, rfl, h2, r2⟩ := trodAll_cons r1
  obtain ⟨rfl, rfl, rfl⟩ := trodAll_nil r2
  obtain rfl : args = #[v0, v1, v2] := by cases args; simp_all
  obtain ⟨rfl, rfl⟩ := trodVars_none hV
  have k0 := h0
  have lt0 : ∀ x ∈ p0, x.block < W.heap.size := by obtain ⟨m, hm⟩ := k0; exact DataW.trod_lt m _ _ _ hm
  obtain ⟨cs0, rfl, _⟩ := okWide_struct Try.underlying25 (hval 0 25 v0 rfl rfl)
  obtain ⟨x0, hK0, hw0, hb0⟩ := Open.arg (Open.struct Try.underlying25 (by kernel_rfl) (Open.more (Open.slice Try.underlying22 (by kernel_rfl) (by kernel_rfl) (Open.int Try.underlying5 (by kernel_rfl))) rfl rfl (Open.more (Open.slice Try.underlying23 (by kernel_rfl) (by kernel_rfl) (Open.slice Try.underlying22 (by kernel_rfl) (by kernel_rfl) (Open.int Try.underlying5 (by kernel_rfl)))) rfl rfl (Open.more (Open.int Try.underlying3 (by kernel_rfl)) rfl rfl (Open.more (Open.int Try.underlying3 (by kernel_rfl)) rfl rfl (Open.one (Open.int Try.underlying3 (by kernel_rfl)) rfl)))))) hsz (j := 0) (t := 25) rfl rfl h0
  obtain ⟨l0_0, l0_1, a0_2, a0_3, a0_4⟩ := x0
  obtain ⟨w0_0, w0_1, w0_2, w0_3, w0_4⟩ := hw0
  obtain ⟨ce0, hce0⟩ : ∃ c : List Value, c = cs0.toList := ⟨_, rfl⟩
  have hk0 : Kd.K _ W _ cs0.toList := hK0
  rw [← hce0] at hk0
  obtain ⟨_, _, rfl, ⟨A0_0, c0_0, rfl, hc0_0, hr0_0⟩, ⟨_, _, rfl, ⟨A0_1, c0_1, rfl, hc0_1, hr0_1⟩, ⟨_, _, rfl, rfl, ⟨_, _, rfl, rfl, rfl⟩⟩⟩⟩ := hk0
  obtain rfl : cs0 = #[.slice A0_0 l0_0.length c0_0, .slice A0_1 l0_1.length c0_1, .int .i64 a0_2, .int .i64 a0_3, .int .i64 a0_4] := by apply Array.toList_inj.1; rw [← hce0]; rfl
  clear hce0 hK0
  have k1 := h1
  have lt1 : ∀ x ∈ p1, x.block < W.heap.size := by obtain ⟨m, hm⟩ := k1; exact DataW.trod_lt m _ _ _ hm
  obtain ⟨A1, len1, c1, rfl⟩ := okWide_slice Try.underlying23 (hval 1 23 v1 rfl rfl)
  obtain ⟨x1, hK1, hw1, hb1⟩ := Open.arg (Open.slice Try.underlying23 (by kernel_rfl) (by kernel_rfl) (Open.slice Try.underlying22 (by kernel_rfl) (by kernel_rfl) (Open.int Try.underlying5 (by kernel_rfl)))) hsz (j := 1) (t := 23) rfl rfl h1
  obtain ⟨A1', c1', e1, hc1, hr1⟩ := hK1
  obtain ⟨rfl, rfl, rfl⟩ : A1 = A1' ∧ len1 = x1.length ∧ c1 = c1' := by simpa [Value.cells] using e1
  have w1 := hw1
  have k2 := h2
  have lt2 : ∀ x ∈ p2, x.block < W.heap.size := by obtain ⟨m, hm⟩ := k2; exact DataW.trod_lt m _ _ _ hm
  obtain ⟨A2, len2, c2, rfl⟩ := okWide_slice Try.underlying22 (hval 2 22 v2 rfl rfl)
  obtain ⟨x2, hK2, hw2, hb2⟩ := Open.arg (Open.slice Try.underlying22 (by kernel_rfl) (by kernel_rfl) (Open.int Try.underlying5 (by kernel_rfl))) hsz (j := 2) (t := 22) rfl rfl h2
  obtain ⟨A2', c2', e2, hc2, hr2⟩ := hK2
  obtain ⟨rfl, rfl, rfl⟩ : A2 = A2' ∧ len2 = x2.length ∧ c2 = c2' := by simpa [Value.cells] using e2
  have w2 := hw2
  obtain ⟨k, h⟩ := Pure.ChainParts l0_0 l0_1 a0_2 a0_3 a0_4 x1 x2 w0_0 w0_1 w0_2 w0_3 w0_4 w1 w2
  refine (P.escritoirelaw22_ChainParts.calls k _ _ l0_0 _ _ l0_1 a0_2 a0_3 a0_4 (fun k_ => k_ < W.heap.size) _ _ x1 (fun k_ => k_ < W.heap.size) _ _ x2 true W hr0_0 hc0_0 hr0_1 hc0_1 (Kd.V_mk hc1 (Kd.C_F (Kd.heap_slice 5 (Kd.heap_int .u8)) hr1)) (Kd.V_mk hc2 (Kd.C_F (Kd.heap_int .u8) hr2)) h).mono fun e W' ⟨he, hd⟩ => ?_
  have bel : Below W.heap.size W W' := hd
  subst he
  exact ⟨_, rfl, _, _, _, [], _, [], hW', trodAll_mk1 (shut_bool Try.underlying4 _), (trodAll_cons_mk (Below.trod laidOut (by kernel_rfl) (of_decide_eq_true (by kernel_rfl)) k0 bel lt0) (trodAll_cons_mk (Below.trod laidOut (by kernel_rfl) (of_decide_eq_true (by kernel_rfl)) k1 bel lt1) (trodAll_cons_mk (Below.trod laidOut (by kernel_rfl) (of_decide_eq_true (by kernel_rfl)) k2 bel lt2) trodAll_mk0))), rfl, bel.frame _, fun h => by cases h⟩
theorem over : Rows.chainPartsRow.holds Try.pinned (OpenSpec.ofChange Rows.chainPartsSpec) :=
  OpenClaim.holds_of_wide 5 Try.f5 rfl rfl rfl rfl rfl rfl rfl ⟨rfl, rfl, rfl, rfl, rfl⟩ rfl rfl rfl rfl rfl (by kernel_rfl) Try.func5 (by kernel_rfl)
    (of_decide_eq_true (by kernel_rfl)) (by unfold Func.isWrapper; first | (rw [if_pos (by decide +kernel)]; kernel_rfl) | (rw [if_neg (by decide +kernel)]; exact ⟨rfl, rfl⟩))
    (fun os started H enc _ => lifted os started H enc)
theorem proved : Rows.ChainPartsSaid := over
#print axioms proved
end Go.Proofs.Ytgjidpcddnapmaa.chainParts
namespace Go.Proofs.Ytgjidpcddnapmaa
/-- The row, under a short name, for the claim. -/
theorem chainParts_holds : Rows.ChainPartsSaid := chainParts.proved
end Go.Proofs.Ytgjidpcddnapmaa
