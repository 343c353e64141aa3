/- The law WireLays answers true, whatever it is handed. -/
import Derived.Test.YthahfhdibhgboaaRows
import Derived.Test.YthahfhdibhgboaaLaysR
import Derived.Test.YthahfhdibhgboaaDetStart
import Derived.WalkKit
import Derived.ProofKit
import Derived.OpenShut
import Derived.ShutString
import Derived.ChangeOld
import Derived.Below
import Derived.SizedLaws
set_option linter.unusedVariables false
set_option linter.unusedSimpArgs false
set_option linter.unusedSectionVars false
namespace Go.Proofs.Ythahfhdibhgboaa.wireLays
open Go.ChangeShapes Go.WideShapes Go.ChangeAt Go.RowKit
theorem own : ownKnob Try.prog.godebug = none := by kernel_rfl
theorem laidOut : laidOutB Try.prog = true := by kernel_rfl
set_option maxRecDepth 1000000 in
theorem ran24 : Det.isT ((Det.machK (Det.tabOf Try.prog) 10000).call 24 [] Det.H0) = true := by decide +kernel
set_option maxRecDepth 1000000 in
theorem ran35 : Det.isT ((Det.machK (Det.tabOf Try.prog) 10000).call 35 [] Det.H0) = true := by decide +kernel
set_option maxRecDepth 1000000 in
theorem ran62 : Det.isT ((Det.machK (Det.tabOf Try.prog) 10000).call 62 [] Det.H0) = true := by decide +kernel
theorem ok : Det.FOk Try.prog Det.TF := by
  refine Det.tabWith_ok _ _ ?_
  intro f hf
  have : f = 24 ∨ f = 35 ∨ f = 62 := by simpa using hf
  rcases this with rfl | rfl | rfl
  · exact ⟨Try.f24, Try.func24, by kernel_rfl, by kernel_rfl, fun W => Det.closed_true (Det.tabOf_ok _) (by kernel_rfl) (by kernel_rfl) ran24 W⟩
  · exact ⟨Try.f35, Try.func35, by kernel_rfl, by kernel_rfl, fun W => Det.closed_true (Det.tabOf_ok _) (by kernel_rfl) (by kernel_rfl) ran35 W⟩
  · exact ⟨Try.f62, Try.func62, by kernel_rfl, by kernel_rfl, fun W => Det.closed_true (Det.tabOf_ok _) (by kernel_rfl) (by kernel_rfl) ran62 W⟩
set_option linter.constructorNameAsVariable false
set_option maxRecDepth 100000 in
set_option maxHeartbeats 2000000 in
theorem lifted (os : Os) (started : os.Started) (H : Type) (enc : TypeId × Value → H) :
    ReturnsInHanded {} Try.checked os 3 .any (Rows.wireLaysSpec.pre6 enc Try.prog Try.f3 Rows.wireLaysRow.domain false) (Rows.wireLaysSpec.post enc Try.prog Try.f3 false true false false) := by
  refine returnsInHanded_of_change_sized (C := Try.checked) own started (by kernel_rfl) Try.func3
    (ChangeSpec.witness6 (enc := enc) (C := Try.checked) false ⟨#[], #[.agg #[.slice none 0 0, .slice none 0 0, .int .u64 0, .int .i64 0]], []⟩ 3 (by kernel_rfl) (by kernel_rfl) (by kernel_rfl) (by kernel_rfl)) ?_
  intro W base args ds gs before hval0 hW hcnd hsz0 _
  have hval : ∀ (j : Nat) t v, Try.f3.params[j]? = some t → args[j]? = some v → Value.okWide Try.prog W .any base t v := hval0
  have hsz := hsz0
  have hW' := hW
  obtain ⟨p, q, hA0, hV, rfl, hfz, hnd⟩ := hW
  have hA : DataW.TrodAll enc Try.prog W 0 (fun _ => true) true Try.f3.params.toList args.toList ds p := hA0
  rw [Try.params3] at hA hval hsz
  obtain ⟨v0, vs0, d0, ds0, p0, q0, hargs, rfl, rfl, h0, r0⟩ := trodAll_cons hA
  obtain ⟨rfl, rfl, rfl⟩ := trodAll_nil r0
  obtain rfl : args = #[v0] := by cases args; simp_all
  obtain ⟨rfl, rfl⟩ := trodVars_none hV
  have k0 := h0
  have lt0 : ∀ x ∈ p0, x.block < W.heap.size := by obtain ⟨m, hm⟩ := k0; exact DataW.trod_lt m _ _ _ hm
  obtain ⟨cs0, rfl⟩ := Det.agg_cell Try.underlying25 (hval 0 25 v0 rfl rfl)
  obtain ⟨M0, avs0, a0, o0', rel0', kk0', wf0⟩ := Det.Opn.arg (Det.Opn.struct Try.underlying25 (by kernel_rfl) (Det.OpnF.more (Det.Opn.slice (B := 1) Try.underlying22 (by kernel_rfl) (by kernel_rfl) (Det.Opn.int Try.underlying5 (by kernel_rfl))) rfl rfl (Det.OpnF.more (Det.Opn.slice (B := 1) Try.underlying22 (by kernel_rfl) (by kernel_rfl) (Det.Opn.int Try.underlying5 (by kernel_rfl))) rfl rfl (Det.OpnF.more (Det.Opn.int Try.underlying23 (by kernel_rfl)) rfl rfl (Det.OpnF.one (Det.Opn.int Try.underlying3 (by kernel_rfl)) rfl))))) hsz (j := 0) (t := 25) rfl rfl h0 (fun e => Det.fine_struct Try.underlying25 (hval 0 25 _ rfl rfl)) [] (Det.Lays.ok_nil W)
  obtain ⟨L0, hL0⟩ : ∃ L : Det.Lays, L = [] ++ M0 := ⟨_, rfl⟩
  rw [← hL0] at o0' rel0' kk0'
  have o0 := o0'
  have le0 : Det.Mu.le (Det.Lays.mu L0) (Det.Lays.mu L0) := by
    exact Det.Mu.le.refl _
  have ex0 : Det.Ext (Det.Lays.heap L0) (Det.Lays.heap L0) := by
    exact Det.Ext.refl _
  have kk0 := (Det.Opn.struct Try.underlying25 (by kernel_rfl) (Det.OpnF.more (Det.Opn.slice (B := 1) Try.underlying22 (by kernel_rfl) (by kernel_rfl) (Det.Opn.int Try.underlying5 (by kernel_rfl))) rfl rfl (Det.OpnF.more (Det.Opn.slice (B := 1) Try.underlying22 (by kernel_rfl) (by kernel_rfl) (Det.Opn.int Try.underlying5 (by kernel_rfl))) rfl rfl (Det.OpnF.more (Det.Opn.int Try.underlying23 (by kernel_rfl)) rfl rfl (Det.OpnF.one (Det.Opn.int Try.underlying3 (by kernel_rfl)) rfl))))).ext ex0 kk0'
  have rel0 := Det.VRels.mono le0 _ _ rel0'
  obtain ⟨l0, l1, n0, s0⟩ := a0
  obtain ⟨y0, y1, rfl, K0, y2, y3, rfl, K1, y4, y5, rfl, K2, K3⟩ := kk0
  obtain ⟨wf0_0, wf0_1, wf0_2, wf0_3⟩ := wf0
  obtain ⟨x0, b0, rfl, hB0, hlen0, hcap0⟩ := K0.bytes wf0_0.2
  obtain ⟨x1, b1, rfl, hB1, hlen1, hcap1⟩ := K1.bytes wf0_1.2
  obtain rfl : y4 = [.int .u64 n0] := K2
  obtain rfl : y5 = [.int .i64 s0] := K3
  have hlen0 : b0.length = l0.length := hlen0
  have hlen1 : b1.length = l1.length := hlen1
  have hr : reachBytes + 16777300 ≤ Det.maxRow := by decide
  have h1 : l0.length * 1 ≤ reachBytes := wf0_0.1
  have h2 : l1.length * 1 ≤ reachBytes := wf0_1.1
  have hn : 0 ≤ n0 ∧ n0 ≤ 18446744073709551615 := by simpa [IntKind.min, IntKind.max, IntKind.bits, IntKind.signed] using wf0_2
  obtain ⟨n, rfl⟩ : ∃ n : Nat, n0 = n := ⟨n0.toNat, by omega⟩
  obtain ⟨r, h', hrun, hv⟩ := Det.lays_run hB0 hB1 (by omega) (by omega) (n := n) (by omega) s0
  refine (Det.law_true_at ok (by kernel_rfl) (by kernel_rfl) o0 (args := [.agg [x0, x1, .int .u64 n, .int .i64 s0]]) ⟨_, _, rfl, Det.rel_agg rel0, rfl⟩ hrun hv).mono fun e W' ⟨he, hd⟩ => ?_
  have bel : Below W.heap.size W W' := hd
  subst he
  exact ⟨_, rfl, _, _, _, [], _, [], hW', trodAll_mk1 (shut_bool Try.underlying4 _), (trodAll_cons_mk (Below.trod laidOut (by kernel_rfl) (of_decide_eq_true (by kernel_rfl)) k0 bel lt0) trodAll_mk0), rfl, bel.frame _, fun h => by cases h⟩
theorem over : Rows.wireLaysRow.holds Try.pinned (OpenSpec.ofChange Rows.wireLaysSpec) :=
  OpenClaim.holds_of_wide 3 Try.f3 rfl rfl rfl rfl rfl rfl rfl ⟨rfl, rfl, rfl, rfl, rfl⟩ rfl rfl rfl rfl rfl (by kernel_rfl) Try.func3 (by kernel_rfl)
    (of_decide_eq_true (by kernel_rfl)) (by unfold Func.isWrapper; first | (rw [if_pos (by decide +kernel)]; kernel_rfl) | (rw [if_neg (by decide +kernel)]; exact ⟨rfl, rfl⟩))
    (fun os started H enc _ => lifted os started H enc)
theorem proved : Rows.WireLaysSaid := over
#print axioms proved
end Go.Proofs.Ythahfhdibhgboaa.wireLays
namespace Go.Proofs.Ythahfhdibhgboaa
/-- The row, under a short name, for the claim. -/
theorem wireLays_holds : Rows.WireLaysSaid := wireLays.proved
end Go.Proofs.Ythahfhdibhgboaa
