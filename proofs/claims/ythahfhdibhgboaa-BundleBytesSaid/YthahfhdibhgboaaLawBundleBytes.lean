/- The law BundleBytes answers true, whatever it is handed. -/
import Derived.Test.YthahfhdibhgboaaRows
import Derived.WalkKit
import Derived.ProofKit
import Derived.OpenShut
import Derived.ShutString
import Derived.ChangeOld
import Derived.Below
import Derived.SizedLaws
import Derived.Test.YthahfhdibhgboaaM4BundleBytes
set_option linter.unusedVariables false
set_option linter.unusedSimpArgs false
set_option linter.unusedSectionVars false
namespace Go.Proofs.Ythahfhdibhgboaa.bundleBytes
open Go.ChangeShapes Go.WideShapes Go.ChangeAt Go.RowKit
theorem own : ownKnob Try.prog.godebug = none := by kernel_rfl
theorem laidOut : laidOutB Try.prog = true := by kernel_rfl
set_option maxRecDepth 1000000 in
theorem ran24 : Det.isT ((Det.machK (Det.tabOf Try.prog) 10000).call 24 [] Det.H0) = true := by decide +kernel
set_option maxRecDepth 1000000 in
theorem ran35 : Det.isT ((Det.machK (Det.tabOf Try.prog) 10000).call 35 [] Det.H0) = true := by decide +kernel
set_option maxRecDepth 1000000 in
theorem ran62 : Det.isT ((Det.machK (Det.tabOf Try.prog) 10000).call 62 [] Det.H0) = true := by decide +kernel
theorem ok : Det.FOk Try.prog Det.TF := by
  refine Det.tabWith_ok _ _ ?_
  intro f hf
  have : f = 24 ∨ f = 35 ∨ f = 62 := by simpa using hf
  rcases this with rfl | rfl | rfl
  · exact ⟨Try.f24, Try.func24, by kernel_rfl, by kernel_rfl, fun W => Det.closed_true (Det.tabOf_ok _) (by kernel_rfl) (by kernel_rfl) ran24 W⟩
  · exact ⟨Try.f35, Try.func35, by kernel_rfl, by kernel_rfl, fun W => Det.closed_true (Det.tabOf_ok _) (by kernel_rfl) (by kernel_rfl) ran35 W⟩
  · exact ⟨Try.f62, Try.func62, by kernel_rfl, by kernel_rfl, fun W => Det.closed_true (Det.tabOf_ok _) (by kernel_rfl) (by kernel_rfl) ran62 W⟩
set_option linter.constructorNameAsVariable false
set_option maxRecDepth 100000 in
set_option maxHeartbeats 2000000 in
theorem lifted (os : Os) (started : os.Started) (H : Type) (enc : TypeId × Value → H) :
    ReturnsInHanded {} Try.checked os 15 .any (Rows.bundleBytesSpec.pre6 enc Try.prog Try.f15 Rows.bundleBytesRow.domain false) (Rows.bundleBytesSpec.post enc Try.prog Try.f15 false true false false) := by
  refine returnsInHanded_of_change_sized (C := Try.checked) own started (by kernel_rfl) Try.func15
    (ChangeSpec.witness6 (enc := enc) (C := Try.checked) false ⟨#[], #[.slice none 0 0, .slice none 0 0], []⟩ 15 (by kernel_rfl) (by kernel_rfl) (by kernel_rfl) (by kernel_rfl)) ?_
  intro W base args ds gs before hval0 hW hcnd hsz0 _
  have hval : ∀ (j : Nat) t v, Try.f15.params[j]? = some t → args[j]? = some v → Value.okWide Try.prog W .any base t v := hval0
  have hsz := hsz0
  have hW' := hW
  obtain ⟨p, q, hA0, hV, rfl, hfz, hnd⟩ := hW
  have hA : DataW.TrodAll enc Try.prog W 0 (fun _ => true) true Try.f15.params.toList args.toList ds p := hA0
  rw [Try.params15] at hA hval hsz
  obtain ⟨v0, vs0, d0, ds0, p0, q0, hargs, rfl, rfl, h0, r0⟩ := trodAll_cons hA
  obtain ⟨v1, vs1, d1, ds1, p1, q1, rfl, rfl, rfl, h1, r1⟩ := trodAll_cons r0
  obtain ⟨rfl, rfl, rfl⟩ := trodAll_nil r1
  obtain rfl : args = #[v0, v1] := by cases args; simp_all
  obtain ⟨rfl, rfl⟩ := trodVars_none hV
  have k0 := h0
  have lt0 : ∀ x ∈ p0, x.block < W.heap.size := by obtain ⟨m, hm⟩ := k0; exact DataW.trod_lt m _ _ _ hm
  have k1 := h1
  have lt1 : ∀ x ∈ p1, x.block < W.heap.size := by obtain ⟨m, hm⟩ := k1; exact DataW.trod_lt m _ _ _ hm
  obtain ⟨M0, avs0, a0, o0', rel0', kk0', wf0⟩ := Det.Opn.arg (Det.Opn.slice (B := 32) Try.underlying103 (by kernel_rfl) (by kernel_rfl) (Det.Opn.struct Try.underlying70 (by kernel_rfl) (Det.OpnF.more (Det.Opn.int Try.underlying23 (by kernel_rfl)) rfl rfl (Det.OpnF.one (Det.Opn.slice (B := 24) Try.underlying68 (by kernel_rfl) (by kernel_rfl) (Det.Opn.slice (B := 1) Try.underlying22 (by kernel_rfl) (by kernel_rfl) (Det.Opn.int Try.underlying5 (by kernel_rfl)))) rfl)))) hsz (j := 0) (t := 103) rfl rfl h0 [] (Det.Lays.ok_nil W)
  obtain ⟨L0, hL0⟩ : ∃ L : Det.Lays, L = [] ++ M0 := ⟨_, rfl⟩
  rw [← hL0] at o0' rel0' kk0'
  have o0 := o0'
  obtain ⟨M1, avs1, a1, o1', rel1', kk1', wf1⟩ := Det.Opn.arg (Det.Opn.slice (B := 1) Try.underlying22 (by kernel_rfl) (by kernel_rfl) (Det.Opn.int Try.underlying5 (by kernel_rfl))) hsz (j := 1) (t := 22) rfl rfl h1 L0 o0
  obtain ⟨L1, hL1⟩ : ∃ L : Det.Lays, L = L0 ++ M1 := ⟨_, rfl⟩
  rw [← hL1] at o1' rel1' kk1'
  have o1 := o1'
  have le0 : Det.Mu.le (Det.Lays.mu L0) (Det.Lays.mu L1) := by
    have e : L1 = L0 ++ (M1) := by simp only [hL1, List.append_assoc]
    rw [e]
    exact Det.Lays.mu_le _ _
  have ex0 : Det.Ext (Det.Lays.heap L0) (Det.Lays.heap L1) := by
    have e : L1 = L0 ++ (M1) := by simp only [hL1, List.append_assoc]
    rw [e]
    exact Det.Lays.ext _ _
  have kk0 := (Det.Opn.slice (B := 32) Try.underlying103 (by kernel_rfl) (by kernel_rfl) (Det.Opn.struct Try.underlying70 (by kernel_rfl) (Det.OpnF.more (Det.Opn.int Try.underlying23 (by kernel_rfl)) rfl rfl (Det.OpnF.one (Det.Opn.slice (B := 24) Try.underlying68 (by kernel_rfl) (by kernel_rfl) (Det.Opn.slice (B := 1) Try.underlying22 (by kernel_rfl) (by kernel_rfl) (Det.Opn.int Try.underlying5 (by kernel_rfl)))) rfl)))).ext ex0 kk0'
  have rel0 := Det.VRels.mono le0 _ _ rel0'
  have one0 := Det.one_cell Try.underlying103 (by simp) (hval 0 103 v0 rfl rfl)
  have le1 : Det.Mu.le (Det.Lays.mu L1) (Det.Lays.mu L1) := by
    exact Det.Mu.le.refl _
  have ex1 : Det.Ext (Det.Lays.heap L1) (Det.Lays.heap L1) := by
    exact Det.Ext.refl _
  have kk1 := (Det.Opn.slice (B := 1) Try.underlying22 (by kernel_rfl) (by kernel_rfl) (Det.Opn.int Try.underlying5 (by kernel_rfl))).ext ex1 kk1'
  have rel1 := Det.VRels.mono le1 _ _ rel1'
  have one1 := Det.one_cell Try.underlying22 (by simp) (hval 1 22 v1 rfl rfl)
  obtain ⟨x0, rfl, hx0⟩ := kk0
  obtain ⟨x1, l1, rfl, hB, hlen, hcap⟩ := kk1.bytes wf1.2
  have hr : reachBytes ≤ Det.maxRow := by decide
  have hr2 : reachBytes ≤ 140737488355328 := by decide
  have w0 : a0.length * 32 ≤ reachBytes := wf0.1
  have w1 : a1.length * 1 ≤ reachBytes := wf1.1
  obtain ⟨es, hc, hf⟩ := Det.ents_of (xs := a0) ⟨x0, rfl, hx0⟩ (by omega) (fun x hx => by
    obtain ⟨q1, q2, q3⟩ := wf0.2 x hx
    refine ⟨by have : 0 ≤ x.1 ∧ x.1 ≤ 18446744073709551615 := by simpa [IntKind.min, IntKind.max, IntKind.bits, IntKind.signed] using q1
               omega, by omega, fun y hy => ⟨by have := (q3 y hy).1; omega, (q3 y hy).2⟩⟩)
  obtain ⟨r, h', hrun, hv⟩ := Det.bytes15_run hc hf hB (fun a m c e => .inl (hcap a m c e)) (by omega)
  refine (Det.law_true_at ok (by kernel_rfl) (by kernel_rfl) o1 (args := [x0, x1]) ⟨_, _, rfl, Det.rel_one one0 rel0, _, _, rfl, Det.rel_one one1 rel1, rfl⟩ hrun hv).mono fun e W' ⟨he, hd⟩ => ?_
  have bel : Below W.heap.size W W' := hd
  subst he
  exact ⟨_, rfl, _, _, _, [], _, [], hW', trodAll_mk1 (shut_bool Try.underlying4 _), (trodAll_cons_mk (Below.trod laidOut (by kernel_rfl) (of_decide_eq_true (by kernel_rfl)) k0 bel lt0) (trodAll_cons_mk (Below.trod laidOut (by kernel_rfl) (of_decide_eq_true (by kernel_rfl)) k1 bel lt1) trodAll_mk0)), rfl, bel.frame _, fun h => by cases h⟩
theorem over : Rows.bundleBytesRow.holds Try.pinned (OpenSpec.ofChange Rows.bundleBytesSpec) :=
  OpenClaim.holds_of_wide 15 Try.f15 rfl rfl rfl rfl rfl rfl rfl ⟨rfl, rfl, rfl, rfl, rfl⟩ rfl rfl rfl rfl rfl (by kernel_rfl) Try.func15 (by kernel_rfl)
    (of_decide_eq_true (by kernel_rfl)) (by unfold Func.isWrapper; first | (rw [if_pos (by decide +kernel)]; kernel_rfl) | (rw [if_neg (by decide +kernel)]; exact ⟨rfl, rfl⟩))
    (fun os started H enc _ => lifted os started H enc)
theorem proved : Rows.BundleBytesSaid := over
#print axioms proved
end Go.Proofs.Ythahfhdibhgboaa.bundleBytes
namespace Go.Proofs.Ythahfhdibhgboaa
/-- The row, under a short name, for the claim. -/
theorem bundleBytes_holds : Rows.BundleBytesSaid := bundleBytes.proved
end Go.Proofs.Ythahfhdibhgboaa
