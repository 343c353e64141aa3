/- The law BundleBack answers true, whatever it is handed. -/
import Derived.Test.YthahfhdibhgboaaRows
import Derived.WalkKit
import Derived.ProofKit
import Derived.OpenShut
import Derived.ShutString
import Derived.ChangeOld
import Derived.Below
import Derived.SizedLaws
import Derived.Test.YthahfhdibhgboaaM3BundleBack
set_option linter.unusedVariables false
set_option linter.unusedSimpArgs false
set_option linter.unusedSectionVars false
namespace Go.Proofs.Ythahfhdibhgboaa.bundleBack
open Go.ChangeShapes Go.WideShapes Go.ChangeAt Go.RowKit
theorem own : ownKnob Try.prog.godebug = none := by kernel_rfl
theorem laidOut : laidOutB Try.prog = true := by kernel_rfl
set_option maxRecDepth 1000000 in
theorem ran24 : Det.isT ((Det.machK (Det.tabOf Try.prog) 10000).call 24 [] Det.H0) = true := by decide +kernel
set_option maxRecDepth 1000000 in
theorem ran35 : Det.isT ((Det.machK (Det.tabOf Try.prog) 10000).call 35 [] Det.H0) = true := by decide +kernel
set_option maxRecDepth 1000000 in
theorem ran62 : Det.isT ((Det.machK (Det.tabOf Try.prog) 10000).call 62 [] Det.H0) = true := by decide +kernel
theorem ok : Det.FOk Try.prog Det.TF := by
  refine Det.tabWith_ok _ _ ?_
  intro f hf
  have : f = 24 ∨ f = 35 ∨ f = 62 := by simpa using hf
  rcases this with rfl | rfl | rfl
  · exact ⟨Try.f24, Try.func24, by kernel_rfl, by kernel_rfl, fun W => Det.closed_true (Det.tabOf_ok _) (by kernel_rfl) (by kernel_rfl) ran24 W⟩
  · exact ⟨Try.f35, Try.func35, by kernel_rfl, by kernel_rfl, fun W => Det.closed_true (Det.tabOf_ok _) (by kernel_rfl) (by kernel_rfl) ran35 W⟩
  · exact ⟨Try.f62, Try.func62, by kernel_rfl, by kernel_rfl, fun W => Det.closed_true (Det.tabOf_ok _) (by kernel_rfl) (by kernel_rfl) ran62 W⟩
set_option linter.constructorNameAsVariable false
set_option maxRecDepth 100000 in
set_option maxHeartbeats 2000000 in
theorem lifted (os : Os) (started : os.Started) (H : Type) (enc : TypeId × Value → H) :
    ReturnsInHanded {} Try.checked os 16 .any (Rows.bundleBackSpec.pre6 enc Try.prog Try.f16 Rows.bundleBackRow.domain false) (Rows.bundleBackSpec.post enc Try.prog Try.f16 false true false false) := by
  refine returnsInHanded_of_change_sized (C := Try.checked) own started (by kernel_rfl) Try.func16
    (ChangeSpec.witness6 (enc := enc) (C := Try.checked) false ⟨#[], #[.slice none 0 0, .slice none 0 0, .int .u64 0, .int .i64 0, .string ⟨#[]⟩], []⟩ 16 (by kernel_rfl) (by kernel_rfl) (by kernel_rfl) (by kernel_rfl)) ?_
  intro W base args ds gs before hval0 hW hcnd hsz0 _
  have hval : ∀ (j : Nat) t v, Try.f16.params[j]? = some t → args[j]? = some v → Value.okWide Try.prog W .any base t v := hval0
  have hsz := hsz0
  have hW' := hW
  obtain ⟨p, q, hA0, hV, rfl, hfz, hnd⟩ := hW
  have hA : DataW.TrodAll enc Try.prog W 0 (fun _ => true) true Try.f16.params.toList args.toList ds p := hA0
  rw [Try.params16] at hA hval hsz
  obtain ⟨v0, vs0, d0, ds0, p0, q0, hargs, rfl, rfl, h0, r0⟩ := trodAll_cons hA
  obtain ⟨v1, vs1, d1, ds1, p1, q1, rfl, rfl, rfl, h1, r1⟩ := trodAll_cons r0
  obtain ⟨v2, vs2, d2, ds2, p2, q2, rfl, rfl, rfl, h2, r2⟩ := trodAll_cons r1
  obtain ⟨v3, vs3, d3, ds3, p3, q3, rfl, rfl, rfl, h3, r3⟩ := trodAll_cons r2
  obtain ⟨v4, vs4, d4, ds4, p4, q4, rfl, rfl, rfl, h4, r4⟩ := trodAll_cons r3
  obtain ⟨rfl, rfl, rfl⟩ := trodAll_nil r4
  obtain rfl : args = #[v0, v1, v2, v3, v4] := by cases args; simp_all
  obtain ⟨rfl, rfl⟩ := trodVars_none hV
  have k0 := h0
  have lt0 : ∀ x ∈ p0, x.block < W.heap.size := by obtain ⟨m, hm⟩ := k0; exact DataW.trod_lt m _ _ _ hm
  have k1 := h1
  have lt1 : ∀ x ∈ p1, x.block < W.heap.size := by obtain ⟨m, hm⟩ := k1; exact DataW.trod_lt m _ _ _ hm
  have k2 := h2
  have lt2 : ∀ x ∈ p2, x.block < W.heap.size := by obtain ⟨m, hm⟩ := k2; exact DataW.trod_lt m _ _ _ hm
  have k3 := h3
  have lt3 : ∀ x ∈ p3, x.block < W.heap.size := by obtain ⟨m, hm⟩ := k3; exact DataW.trod_lt m _ _ _ hm
  have k4 := h4
  have lt4 : ∀ x ∈ p4, x.block < W.heap.size := by obtain ⟨m, hm⟩ := k4; exact DataW.trod_lt m _ _ _ hm
  obtain ⟨M0, avs0, a0, o0', rel0', kk0', wf0⟩ := Det.Opn.arg (Det.Opn.slice (B := 32) Try.underlying103 (by kernel_rfl) (by kernel_rfl) (Det.Opn.struct Try.underlying70 (by kernel_rfl) (Det.OpnF.more (Det.Opn.int Try.underlying23 (by kernel_rfl)) rfl rfl (Det.OpnF.one (Det.Opn.slice (B := 24) Try.underlying68 (by kernel_rfl) (by kernel_rfl) (Det.Opn.slice (B := 1) Try.underlying22 (by kernel_rfl) (by kernel_rfl) (Det.Opn.int Try.underlying5 (by kernel_rfl)))) rfl)))) hsz (j := 0) (t := 103) rfl rfl h0 [] (Det.Lays.ok_nil W)
  obtain ⟨L0, hL0⟩ : ∃ L : Det.Lays, L = [] ++ M0 := ⟨_, rfl⟩
  rw [← hL0] at o0' rel0' kk0'
  have o0 := o0'
  obtain ⟨M1, avs1, a1, o1', rel1', kk1', wf1⟩ := Det.Opn.arg (Det.Opn.slice (B := 1) Try.underlying22 (by kernel_rfl) (by kernel_rfl) (Det.Opn.int Try.underlying5 (by kernel_rfl))) hsz (j := 1) (t := 22) rfl rfl h1 L0 o0
  obtain ⟨L1, hL1⟩ : ∃ L : Det.Lays, L = L0 ++ M1 := ⟨_, rfl⟩
  rw [← hL1] at o1' rel1' kk1'
  have o1 := o1'
  obtain ⟨M2, avs2, a2, o2', rel2', kk2', wf2⟩ := Det.Opn.arg (Det.Opn.int Try.underlying23 (by kernel_rfl)) hsz (j := 2) (t := 23) rfl rfl h2 L1 o1
  obtain ⟨L2, hL2⟩ : ∃ L : Det.Lays, L = L1 ++ M2 := ⟨_, rfl⟩
  rw [← hL2] at o2' rel2' kk2'
  have o2 := o2'
  obtain ⟨M3, avs3, a3, o3', rel3', kk3', wf3⟩ := Det.Opn.arg (Det.Opn.int Try.underlying3 (by kernel_rfl)) hsz (j := 3) (t := 3) rfl rfl h3 L2 o2
  obtain ⟨L3, hL3⟩ : ∃ L : Det.Lays, L = L2 ++ M3 := ⟨_, rfl⟩
  rw [← hL3] at o3' rel3' kk3'
  have o3 := o3'
  obtain ⟨M4, avs4, a4, o4', rel4', kk4', wf4⟩ := Det.Opn.arg (Det.Opn.string Try.underlying9 (by kernel_rfl)) hsz (j := 4) (t := 9) rfl rfl h4 L3 o3
  obtain ⟨L4, hL4⟩ : ∃ L : Det.Lays, L = L3 ++ M4 := ⟨_, rfl⟩
  rw [← hL4] at o4' rel4' kk4'
  have o4 := o4'
  have le0 : Det.Mu.le (Det.Lays.mu L0) (Det.Lays.mu L4) := by
    have e : L4 = L0 ++ (M1 ++ M2 ++ M3 ++ M4) := by simp only [hL1, hL2, hL3, hL4, List.append_assoc]
    rw [e]
    exact Det.Lays.mu_le _ _
  have ex0 : Det.Ext (Det.Lays.heap L0) (Det.Lays.heap L4) := by
    have e : L4 = L0 ++ (M1 ++ M2 ++ M3 ++ M4) := by simp only [hL1, hL2, hL3, hL4, List.append_assoc]
    rw [e]
    exact Det.Lays.ext _ _
  have kk0 := (Det.Opn.slice (B := 32) Try.underlying103 (by kernel_rfl) (by kernel_rfl) (Det.Opn.struct Try.underlying70 (by kernel_rfl) (Det.OpnF.more (Det.Opn.int Try.underlying23 (by kernel_rfl)) rfl rfl (Det.OpnF.one (Det.Opn.slice (B := 24) Try.underlying68 (by kernel_rfl) (by kernel_rfl) (Det.Opn.slice (B := 1) Try.underlying22 (by kernel_rfl) (by kernel_rfl) (Det.Opn.int Try.underlying5 (by kernel_rfl)))) rfl)))).ext ex0 kk0'
  have rel0 := Det.VRels.mono le0 _ _ rel0'
  have one0 := Det.one_cell Try.underlying103 (by simp) (hval 0 103 v0 rfl rfl)
  have le1 : Det.Mu.le (Det.Lays.mu L1) (Det.Lays.mu L4) := by
    have e : L4 = L1 ++ (M2 ++ M3 ++ M4) := by simp only [hL2, hL3, hL4, List.append_assoc]
    rw [e]
    exact Det.Lays.mu_le _ _
  have ex1 : Det.Ext (Det.Lays.heap L1) (Det.Lays.heap L4) := by
    have e : L4 = L1 ++ (M2 ++ M3 ++ M4) := by simp only [hL2, hL3, hL4, List.append_assoc]
    rw [e]
    exact Det.Lays.ext _ _
  have kk1 := (Det.Opn.slice (B := 1) Try.underlying22 (by kernel_rfl) (by kernel_rfl) (Det.Opn.int Try.underlying5 (by kernel_rfl))).ext ex1 kk1'
  have rel1 := Det.VRels.mono le1 _ _ rel1'
  have one1 := Det.one_cell Try.underlying22 (by simp) (hval 1 22 v1 rfl rfl)
  have le2 : Det.Mu.le (Det.Lays.mu L2) (Det.Lays.mu L4) := by
    have e : L4 = L2 ++ (M3 ++ M4) := by simp only [hL3, hL4, List.append_assoc]
    rw [e]
    exact Det.Lays.mu_le _ _
  have ex2 : Det.Ext (Det.Lays.heap L2) (Det.Lays.heap L4) := by
    have e : L4 = L2 ++ (M3 ++ M4) := by simp only [hL3, hL4, List.append_assoc]
    rw [e]
    exact Det.Lays.ext _ _
  have kk2 := (Det.Opn.int Try.underlying23 (by kernel_rfl)).ext ex2 kk2'
  have rel2 := Det.VRels.mono le2 _ _ rel2'
  have one2 := Det.one_cell Try.underlying23 (by simp) (hval 2 23 v2 rfl rfl)
  have le3 : Det.Mu.le (Det.Lays.mu L3) (Det.Lays.mu L4) := by
    have e : L4 = L3 ++ (M4) := by simp only [hL4, List.append_assoc]
    rw [e]
    exact Det.Lays.mu_le _ _
  have ex3 : Det.Ext (Det.Lays.heap L3) (Det.Lays.heap L4) := by
    have e : L4 = L3 ++ (M4) := by simp only [hL4, List.append_assoc]
    rw [e]
    exact Det.Lays.ext _ _
  have kk3 := (Det.Opn.int Try.underlying3 (by kernel_rfl)).ext ex3 kk3'
  have rel3 := Det.VRels.mono le3 _ _ rel3'
  have one3 := Det.one_cell Try.underlying3 (by simp) (hval 3 3 v3 rfl rfl)
  have le4 : Det.Mu.le (Det.Lays.mu L4) (Det.Lays.mu L4) := by
    exact Det.Mu.le.refl _
  have ex4 : Det.Ext (Det.Lays.heap L4) (Det.Lays.heap L4) := by
    exact Det.Ext.refl _
  have kk4 := (Det.Opn.string Try.underlying9 (by kernel_rfl)).ext ex4 kk4'
  have rel4 := Det.VRels.mono le4 _ _ rel4'
  have one4 := Det.one_cell Try.underlying9 (by simp) (hval 4 9 v4 rfl rfl)
  obtain ⟨x0, rfl, hx0⟩ := kk0
  obtain ⟨x1, l1, rfl, hB, hlen, hcap⟩ := kk1.bytes wf1.2
  obtain rfl : avs2 = [.int .u64 a2] := kk2
  obtain rfl : avs3 = [.int .i64 a3] := kk3
  obtain rfl : avs4 = [.str a4] := kk4
  have hr : reachBytes ≤ Det.maxRow := by decide
  have hr2 : reachBytes ≤ 140737488355328 := by decide
  have w0 : a0.length * 32 ≤ reachBytes := wf0.1
  have w1 : a1.length * 1 ≤ reachBytes := wf1.1
  have w4 : a4.length ≤ reachBytes := wf4
  have hn : 0 ≤ a2 ∧ a2 ≤ 18446744073709551615 := by simpa [IntKind.min, IntKind.max, IntKind.bits, IntKind.signed] using wf2
  obtain ⟨n, rfl⟩ : ∃ n : Nat, a2 = n := ⟨a2.toNat, by omega⟩
  obtain ⟨es, hc, hf⟩ := Det.ents_of (xs := a0) ⟨x0, rfl, hx0⟩ (by omega) (fun x hx => by
    obtain ⟨q1, q2, q3⟩ := wf0.2 x hx
    refine ⟨by have : 0 ≤ x.1 ∧ x.1 ≤ 18446744073709551615 := by simpa [IntKind.min, IntKind.max, IntKind.bits, IntKind.signed] using q1
               omega, by omega, fun y hy => ⟨by have := (q3 y hy).1; omega, (q3 y hy).2⟩⟩)
  obtain ⟨r, h', hrun, hv⟩ := Det.back16_run (n := n) (width := a3) (nm := a4) hc hf hB (by omega) (by omega) (by omega)
  refine (Det.law_true_at ok (by kernel_rfl) (by kernel_rfl) o4 (args := [x0, x1, .int .u64 n, .int .i64 a3, .str a4]) ⟨_, _, rfl, Det.rel_one one0 rel0, _, _, rfl, Det.rel_one one1 rel1, _, _, rfl, Det.rel_one one2 rel2, _, _, rfl, Det.rel_one one3 rel3, _, _, rfl, Det.rel_one one4 rel4, rfl⟩ hrun hv).mono fun e W' ⟨he, hd⟩ => ?_
  have bel : Below W.heap.size W W' := hd
  subst he
  exact ⟨_, rfl, _, _, _, [], _, [], hW', trodAll_mk1 (shut_bool Try.underlying4 _), (trodAll_cons_mk (Below.trod laidOut (by kernel_rfl) (of_decide_eq_true (by kernel_rfl)) k0 bel lt0) (trodAll_cons_mk (Below.trod laidOut (by kernel_rfl) (of_decide_eq_true (by kernel_rfl)) k1 bel lt1) (trodAll_cons_mk (Below.trod laidOut (by kernel_rfl) (of_decide_eq_true (by kernel_rfl)) k2 bel lt2) (trodAll_cons_mk (Below.trod laidOut (by kernel_rfl) (of_decide_eq_true (by kernel_rfl)) k3 bel lt3) (trodAll_cons_mk (Below.trod laidOut (by kernel_rfl) (of_decide_eq_true (by kernel_rfl)) k4 bel lt4) trodAll_mk0))))), rfl, bel.frame _, fun h => by cases h⟩
theorem over : Rows.bundleBackRow.holds Try.pinned (OpenSpec.ofChange Rows.bundleBackSpec) :=
  OpenClaim.holds_of_wide 16 Try.f16 rfl rfl rfl rfl rfl rfl rfl ⟨rfl, rfl, rfl, rfl, rfl⟩ rfl rfl rfl rfl rfl (by kernel_rfl) Try.func16 (by kernel_rfl)
    (of_decide_eq_true (by kernel_rfl)) (by unfold Func.isWrapper; first | (rw [if_pos (by decide +kernel)]; kernel_rfl) | (rw [if_neg (by decide +kernel)]; exact ⟨rfl, rfl⟩))
    (fun os started H enc _ => lifted os started H enc)
theorem proved : Rows.BundleBackSaid := over
#print axioms proved
end Go.Proofs.Ythahfhdibhgboaa.bundleBack
namespace Go.Proofs.Ythahfhdibhgboaa
/-- The row, under a short name, for the claim. -/
theorem bundleBack_holds : Rows.BundleBackSaid := bundleBack.proved
end Go.Proofs.Ythahfhdibhgboaa
