/- The law EntryBack answers true, whatever it is handed. -/
import Derived.Test.YthahfhdibhgboaaRows
import Derived.WalkKit
import Derived.ProofKit
import Derived.OpenShut
import Derived.ShutString
import Derived.ChangeOld
import Derived.Below
import Derived.SizedLaws
import Derived.Test.YthahfhdibhgboaaM3EntryBack
set_option linter.unusedVariables false
set_option linter.unusedSimpArgs false
set_option linter.unusedSectionVars false
namespace Go.Proofs.Ythahfhdibhgboaa.entryBack
open Go.ChangeShapes Go.WideShapes Go.ChangeAt Go.RowKit
theorem own : ownKnob Try.prog.godebug = none := by kernel_rfl
theorem laidOut : laidOutB Try.prog = true := by kernel_rfl
set_option maxRecDepth 1000000 in
theorem ran24 : Det.isT ((Det.machK (Det.tabOf Try.prog) 10000).call 24 [] Det.H0) = true := by decide +kernel
set_option maxRecDepth 1000000 in
theorem ran35 : Det.isT ((Det.machK (Det.tabOf Try.prog) 10000).call 35 [] Det.H0) = true := by decide +kernel
set_option maxRecDepth 1000000 in
theorem ran62 : Det.isT ((Det.machK (Det.tabOf Try.prog) 10000).call 62 [] Det.H0) = true := by decide +kernel
theorem ok : Det.FOk Try.prog Det.TF := by
  refine Det.tabWith_ok _ _ ?_
  intro f hf
  have : f = 24 ∨ f = 35 ∨ f = 62 := by simpa using hf
  rcases this with rfl | rfl | rfl
  · exact ⟨Try.f24, Try.func24, by kernel_rfl, by kernel_rfl, fun W => Det.closed_true (Det.tabOf_ok _) (by kernel_rfl) (by kernel_rfl) ran24 W⟩
  · exact ⟨Try.f35, Try.func35, by kernel_rfl, by kernel_rfl, fun W => Det.closed_true (Det.tabOf_ok _) (by kernel_rfl) (by kernel_rfl) ran35 W⟩
  · exact ⟨Try.f62, Try.func62, by kernel_rfl, by kernel_rfl, fun W => Det.closed_true (Det.tabOf_ok _) (by kernel_rfl) (by kernel_rfl) ran62 W⟩
set_option linter.constructorNameAsVariable false
set_option maxRecDepth 100000 in
set_option maxHeartbeats 2000000 in
theorem lifted (os : Os) (started : os.Started) (H : Type) (enc : TypeId × Value → H) :
    ReturnsInHanded {} Try.checked os 12 .any (Rows.entryBackSpec.pre6 enc Try.prog Try.f12 Rows.entryBackRow.domain false) (Rows.entryBackSpec.post enc Try.prog Try.f12 false true false false) := by
  refine returnsInHanded_of_change_sized (C := Try.checked) own started (by kernel_rfl) Try.func12
    (ChangeSpec.witness6 (enc := enc) (C := Try.checked) false ⟨#[], #[.agg #[.int .u64 0, .slice none 0 0], .slice none 0 0, .agg #[.slice none 0 0, .slice none 0 0]], []⟩ 12 (by kernel_rfl) (by kernel_rfl) (by kernel_rfl) (by kernel_rfl)) ?_
  intro W base args ds gs before hval0 hW hcnd hsz0 _
  have hval : ∀ (j : Nat) t v, Try.f12.params[j]? = some t → args[j]? = some v → Value.okWide Try.prog W .any base t v := hval0
  have hsz := hsz0
  have hW' := hW
  obtain ⟨p, q, hA0, hV, rfl, hfz, hnd⟩ := hW
  have hA : DataW.TrodAll enc Try.prog W 0 (fun _ => true) true Try.f12.params.toList args.toList ds p := hA0
  rw [Try.params12] at hA hval hsz
  obtain ⟨v0, vs0, d0, ds0, p0, q0, hargs, rfl, rfl, h0, r0⟩ := trodAll_cons hA
  obtain ⟨v1, vs1, d1, ds1, p1, q1, rfl, rfl, rfl, h1, r1⟩ := trodAll_cons r0
  obtain ⟨v2, vs2, d2, ds2, p2, q2, rfl, rfl, rfl, h2, r2⟩ := trodAll_cons r1
  obtain ⟨rfl, rfl, rfl⟩ := trodAll_nil r2
  obtain rfl : args = #[v0, v1, v2] := by cases args; simp_all
  obtain ⟨rfl, rfl⟩ := trodVars_none hV
  have k0 := h0
  have lt0 : ∀ x ∈ p0, x.block < W.heap.size := by obtain ⟨m, hm⟩ := k0; exact DataW.trod_lt m _ _ _ hm
  have k1 := h1
  have lt1 : ∀ x ∈ p1, x.block < W.heap.size := by obtain ⟨m, hm⟩ := k1; exact DataW.trod_lt m _ _ _ hm
  have k2 := h2
  have lt2 : ∀ x ∈ p2, x.block < W.heap.size := by obtain ⟨m, hm⟩ := k2; exact DataW.trod_lt m _ _ _ hm
  obtain ⟨cs0, rfl⟩ := Det.agg_cell Try.underlying70 (hval 0 70 v0 rfl rfl)
  obtain ⟨M0, avs0, a0, o0', rel0', kk0', wf0⟩ := Det.Opn.arg (Det.Opn.struct Try.underlying70 (by kernel_rfl) (Det.OpnF.more (Det.Opn.int Try.underlying23 (by kernel_rfl)) rfl rfl (Det.OpnF.one (Det.Opn.slice (B := 24) Try.underlying68 (by kernel_rfl) (by kernel_rfl) (Det.Opn.slice (B := 1) Try.underlying22 (by kernel_rfl) (by kernel_rfl) (Det.Opn.int Try.underlying5 (by kernel_rfl)))) rfl))) hsz (j := 0) (t := 70) rfl rfl h0 [] (Det.Lays.ok_nil W)
  obtain ⟨L0, hL0⟩ : ∃ L : Det.Lays, L = [] ++ M0 := ⟨_, rfl⟩
  rw [← hL0] at o0' rel0' kk0'
  have o0 := o0'
  obtain ⟨M1, avs1, a1, o1', rel1', kk1', wf1⟩ := Det.Opn.arg (Det.Opn.slice (B := 1) Try.underlying22 (by kernel_rfl) (by kernel_rfl) (Det.Opn.int Try.underlying5 (by kernel_rfl))) hsz (j := 1) (t := 22) rfl rfl h1 L0 o0
  obtain ⟨L1, hL1⟩ : ∃ L : Det.Lays, L = L0 ++ M1 := ⟨_, rfl⟩
  rw [← hL1] at o1' rel1' kk1'
  have o1 := o1'
  obtain ⟨cs2, rfl⟩ := Det.agg_cell Try.underlying78 (hval 2 78 v2 rfl rfl)
  obtain ⟨M2, avs2, a2, o2', rel2', kk2', wf2⟩ := Det.Opn.arg (Det.Opn.struct Try.underlying78 (by kernel_rfl) (Det.OpnF.more (Det.Opn.slice (B := 1) Try.underlying22 (by kernel_rfl) (by kernel_rfl) (Det.Opn.int Try.underlying5 (by kernel_rfl))) rfl rfl (Det.OpnF.one (Det.Opn.slice (B := 1) Try.underlying22 (by kernel_rfl) (by kernel_rfl) (Det.Opn.int Try.underlying5 (by kernel_rfl))) rfl))) hsz (j := 2) (t := 78) rfl rfl h2 L1 o1
  obtain ⟨L2, hL2⟩ : ∃ L : Det.Lays, L = L1 ++ M2 := ⟨_, rfl⟩
  rw [← hL2] at o2' rel2' kk2'
  have o2 := o2'
  have le0 : Det.Mu.le (Det.Lays.mu L0) (Det.Lays.mu L2) := by
    have e : L2 = L0 ++ (M1 ++ M2) := by simp only [hL1, hL2, List.append_assoc]
    rw [e]
    exact Det.Lays.mu_le _ _
  have ex0 : Det.Ext (Det.Lays.heap L0) (Det.Lays.heap L2) := by
    have e : L2 = L0 ++ (M1 ++ M2) := by simp only [hL1, hL2, List.append_assoc]
    rw [e]
    exact Det.Lays.ext _ _
  have kk0 := (Det.Opn.struct Try.underlying70 (by kernel_rfl) (Det.OpnF.more (Det.Opn.int Try.underlying23 (by kernel_rfl)) rfl rfl (Det.OpnF.one (Det.Opn.slice (B := 24) Try.underlying68 (by kernel_rfl) (by kernel_rfl) (Det.Opn.slice (B := 1) Try.underlying22 (by kernel_rfl) (by kernel_rfl) (Det.Opn.int Try.underlying5 (by kernel_rfl)))) rfl))).ext ex0 kk0'
  have rel0 := Det.VRels.mono le0 _ _ rel0'
  have le1 : Det.Mu.le (Det.Lays.mu L1) (Det.Lays.mu L2) := by
    have e : L2 = L1 ++ (M2) := by simp only [hL2, List.append_assoc]
    rw [e]
    exact Det.Lays.mu_le _ _
  have ex1 : Det.Ext (Det.Lays.heap L1) (Det.Lays.heap L2) := by
    have e : L2 = L1 ++ (M2) := by simp only [hL2, List.append_assoc]
    rw [e]
    exact Det.Lays.ext _ _
  have kk1 := (Det.Opn.slice (B := 1) Try.underlying22 (by kernel_rfl) (by kernel_rfl) (Det.Opn.int Try.underlying5 (by kernel_rfl))).ext ex1 kk1'
  have rel1 := Det.VRels.mono le1 _ _ rel1'
  have one1 := Det.one_cell Try.underlying22 (by simp) (hval 1 22 v1 rfl rfl)
  have le2 : Det.Mu.le (Det.Lays.mu L2) (Det.Lays.mu L2) := by
    exact Det.Mu.le.refl _
  have ex2 : Det.Ext (Det.Lays.heap L2) (Det.Lays.heap L2) := by
    exact Det.Ext.refl _
  have kk2 := (Det.Opn.struct Try.underlying78 (by kernel_rfl) (Det.OpnF.more (Det.Opn.slice (B := 1) Try.underlying22 (by kernel_rfl) (by kernel_rfl) (Det.Opn.int Try.underlying5 (by kernel_rfl))) rfl rfl (Det.OpnF.one (Det.Opn.slice (B := 1) Try.underlying22 (by kernel_rfl) (by kernel_rfl) (Det.Opn.int Try.underlying5 (by kernel_rfl))) rfl))).ext ex2 kk2'
  have rel2 := Det.VRels.mono le2 _ _ rel2'
  obtain ⟨t0, l0⟩ := a0
  obtain ⟨y0, z0, rfl, K0, K0'⟩ := kk0
  obtain rfl : y0 = [.int .u64 t0] := K0
  obtain ⟨w0, rfl, hx0⟩ := K0'
  obtain ⟨x1, l1, rfl, hB, hlen, hcap⟩ := kk1.bytes wf1.2
  obtain ⟨b1, b2⟩ := a2
  obtain ⟨y2, z2, rfl, K2, K2'⟩ := kk2
  obtain ⟨x3, l3, rfl, hB3, hlen3, hcap3⟩ := Det.KSl.bytes K2 wf2.1.2
  obtain ⟨x4, l4, rfl, hB4, hlen4, hcap4⟩ := Det.KSl.bytes K2' wf2.2.2
  dsimp only at hlen3 hlen4
  have hr : reachBytes ≤ Det.maxRow := by decide
  have hr2 : reachBytes ≤ 140737488355328 := by decide
  have c0 : 0 ≤ t0 ∧ t0 ≤ 18446744073709551615 := by simpa [IntKind.min, IntKind.max, IntKind.bits, IntKind.signed] using wf0.1
  have w0' : l0.length * 24 ≤ reachBytes := wf0.2.1
  have w1 : a1.length * 1 ≤ reachBytes := wf1.1
  have w3 : b1.length * 1 ≤ reachBytes := wf2.1.1
  have w4 : b2.length * 1 ≤ reachBytes := wf2.2.1
  obtain ⟨n0, rfl⟩ : ∃ n : Nat, t0 = n := ⟨t0.toNat, by omega⟩
  obtain ⟨ps, hc, hl, hp⟩ := Det.chain_of (xs := l0) ⟨w0, rfl, hx0⟩ (fun x hx => (wf0.2.2 x hx).2)
  obtain ⟨r, h', hrun, hv⟩ := Det.back_run hc (by omega) (t := n0) (by omega) hB hB3 hB4 (by omega) (by omega) (by omega)
  refine (Det.law_true_at ok (by kernel_rfl) (by kernel_rfl) o2 (args := [Det.entV n0 w0, x1, Det.itemV x3 x4]) ⟨_, _, rfl, Det.rel_agg rel0, _, _, rfl, Det.rel_one one1 rel1, _, _, rfl, Det.rel_agg rel2, rfl⟩ hrun hv).mono fun e W' ⟨he, hd⟩ => ?_
  have bel : Below W.heap.size W W' := hd
  subst he
  exact ⟨_, rfl, _, _, _, [], _, [], hW', trodAll_mk1 (shut_bool Try.underlying4 _), (trodAll_cons_mk (Below.trod laidOut (by kernel_rfl) (of_decide_eq_true (by kernel_rfl)) k0 bel lt0) (trodAll_cons_mk (Below.trod laidOut (by kernel_rfl) (of_decide_eq_true (by kernel_rfl)) k1 bel lt1) (trodAll_cons_mk (Below.trod laidOut (by kernel_rfl) (of_decide_eq_true (by kernel_rfl)) k2 bel lt2) trodAll_mk0))), rfl, bel.frame _, fun h => by cases h⟩
theorem over : Rows.entryBackRow.holds Try.pinned (OpenSpec.ofChange Rows.entryBackSpec) :=
  OpenClaim.holds_of_wide 12 Try.f12 rfl rfl rfl rfl rfl rfl rfl ⟨rfl, rfl, rfl, rfl, rfl⟩ rfl rfl rfl rfl rfl (by kernel_rfl) Try.func12 (by kernel_rfl)
    (of_decide_eq_true (by kernel_rfl)) (by unfold Func.isWrapper; first | (rw [if_pos (by decide +kernel)]; kernel_rfl) | (rw [if_neg (by decide +kernel)]; exact ⟨rfl, rfl⟩))
    (fun os started H enc _ => lifted os started H enc)
theorem proved : Rows.EntryBackSaid := over
#print axioms proved
end Go.Proofs.Ythahfhdibhgboaa.entryBack
namespace Go.Proofs.Ythahfhdibhgboaa
/-- The row, under a short name, for the claim. -/
theorem entryBack_holds : Rows.EntryBackSaid := entryBack.proved
end Go.Proofs.Ythahfhdibhgboaa
