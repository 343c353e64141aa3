/- The law WireBack answers true, whatever it is handed. -/
import Derived.Test.YthahfhdibhgboaaRows
import Derived.Test.YthahfhdibhgboaaBackR
import Derived.Test.YthahfhdibhgboaaDetStart
import Derived.WalkKit
import Derived.ProofKit
import Derived.OpenShut
import Derived.ShutString
import Derived.ChangeOld
import Derived.Below
import Derived.SizedLaws
set_option linter.unusedVariables false
set_option linter.unusedSimpArgs false
set_option linter.unusedSectionVars false
namespace Go.Proofs.Ythahfhdibhgboaa.wireBack
open Go.ChangeShapes Go.WideShapes Go.ChangeAt Go.RowKit
theorem own : ownKnob Try.prog.godebug = none := by kernel_rfl
theorem laidOut : laidOutB Try.prog = true := by kernel_rfl
set_option maxRecDepth 1000000 in
theorem ran24 : Det.isT ((Det.machK (Det.tabOf Try.prog) 10000).call 24 [] Det.H0) = true := by decide +kernel
set_option maxRecDepth 1000000 in
theorem ran35 : Det.isT ((Det.machK (Det.tabOf Try.prog) 10000).call 35 [] Det.H0) = true := by decide +kernel
set_option maxRecDepth 1000000 in
theorem ran62 : Det.isT ((Det.machK (Det.tabOf Try.prog) 10000).call 62 [] Det.H0) = true := by decide +kernel
theorem ok : Det.FOk Try.prog Det.TF := by
  refine Det.tabWith_ok _ _ ?_
  intro f hf
  have : f = 24 ∨ f = 35 ∨ f = 62 := by simpa using hf
  rcases this with rfl | rfl | rfl
  · exact ⟨Try.f24, Try.func24, by kernel_rfl, by kernel_rfl, fun W => Det.closed_true (Det.tabOf_ok _) (by kernel_rfl) (by kernel_rfl) ran24 W⟩
  · exact ⟨Try.f35, Try.func35, by kernel_rfl, by kernel_rfl, fun W => Det.closed_true (Det.tabOf_ok _) (by kernel_rfl) (by kernel_rfl) ran35 W⟩
  · exact ⟨Try.f62, Try.func62, by kernel_rfl, by kernel_rfl, fun W => Det.closed_true (Det.tabOf_ok _) (by kernel_rfl) (by kernel_rfl) ran62 W⟩
set_option linter.constructorNameAsVariable false
set_option maxRecDepth 100000 in
set_option maxHeartbeats 2000000 in
theorem lifted (os : Os) (started : os.Started) (H : Type) (enc : TypeId × Value → H) :
    ReturnsInHanded {} Try.checked os 5 .any (Rows.wireBackSpec.pre6 enc Try.prog Try.f5 Rows.wireBackRow.domain false) (Rows.wireBackSpec.post enc Try.prog Try.f5 false true false false) := by
  refine returnsInHanded_of_change_sized (C := Try.checked) own started (by kernel_rfl) Try.func5
    (ChangeSpec.witness6 (enc := enc) (C := Try.checked) false ⟨#[], #[.slice none 0 0, .int .u16 0], []⟩ 5 (by kernel_rfl) (by kernel_rfl) (by kernel_rfl) (by kernel_rfl)) ?_
  intro W base args ds gs before hval0 hW hcnd hsz0 _
  have hval : ∀ (j : Nat) t v, Try.f5.params[j]? = some t → args[j]? = some v → Value.okWide Try.prog W .any base t v := hval0
  have hsz := hsz0
  have hW' := hW
  obtain ⟨p, q, hA0, hV, rfl, hfz, hnd⟩ := hW
  have hA : DataW.TrodAll enc Try.prog W 0 (fun _ => true) true Try.f5.params.toList args.toList ds p := hA0
  rw [Try.params5] at hA hval hsz
  obtain ⟨v0, vs0, d0, ds0, p0, q0, hargs, rfl, rfl, h0, r0⟩ := trodAll_cons hA
  obtain ⟨v1, vs1, d1, ds1, p1, q1, rfl, rfl, rfl, h1, r1⟩ := trodAll_cons r0
  obtain ⟨rfl, rfl, rfl⟩ := trodAll_nil r1
  obtain rfl : args = #[v0, v1] := by cases args; simp_all
  obtain ⟨rfl, rfl⟩ := trodVars_none hV
  have k0 := h0
  have lt0 : ∀ x ∈ p0, x.block < W.heap.size := by obtain ⟨m, hm⟩ := k0; exact DataW.trod_lt m _ _ _ hm
  have k1 := h1
  have lt1 : ∀ x ∈ p1, x.block < W.heap.size := by obtain ⟨m, hm⟩ := k1; exact DataW.trod_lt m _ _ _ hm
  obtain ⟨M0, avs0, a0, o0', rel0', kk0', wf0⟩ := Det.Opn.arg (Det.Opn.slice (B := 48) Try.underlying53 (by kernel_rfl) (by kernel_rfl) (Det.Opn.struct Try.underlying57 (by kernel_rfl) (Det.OpnF.more (Det.Opn.bool Try.underlying4 (by kernel_rfl)) rfl rfl (Det.OpnF.more (Det.Opn.int Try.underlying3 (by kernel_rfl)) rfl rfl (Det.OpnF.more (Det.Opn.int Try.underlying23 (by kernel_rfl)) rfl rfl (Det.OpnF.one (Det.Opn.slice (B := 1) Try.underlying22 (by kernel_rfl) (by kernel_rfl) (Det.Opn.int Try.underlying5 (by kernel_rfl))) rfl)))))) hsz (j := 0) (t := 53) rfl rfl h0 [] (Det.Lays.ok_nil W)
  obtain ⟨L0, hL0⟩ : ∃ L : Det.Lays, L = [] ++ M0 := ⟨_, rfl⟩
  rw [← hL0] at o0' rel0' kk0'
  have o0 := o0'
  obtain ⟨M1, avs1, a1, o1', rel1', kk1', wf1⟩ := Det.Opn.arg (Det.Opn.int Try.underlying54 (by kernel_rfl)) hsz (j := 1) (t := 54) rfl rfl h1 L0 o0
  obtain ⟨L1, hL1⟩ : ∃ L : Det.Lays, L = L0 ++ M1 := ⟨_, rfl⟩
  rw [← hL1] at o1' rel1' kk1'
  have o1 := o1'
  have le0 : Det.Mu.le (Det.Lays.mu L0) (Det.Lays.mu L1) := by
    have e : L1 = L0 ++ (M1) := by simp only [hL1, List.append_assoc]
    rw [e]
    exact Det.Lays.mu_le _ _
  have ex0 : Det.Ext (Det.Lays.heap L0) (Det.Lays.heap L1) := by
    have e : L1 = L0 ++ (M1) := by simp only [hL1, List.append_assoc]
    rw [e]
    exact Det.Lays.ext _ _
  have kk0 := (Det.Opn.slice (B := 48) Try.underlying53 (by kernel_rfl) (by kernel_rfl) (Det.Opn.struct Try.underlying57 (by kernel_rfl) (Det.OpnF.more (Det.Opn.bool Try.underlying4 (by kernel_rfl)) rfl rfl (Det.OpnF.more (Det.Opn.int Try.underlying3 (by kernel_rfl)) rfl rfl (Det.OpnF.more (Det.Opn.int Try.underlying23 (by kernel_rfl)) rfl rfl (Det.OpnF.one (Det.Opn.slice (B := 1) Try.underlying22 (by kernel_rfl) (by kernel_rfl) (Det.Opn.int Try.underlying5 (by kernel_rfl))) rfl)))))).ext ex0 kk0'
  have rel0 := Det.VRels.mono le0 _ _ rel0'
  have one0 := Det.one_cell Try.underlying53 (by simp) (hval 0 53 v0 rfl rfl)
  have le1 : Det.Mu.le (Det.Lays.mu L1) (Det.Lays.mu L1) := by
    exact Det.Mu.le.refl _
  have ex1 : Det.Ext (Det.Lays.heap L1) (Det.Lays.heap L1) := by
    exact Det.Ext.refl _
  have kk1 := (Det.Opn.int Try.underlying54 (by kernel_rfl)).ext ex1 kk1'
  have rel1 := Det.VRels.mono le1 _ _ rel1'
  have one1 := Det.one_cell Try.underlying54 (by simp) (hval 1 54 v1 rfl rfl)
  obtain ⟨x0, rfl, hx0⟩ := kk0
  obtain rfl : avs1 = [.int .u16 a1] := kk1
  have hr : reachBytes ≤ Det.maxRow := by decide
  have hr2 : reachBytes < 2 ^ 62 := by decide
  have h2 : a0.length * 48 ≤ reachBytes := wf0.1
  have hc : 0 ≤ a1 ∧ a1 ≤ 65535 := by simpa [IntKind.min, IntKind.max, IntKind.bits, IntKind.signed] using wf1
  obtain ⟨cu, rfl⟩ : ∃ n : Nat, a1 = n := ⟨a1.toNat, by omega⟩
  obtain ⟨ths, ab, cc, g1, g2, g3, g4⟩ := Det.things_of (xs := a0) ⟨x0, rfl, hx0⟩ (fun x hx => by
    obtain ⟨_, _, q1, q2⟩ := wf0.2 x hx
    refine ⟨by simpa [IntKind.min, IntKind.max, IntKind.bits, IntKind.signed] using q1, ?_, q2.2⟩
    have : x.2.2.2.length * 1 ≤ reachBytes := q2.1
    omega)
  obtain ⟨r, h', hrun, hv⟩ := Det.back_run g1 g2 g3 (by omega) cu (by omega)
  refine (Det.law_true_at ok (by kernel_rfl) (by kernel_rfl) o1 (args := [x0, .int .u16 cu]) ⟨_, _, rfl, Det.rel_one one0 rel0, _, _, rfl, Det.rel_one one1 rel1, rfl⟩ hrun hv).mono fun e W' ⟨he, hd⟩ => ?_
  have bel : Below W.heap.size W W' := hd
  subst he
  exact ⟨_, rfl, _, _, _, [], _, [], hW', trodAll_mk1 (shut_bool Try.underlying4 _), (trodAll_cons_mk (Below.trod laidOut (by kernel_rfl) (of_decide_eq_true (by kernel_rfl)) k0 bel lt0) (trodAll_cons_mk (Below.trod laidOut (by kernel_rfl) (of_decide_eq_true (by kernel_rfl)) k1 bel lt1) trodAll_mk0)), rfl, bel.frame _, fun h => by cases h⟩
theorem over : Rows.wireBackRow.holds Try.pinned (OpenSpec.ofChange Rows.wireBackSpec) :=
  OpenClaim.holds_of_wide 5 Try.f5 rfl rfl rfl rfl rfl rfl rfl ⟨rfl, rfl, rfl, rfl, rfl⟩ rfl rfl rfl rfl rfl (by kernel_rfl) Try.func5 (by kernel_rfl)
    (of_decide_eq_true (by kernel_rfl)) (by unfold Func.isWrapper; first | (rw [if_pos (by decide +kernel)]; kernel_rfl) | (rw [if_neg (by decide +kernel)]; exact ⟨rfl, rfl⟩))
    (fun os started H enc _ => lifted os started H enc)
theorem proved : Rows.WireBackSaid := over
#print axioms proved
end Go.Proofs.Ythahfhdibhgboaa.wireBack
namespace Go.Proofs.Ythahfhdibhgboaa
/-- The row, under a short name, for the claim. -/
theorem wireBack_holds : Rows.WireBackSaid := wireBack.proved
end Go.Proofs.Ythahfhdibhgboaa
