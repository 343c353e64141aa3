/- The law BaseBack answers true, whatever it is handed. -/
import Derived.Test.YtdnfbmminagflaaDoorTie
import Derived.Test.YtdnfbmminagflaaDoorCards
import Derived.Test.YtdnfbmminagflaaDoorbaRan
import Derived.Test.YtdnfbmminagflaaDoorba10
import Derived.Test.YtdnfbmminagflaaDoorDetStart
import Derived.WalkKit
import Derived.ProofKit
import Derived.OpenShut
import Derived.ShutString
import Derived.ChangeOld
import Derived.Below
import Derived.SizedLaws
import Derived.LaidMore
import Derived.Lay
import Derived.SevenTiedAt
import Derived.Stop.Joined
import Derived.Deep.DeepHandedRow
set_option linter.unusedVariables false
set_option linter.unusedSimpArgs false
set_option linter.unusedSectionVars false
namespace Go.Proofs.YtdnfbmminagflaaDoor.baseBack
open Go Go.ChangeShapes Go.WideShapes Go.ChangeAt Go.RowKit
theorem own : ownKnob Tryd.prog.godebug = none := by kernel_rfl
theorem laidOut : laidOutB Tryd.prog = true := by kernel_rfl
theorem ok (W : World) : Det.FOkAt Tryd.prog W Det.TF := Det.tab_ok W
set_option linter.constructorNameAsVariable false
set_option maxRecDepth 100000 in
set_option maxHeartbeats 2000000 in
theorem lifted (os : Os) (started : os.Started) (H : Type) (enc : TypeId × Value → H) :
    ReturnsInHanded {} Tryd.checked os 4 .any (fun w args => (Rows.baseBackSpec.pre enc Tryd.prog Tryd.f4 Rows.baseBackRow.domain false w args ∧ laidMetH Tryd.prog Rows.baseBackRow.laid w) ∧ sizedMet enc Tryd.prog Tryd.f4 (OpenSpec.ofChange Rows.baseBackSpec) false w args)
      (Rows.baseBackSpec.post enc Tryd.prog Tryd.f4 false true false false) := by
  refine returnsInHanded_of_change_and (C := Tryd.checked) (X := fun w _ => laidMetH Tryd.prog Rows.baseBackRow.laid w) (fun _ _ _ hh h => h.of_heap hh) own started (by kernel_rfl) Tryd.func4
    (ChangeSpec.witness_shaped (enc := enc) (C := Tryd.checked) (os := os) (X := fun w _ => laidMetH Tryd.prog Rows.baseBackRow.laid w) false (World.laidAll Tryd.prog os Rows.baseBackRow.laid) #[.slice none 0 0, .string ⟨#[]⟩] 16 (World.laidAll_os _ _ _)
      (World.shaped_of_ZipB (by kernel_rfl) (by kernel_rfl)) (by kernel_rfl) (by kernel_rfl) (by kernel_rfl)
      (by rw [MakeChecks.laidMetH_plain _ _ _ (by kernel_rfl)]; exact laidMet_laidAll _ (by kernel_rfl) (by kernel_rfl))) ?_
  intro W base args ds gs before hval0 hW hcnd hsz0 hL _
  have hval : ∀ (j : Nat) t v, Tryd.f4.params[j]? = some t → args[j]? = some v → Value.okWide Tryd.prog W .any base t v := hval0
  have hsz := hsz0
  have hW' := hW
  obtain ⟨p, q, hA0, hV, rfl, hfz, hnd⟩ := hW
  have hA : DataW.TrodAll enc Tryd.prog W 0 (fun _ => true) true Tryd.f4.params.toList args.toList ds p := hA0
  rw [Tryd.params4] at hA hval hsz
  obtain ⟨v0, vs0, d0, ds0, p0, q0, hargs, rfl, rfl, h0, r0⟩ := trodAll_cons hA
  obtain ⟨v1, vs1, d1, ds1, p1, q1, rfl, rfl, rfl, h1, r1⟩ := trodAll_cons r0
  obtain ⟨rfl, rfl, rfl⟩ := trodAll_nil r1
  obtain rfl : args = #[v0, v1] := by cases args; simp_all
  obtain ⟨rfl, rfl⟩ := trodVars_none hV
  have k0 := h0
  have lt0 : ∀ x ∈ p0, x.block < W.heap.size := by obtain ⟨m, hm⟩ := k0; exact DataW.trod_lt m _ _ _ hm
  have k1 := h1
  have lt1 : ∀ x ∈ p1, x.block < W.heap.size := by obtain ⟨m, hm⟩ := k1; exact DataW.trod_lt m _ _ _ hm
  obtain ⟨M0, avs0, a0, o0', rel0', kk0', wf0⟩ := Det.Opn.arg (Det.Opn.slice (B := 1) Tryd.underlying22 (by kernel_rfl) (by kernel_rfl) (Det.Opn.int Tryd.underlying5 (by kernel_rfl))) hsz (j := 0) (t := 22) rfl rfl h0 [] (Det.Lays.ok_nil W)
  obtain ⟨L0, hL0⟩ : ∃ L : Det.Lays, L = [] ++ M0 := ⟨_, rfl⟩
  rw [← hL0] at o0' rel0' kk0'
  have o0 := o0'
  obtain ⟨M1, avs1, a1, o1', rel1', kk1', wf1⟩ := Det.Opn.arg (Det.Opn.string Tryd.underlying9 (by kernel_rfl)) hsz (j := 1) (t := 9) rfl rfl h1 L0 o0
  obtain ⟨L1, hL1⟩ : ∃ L : Det.Lays, L = L0 ++ M1 := ⟨_, rfl⟩
  rw [← hL1] at o1' rel1' kk1'
  have o1 := o1'
  have eL0 : L1 = L0 ++ M1 := by simp only [hL1, List.append_assoc]
  have le0 : Det.Mu.le (Det.Lays.mu L0) (Det.Lays.mu L1) := by rw [eL0]; exact Det.Lays.mu_le _ _
  have ex0 : Det.Ext (Det.Lays.heap L0) (Det.Lays.heap L1) := by rw [eL0]; exact Det.Lays.ext _ _
  have kk0 := (Det.Opn.slice (B := 1) Tryd.underlying22 (by kernel_rfl) (by kernel_rfl) (Det.Opn.int Tryd.underlying5 (by kernel_rfl))).ext ex0 kk0'
  have rel0 := Det.VRels.mono le0 _ _ rel0'
  have kk1 := kk1'
  have rel1 := rel1'
  have one0 := Det.one_cell Tryd.underlying22 (by simp) (hval 0 22 v0 rfl rfl)
  have one1 := Det.one_cell Tryd.underlying9 (by simp) (hval 1 9 v1 rfl rfl)
  obtain ⟨x0, l0, rfl, hB0, hlen0, hcap0⟩ := kk0.bytes wf0.2
  have rr0 := Det.rel_one one0 rel0
  obtain rfl : avs1 = [.str a1] := kk1
  have rr1 := Det.rel_one one1 rel1
  have b1 : a1.length ≤ reachBytes := wf1
  have hreach : reachBytes = 140737488351232 := rfl
  have hw0 := wf0.1
  obtain ⟨r, h', hrun, hv⟩ := Det.back_run hB0 (fun a m c e => .inl (hcap0 a m c e)) (s := a1) (by omega) (by omega)
  refine (Det.law_true_as (ok W) (by kernel_rfl) o1 (args := [x0, .str a1]) ⟨_, _, rfl, rr0, _, _, rfl, rr1, rfl⟩ hrun hv).mono fun e W' ⟨he, hd⟩ => ?_
  have bel : Below W.heap.size W W' := hd
  subst he
  exact ⟨_, rfl, _, _, _, [], _, [], hW', trodAll_mk1 (shut_bool Tryd.underlying4 _), (trodAll_cons_mk (Below.trod laidOut (by kernel_rfl) (of_decide_eq_true (by kernel_rfl)) k0 bel lt0) (trodAll_cons_mk (Below.trod laidOut (by kernel_rfl) (of_decide_eq_true (by kernel_rfl)) k1 bel lt1) trodAll_mk0)), rfl, bel.frame _, fun h => by cases h⟩
theorem over : Rows.baseBackRow.holds Tryd.pinned (OpenSpec.ofChange Rows.baseBackSpec) :=
  OpenClaim.holds_of_wide 4 Tryd.f4 rfl rfl rfl rfl rfl rfl rfl ⟨rfl, rfl, rfl, rfl, rfl⟩ rfl rfl rfl rfl rfl (by kernel_rfl) Tryd.func4 (by kernel_rfl)
    (of_decide_eq_true (by kernel_rfl)) (by unfold Func.isWrapper; first | (rw [if_pos (by decide +kernel)]; kernel_rfl) | (rw [if_neg (by decide +kernel)]; exact ⟨rfl, rfl⟩))
    (fun os started H enc _ => lifted os started H enc)
theorem proved : Rows.BaseBackCardSaid :=
  Claim7.holds_tied_plain_at .later [] _ _ _ _ over (fun _ h => by cases h) (by kernel_rfl) (fun _ h => by cases h) baseBack_row_tie rfl ⟨rfl, rfl⟩ (by kernel_rfl) rfl
    (fun f fn hf hfn => by
      obtain rfl : f = 4 := Option.some.inj ((show Tryd.prog.funcNamed "escritoire/escritoirelaw03.BaseBack" = some 4 by kernel_rfl).symm.trans hf) |>.symm
      obtain rfl : fn = Tryd.f4 := (Option.some.inj (Tryd.func4.symm.trans hfn)).symm
      exact ⟨by kernel_rfl, fun j t ht => by
        rw [Tryd.params4] at ht
        have hm : t ∈ [22, 9] := by simpa using Array.mem_of_getElem? ht
        have hall : ([22, 9].all fun u => !Tryd.prog.wantsStandIn u) = true := by kernel_rfl
        exact (show Tryd.prog.wantsStandIn t = false by simpa using List.all_eq_true.1 hall t hm)⟩)
    (by kernel_rfl)
#print axioms proved
end Go.Proofs.YtdnfbmminagflaaDoor.baseBack
namespace Go.Proofs.YtdnfbmminagflaaDoor
/-- The card, under a short name, for the claim. -/
theorem baseBack_holds : Rows.BaseBackCardSaid := baseBack.proved
end Go.Proofs.YtdnfbmminagflaaDoor
