/- The law EntryOwn answers true, whatever it is handed. -/
import Derived.Test.YthahfhdibhgboaaRows
import Derived.WalkKit
import Derived.ProofKit
import Derived.OpenShut
import Derived.ShutString
import Derived.ChangeOld
import Derived.Below
import Derived.SizedLaws
import Derived.Test.YthahfhdibhgboaaM2EntryOwn
set_option linter.unusedVariables false
set_option linter.unusedSimpArgs false
set_option linter.unusedSectionVars false
namespace Go.Proofs.Ythahfhdibhgboaa.entryOwn
open Go.ChangeShapes Go.WideShapes Go.ChangeAt Go.RowKit
theorem own : ownKnob Try.prog.godebug = none := by kernel_rfl
theorem laidOut : laidOutB Try.prog = true := by kernel_rfl
set_option maxRecDepth 1000000 in
theorem ran24 : Det.isT ((Det.machK (Det.tabOf Try.prog) 10000).call 24 [] Det.H0) = true := by decide +kernel
set_option maxRecDepth 1000000 in
theorem ran35 : Det.isT ((Det.machK (Det.tabOf Try.prog) 10000).call 35 [] Det.H0) = true := by decide +kernel
set_option maxRecDepth 1000000 in
theorem ran62 : Det.isT ((Det.machK (Det.tabOf Try.prog) 10000).call 62 [] Det.H0) = true := by decide +kernel
theorem ok : Det.FOk Try.prog Det.TF := by
  refine Det.tabWith_ok _ _ ?_
  intro f hf
  have : f = 24 ∨ f = 35 ∨ f = 62 := by simpa using hf
  rcases this with rfl | rfl | rfl
  · exact ⟨Try.f24, Try.func24, by kernel_rfl, by kernel_rfl, fun W => Det.closed_true (Det.tabOf_ok _) (by kernel_rfl) (by kernel_rfl) ran24 W⟩
  · exact ⟨Try.f35, Try.func35, by kernel_rfl, by kernel_rfl, fun W => Det.closed_true (Det.tabOf_ok _) (by kernel_rfl) (by kernel_rfl) ran35 W⟩
  · exact ⟨Try.f62, Try.func62, by kernel_rfl, by kernel_rfl, fun W => Det.closed_true (Det.tabOf_ok _) (by kernel_rfl) (by kernel_rfl) ran62 W⟩
set_option linter.constructorNameAsVariable false
set_option maxRecDepth 100000 in
set_option maxHeartbeats 2000000 in
theorem lifted (os : Os) (started : os.Started) (H : Type) (enc : TypeId × Value → H) :
    ReturnsInHanded {} Try.checked os 9 .any (Rows.entryOwnSpec.pre6 enc Try.prog Try.f9 Rows.entryOwnRow.domain false) (Rows.entryOwnSpec.post enc Try.prog Try.f9 false true false false) := by
  refine returnsInHanded_of_change_sized (C := Try.checked) own started (by kernel_rfl) Try.func9
    (ChangeSpec.witness6 (enc := enc) (C := Try.checked) false ⟨#[], #[.agg (#[.int .u64 0, .slice none 0 0, .int .u64 0, .slice none 0 0] ++ #[.int .u64 0, .int .u64 0] ++ Array.replicate 96 (.int .u8 0) ++ #[.int .u64 0, .int .u64 0] ++ Array.replicate 96 (.int .u8 0))], []⟩ 9 (by kernel_rfl) (by kernel_rfl) (by kernel_rfl) (by kernel_rfl)) ?_
  intro W base args ds gs before hval0 hW hcnd hsz0 _
  have hval : ∀ (j : Nat) t v, Try.f9.params[j]? = some t → args[j]? = some v → Value.okWide Try.prog W .any base t v := hval0
  have hsz := hsz0
  have hW' := hW
  obtain ⟨p, q, hA0, hV, rfl, hfz, hnd⟩ := hW
  have hA : DataW.TrodAll enc Try.prog W 0 (fun _ => true) true Try.f9.params.toList args.toList ds p := hA0
  rw [Try.params9] at hA hval hsz
  obtain ⟨v0, vs0, d0, ds0, p0, q0, hargs, rfl, rfl, h0, r0⟩ := trodAll_cons hA
  obtain ⟨rfl, rfl, rfl⟩ := trodAll_nil r0
  obtain rfl : args = #[v0] := by cases args; simp_all
  obtain ⟨rfl, rfl⟩ := trodVars_none hV
  have k0 := h0
  have lt0 : ∀ x ∈ p0, x.block < W.heap.size := by obtain ⟨m, hm⟩ := k0; exact DataW.trod_lt m _ _ _ hm
  obtain ⟨cs0, rfl⟩ := Det.agg_cell Try.underlying72 (hval 0 72 v0 rfl rfl)
  obtain ⟨M0, avs0, a0, o0', rel0', kk0', wf0⟩ := Det.Opn.arg (Det.Opn.struct Try.underlying72 (by kernel_rfl) (Det.OpnF.more (Det.Opn.struct Try.underlying70 (by kernel_rfl) (Det.OpnF.more (Det.Opn.int Try.underlying23 (by kernel_rfl)) rfl rfl (Det.OpnF.one (Det.Opn.slice (B := 24) Try.underlying68 (by kernel_rfl) (by kernel_rfl) (Det.Opn.slice (B := 1) Try.underlying22 (by kernel_rfl) (by kernel_rfl) (Det.Opn.int Try.underlying5 (by kernel_rfl)))) rfl))) rfl rfl (Det.OpnF.more (Det.Opn.struct Try.underlying70 (by kernel_rfl) (Det.OpnF.more (Det.Opn.int Try.underlying23 (by kernel_rfl)) rfl rfl (Det.OpnF.one (Det.Opn.slice (B := 24) Try.underlying68 (by kernel_rfl) (by kernel_rfl) (Det.Opn.slice (B := 1) Try.underlying22 (by kernel_rfl) (by kernel_rfl) (Det.Opn.int Try.underlying5 (by kernel_rfl)))) rfl))) rfl rfl (Det.OpnF.more (Det.Opn.struct Try.underlying65 (by kernel_rfl) (Det.OpnF.more (Det.Opn.int Try.underlying23 (by kernel_rfl)) rfl rfl (Det.OpnF.more (Det.Opn.int Try.underlying23 (by kernel_rfl)) rfl rfl (Det.OpnF.more (Det.Opn.ints Try.underlying62 Try.underlying5 (by kernel_rfl) (by kernel_rfl)) rfl rfl (Det.OpnF.one (Det.Opn.ints Try.underlying63 Try.underlying5 (by kernel_rfl) (by kernel_rfl)) rfl))))) rfl rfl (Det.OpnF.one (Det.Opn.struct Try.underlying65 (by kernel_rfl) (Det.OpnF.more (Det.Opn.int Try.underlying23 (by kernel_rfl)) rfl rfl (Det.OpnF.more (Det.Opn.int Try.underlying23 (by kernel_rfl)) rfl rfl (Det.OpnF.more (Det.Opn.ints Try.underlying62 Try.underlying5 (by kernel_rfl) (by kernel_rfl)) rfl rfl (Det.OpnF.one (Det.Opn.ints Try.underlying63 Try.underlying5 (by kernel_rfl) (by kernel_rfl)) rfl))))) rfl))))) hsz (j := 0) (t := 72) rfl rfl h0 [] (Det.Lays.ok_nil W)
  obtain ⟨L0, hL0⟩ : ∃ L : Det.Lays, L = [] ++ M0 := ⟨_, rfl⟩
  rw [← hL0] at o0' rel0' kk0'
  have o0 := o0'
  have le0 : Det.Mu.le (Det.Lays.mu L0) (Det.Lays.mu L0) := by
    exact Det.Mu.le.refl _
  have ex0 : Det.Ext (Det.Lays.heap L0) (Det.Lays.heap L0) := by
    exact Det.Ext.refl _
  have kk0 := (Det.Opn.struct Try.underlying72 (by kernel_rfl) (Det.OpnF.more (Det.Opn.struct Try.underlying70 (by kernel_rfl) (Det.OpnF.more (Det.Opn.int Try.underlying23 (by kernel_rfl)) rfl rfl (Det.OpnF.one (Det.Opn.slice (B := 24) Try.underlying68 (by kernel_rfl) (by kernel_rfl) (Det.Opn.slice (B := 1) Try.underlying22 (by kernel_rfl) (by kernel_rfl) (Det.Opn.int Try.underlying5 (by kernel_rfl)))) rfl))) rfl rfl (Det.OpnF.more (Det.Opn.struct Try.underlying70 (by kernel_rfl) (Det.OpnF.more (Det.Opn.int Try.underlying23 (by kernel_rfl)) rfl rfl (Det.OpnF.one (Det.Opn.slice (B := 24) Try.underlying68 (by kernel_rfl) (by kernel_rfl) (Det.Opn.slice (B := 1) Try.underlying22 (by kernel_rfl) (by kernel_rfl) (Det.Opn.int Try.underlying5 (by kernel_rfl)))) rfl))) rfl rfl (Det.OpnF.more (Det.Opn.struct Try.underlying65 (by kernel_rfl) (Det.OpnF.more (Det.Opn.int Try.underlying23 (by kernel_rfl)) rfl rfl (Det.OpnF.more (Det.Opn.int Try.underlying23 (by kernel_rfl)) rfl rfl (Det.OpnF.more (Det.Opn.ints Try.underlying62 Try.underlying5 (by kernel_rfl) (by kernel_rfl)) rfl rfl (Det.OpnF.one (Det.Opn.ints Try.underlying63 Try.underlying5 (by kernel_rfl) (by kernel_rfl)) rfl))))) rfl rfl (Det.OpnF.one (Det.Opn.struct Try.underlying65 (by kernel_rfl) (Det.OpnF.more (Det.Opn.int Try.underlying23 (by kernel_rfl)) rfl rfl (Det.OpnF.more (Det.Opn.int Try.underlying23 (by kernel_rfl)) rfl rfl (Det.OpnF.more (Det.Opn.ints Try.underlying62 Try.underlying5 (by kernel_rfl) (by kernel_rfl)) rfl rfl (Det.OpnF.one (Det.Opn.ints Try.underlying63 Try.underlying5 (by kernel_rfl) (by kernel_rfl)) rfl))))) rfl))))).ext ex0 kk0'
  have rel0 := Det.VRels.mono le0 _ _ rel0'
  obtain ⟨⟨ta, la⟩, ⟨tb, lb⟩, ⟨sh, th, rh, gh⟩, ⟨sk, tk, rk, gk⟩⟩ := a0
  obtain ⟨C1, R1, rfl, K1, kk1⟩ := kk0
  obtain ⟨C2, R2, rfl, K2, kk2⟩ := kk1
  obtain ⟨C3, C4, rfl, K3, K4⟩ := kk2
  obtain ⟨A1, B1, rfl, k11, k12⟩ := K1
  obtain ⟨A2, B2, rfl, k21, k22⟩ := K2
  obtain rfl : A1 = [.int .u64 ta] := k11
  obtain rfl : A2 = [.int .u64 tb] := k21
  obtain ⟨wa, rfl, hxa⟩ := k12
  obtain ⟨wb, rfl, hxb⟩ := k22
  obtain ⟨A3, B3, rfl, k31, k32⟩ := K3
  obtain ⟨A4, B4, rfl, k33, k34⟩ := k32
  obtain ⟨RH, GH, rfl, k35, k36⟩ := k34
  obtain ⟨A5, B5, rfl, k41, k42⟩ := K4
  obtain ⟨A6, B6, rfl, k43, k44⟩ := k42
  obtain ⟨RK, GK, rfl, k45, k46⟩ := k44
  obtain rfl : A3 = [.int .u64 sh] := k31
  obtain rfl : A4 = [.int .u64 th] := k33
  obtain rfl : A5 = [.int .u64 sk] := k41
  obtain rfl : A6 = [.int .u64 tk] := k43
  obtain ⟨rfl, lh⟩ := k35
  obtain ⟨rfl, lgh⟩ := k36
  obtain ⟨rfl, lk⟩ := k45
  obtain ⟨rfl, lgk⟩ := k46
  obtain ⟨⟨w1, w2⟩, ⟨w3, w4⟩, ⟨w5, w6, w7, w8⟩, w9, w10, w11, w12⟩ := wf0
  dsimp only at lh lgh lk lgk w1 w2 w3 w4 w5 w6 w7 w8 w9 w10 w11 w12
  obtain ⟨lr, er, hlr⟩ := Det.bytes_of_ints rh w7
  obtain ⟨kr, ek, hkr⟩ := Det.bytes_of_ints rk w11
  dsimp only at rel0
  rw [er, ek] at rel0
  have hr : reachBytes ≤ Det.maxRow := by decide
  have hr2 : reachBytes ≤ 140737488355328 := by decide
  have u64 : ∀ {x : Int}, IntKind.u64.min ≤ x ∧ x ≤ IntKind.u64.max → 0 ≤ x ∧ x ≤ 18446744073709551615 := fun h => by simpa [IntKind.min, IntKind.max, IntKind.bits, IntKind.signed] using h
  have b1 := u64 w1
  have b2 := u64 w3
  have b3 := u64 w5
  have b4 := u64 w6
  have b5 := u64 w9
  have b6 := u64 w10
  obtain ⟨ta, rfl⟩ : ∃ n : Nat, ta = n := ⟨ta.toNat, by omega⟩
  obtain ⟨tb, rfl⟩ : ∃ n : Nat, tb = n := ⟨tb.toNat, by omega⟩
  obtain ⟨sh, rfl⟩ : ∃ n : Nat, sh = n := ⟨sh.toNat, by omega⟩
  obtain ⟨th, rfl⟩ : ∃ n : Nat, th = n := ⟨th.toNat, by omega⟩
  obtain ⟨sk, rfl⟩ : ∃ n : Nat, sk = n := ⟨sk.toNat, by omega⟩
  obtain ⟨tk, rfl⟩ : ∃ n : Nat, tk = n := ⟨tk.toNat, by omega⟩
  obtain ⟨xa, ca, la1, _⟩ := Det.chain_of (xs := la) ⟨wa, rfl, hxa⟩ (fun x hx => (w2.2 x hx).2)
  obtain ⟨xb, cb, lb1, _⟩ := Det.chain_of (xs := lb) ⟨wb, rfl, hxb⟩ (fun x hx => (w4.2 x hx).2)
  have m1 : la.length * 24 ≤ reachBytes := w2.1
  have m2 : lb.length * 24 ≤ reachBytes := w4.1
  obtain ⟨r, h', hrun, hv⟩ := Det.own9_run (s5 := sh) (t5 := th) (s6 := sk) (t6 := tk) (r5 := lr) (r6 := kr) (g5 := gh.map (Det.AV.int .u8)) (g6 := gk.map (Det.AV.int .u8)) (ta := ta) (tb := tb) (by omega) (by omega) (by rw [List.length_map]; exact lgh) (by rw [List.length_map]; exact lgk) Det.ints_one Det.ints_one (by omega) (by omega) (by omega) (by omega) ca cb (by omega) (by omega) (by omega) (by omega)
  refine (Det.law_true_at ok (by kernel_rfl) (by kernel_rfl) o0 (args := [.agg (Det.ownC ta tb wa wb (Det.hcells sh th lr (gh.map (Det.AV.int .u8))) (Det.hcells sk tk kr (gk.map (Det.AV.int .u8))))]) ⟨_, _, rfl, Det.rel_agg rel0, rfl⟩ hrun hv).mono fun e W' ⟨he, hd⟩ => ?_
  have bel : Below W.heap.size W W' := hd
  subst he
  exact ⟨_, rfl, _, _, _, [], _, [], hW', trodAll_mk1 (shut_bool Try.underlying4 _), (trodAll_cons_mk (Below.trod laidOut (by kernel_rfl) (of_decide_eq_true (by kernel_rfl)) k0 bel lt0) trodAll_mk0), rfl, bel.frame _, fun h => by cases h⟩
theorem over : Rows.entryOwnRow.holds Try.pinned (OpenSpec.ofChange Rows.entryOwnSpec) :=
  OpenClaim.holds_of_wide 9 Try.f9 rfl rfl rfl rfl rfl rfl rfl ⟨rfl, rfl, rfl, rfl, rfl⟩ rfl rfl rfl rfl rfl (by kernel_rfl) Try.func9 (by kernel_rfl)
    (of_decide_eq_true (by kernel_rfl)) (by unfold Func.isWrapper; first | (rw [if_pos (by decide +kernel)]; kernel_rfl) | (rw [if_neg (by decide +kernel)]; exact ⟨rfl, rfl⟩))
    (fun os started H enc _ => lifted os started H enc)
theorem proved : Rows.EntryOwnSaid := over
#print axioms proved
end Go.Proofs.Ythahfhdibhgboaa.entryOwn
namespace Go.Proofs.Ythahfhdibhgboaa
/-- The row, under a short name, for the claim. -/
theorem entryOwn_holds : Rows.EntryOwnSaid := entryOwn.proved
end Go.Proofs.Ythahfhdibhgboaa
