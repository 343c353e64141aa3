/- The law BaseJoins answers true, whatever it is handed (of bulk at most 1048576). -/
import Derived.Test.YtdnfbmminagflaaDoorTie
import Derived.Test.YtdnfbmminagflaaDoorCards
import Derived.Test.YtdnfbmminagflaaDoorbaRan
import Derived.Test.YtdnfbmminagflaaDoorba2
import Derived.Test.YtdnfbmminagflaaDoorDetStart
import Derived.WalkKit
import Derived.ProofKit
import Derived.OpenShut
import Derived.ShutString
import Derived.ChangeOld
import Derived.Below
import Derived.SizedLaws
import Derived.LaidMore
import Derived.Lay
import Derived.SevenTiedAt
import Derived.Stop.Joined
import Derived.Deep.DeepHandedRow
set_option linter.unusedVariables false
set_option linter.unusedSimpArgs false
set_option linter.unusedSectionVars false
namespace Go.Proofs.YtdnfbmminagflaaDoor.baseJoins
open Go Go.ChangeShapes Go.WideShapes Go.ChangeAt Go.RowKit
theorem own : ownKnob Tryd.prog.godebug = none := by kernel_rfl
theorem laidOut : laidOutB Tryd.prog = true := by kernel_rfl

theorem len_le {H : Type} (l : List (DataW H)) : l.length ≤ Rows.uptoBulkAll l := by
  induction l with
  | nil => simp [Rows.uptoBulkAll]
  | cons x r ih =>
    have : 1 ≤ Rows.uptoBulk x := by
      cases x with
      | lit l => cases l <;> simp [Rows.uptoBulk]
      | nil => simp [Rows.uptoBulk]
      | ptr d => simp [Rows.uptoBulk]
      | slice elems spare => simp [Rows.uptoBulk]
      | agg parts => simp [Rows.uptoBulk]
      | iface t d => simp [Rows.uptoBulk]
      | map entries => simp [Rows.uptoBulk]
      | held h => simp [Rows.uptoBulk]
    simp only [Rows.uptoBulkAll, List.length_cons]
    omega

/-- A slice's bytes are no more than the bulk of what it reads as. -/
theorem bytes_le {H : Type} {enc : TypeId × Value → H} {W : World} {base : Nat} {sp : Nat → Bool} {held : Bool} {v : Value} {d : DataW H} {ps : List MemPlace} (h : DataW.Trod enc Tryd.prog W base sp held 22 v d ps)
    {μ : Det.Mu} {hh : Det.H} {x : Det.AV} {l : List UInt8} (hone : v.cells.toList = [v]) (hB : Det.Bs hh x l) (hr : Det.VRel μ x v) : l.length ≤ Rows.uptoBulk d := by
  rcases hB with ⟨rfl, rfl⟩ | ⟨a, c, rfl, _, _⟩
  · simp
  · have hv : ∃ p k, v = .slice p l.length k := by
      cases c with
      | ex c =>
        rcases hr with ⟨rb, _, rfl, _⟩ | ⟨h0, rfl, ad, rfl⟩
        · exact ⟨_, _, rfl⟩
        · rw [h0]; exact ⟨_, _, rfl⟩
      | op e => obtain ⟨rb, o, c, _, rfl, _⟩ := hr; exact ⟨_, _, rfl⟩
    obtain ⟨p, k, rfl⟩ := hv
    obtain ⟨fuel, hg⟩ := h
    rcases DataW.trod_slice Tryd.underlying22 hg with ⟨e1, _⟩ | ⟨a', len, cap, elems, rest, n, _, e1, e2, _, _, _, hlen, _⟩
    · rw [hone] at e1
      simp only [List.cons.injEq, Value.slice.injEq] at e1
      omega
    · rw [hone] at e1
      simp only [List.cons.injEq, Value.slice.injEq] at e1
      have ed : d = .slice (elems.map (·.1)) (rest.map (·.1)) := (Prod.mk.inj e2).1
      rw [ed]
      simp only [Rows.uptoBulk]
      have := len_le (elems.map (·.1))
      rw [List.length_map] at this
      omega

theorem ok (W : World) : Det.FOkAt Tryd.prog W Det.TF := by
  refine Det.tabNat_ok ?_
  intro f g h
  unfold Det.baAll at h
  split at h
  · cases h
    exact ⟨⟨_, Tryd.func15, by kernel_rfl, by kernel_rfl⟩, Det.NatOk.ofT fun W' => Det.closed_true_of (Det.baNats_ok W') (by kernel_rfl) Det.ran15⟩
  · unfold Det.baNats at h
    split at h
    · cases h; exact ⟨⟨_, Tryd.func16, by kernel_rfl, by kernel_rfl⟩, Det.nPut_ok W⟩
    · cases h; exact ⟨⟨_, Tryd.func33, by kernel_rfl, by kernel_rfl⟩, Det.nIndexByte_ok W⟩
    · cases h; exact ⟨⟨_, Tryd.func34, by kernel_rfl, by kernel_rfl⟩, Det.nTrimRight_ok W⟩
    · simp at h

theorem laid_met (os : Os) : laidMet Tryd.prog Rows.baseJoinsUptoRow.laid ((World.laidAll Tryd.prog os Rows.baseJoinsUptoRow.laid).forCall (fun _ _ => 0) ⟨#[], #[.slice none 0 0, .slice none 0 0], []⟩).memory :=
  laidMet_laidAll _ (by kernel_rfl) (by kernel_rfl)
theorem reads (os : Os) {H : Type} (enc : TypeId × Value → H) : ∃ places, DataW.whole enc Tryd.prog ((World.laidAll Tryd.prog os Rows.baseJoinsUptoRow.laid).forCall (fun _ _ => 0) ⟨#[], #[.slice none 0 0, .slice none 0 0], []⟩).memory Tryd.f5.params.toList Rows.baseJoinsSpec.vars false #[Value.slice none 0 0, Value.slice none 0 0].toList 8 = some ([.nil, .nil], [], places) :=
  ⟨[], by kernel_rfl⟩

set_option linter.constructorNameAsVariable false
set_option maxRecDepth 100000 in
set_option maxHeartbeats 2000000 in
theorem lifted (os : Os) (started : os.Started) (H : Type) (enc : TypeId × Value → H) (F : Stop.Interp) :
    ReturnsInHanded {} Tryd.checked os 5 .any ((Rows.OpenSpec.upto Rows.baseJoinsSpec).preRow enc Tryd.prog Tryd.f5 Rows.baseJoinsUptoRow.domain false Rows.baseJoinsUptoRow.laid) (((Rows.OpenSpec.upto Rows.baseJoinsSpec).at F).post enc Tryd.prog Tryd.f5 false true false false) := by
  obtain ⟨places, hx⟩ := reads os enc
  refine returnsInHanded_of_row (C := Tryd.checked) (s := Rows.OpenSpec.upto Rows.baseJoinsSpec) own started (by kernel_rfl) Tryd.func5
    (witness_row_at (enc := enc) (C := Tryd.checked) false (World.laidAll Tryd.prog os Rows.baseJoinsUptoRow.laid) #[.slice none 0 0, .slice none 0 0] (World.laidAll_os _ _ _) (by kernel_rfl) (by kernel_rfl) (by kernel_rfl)
      (OpenSpec.preRow_of_cond 8 hx (by kernel_rfl) (fun k hk => by cases hk; kernel_rfl) (by kernel_rfl) (laid_met os))) ?_
  intro W base args ds gs before hval0 hW hcnd hcond hsz0 hL _ _
  have hval : ∀ (j : Nat) t v, Tryd.f5.params[j]? = some t → args[j]? = some v → Value.okWide Tryd.prog W .any base t v := hval0
  have hsz := hsz0
  have hW' := hW
  have hk : Rows.uptoSmall H (ds ++ gs) = true := hcond _ rfl
  obtain ⟨p, q, hA0, hV, rfl, hfz, hnd⟩ := hW
  have hA : DataW.TrodAll enc Tryd.prog W 0 (fun _ => true) true Tryd.f5.params.toList args.toList ds p := hA0
  rw [Tryd.params5] at hA hval hsz
  obtain ⟨v0, vs0, d0, ds0, p0, q0, hargs, rfl, rfl, h0, r0⟩ := trodAll_cons hA
  obtain ⟨v1, vs1, d1, ds1, p1, q1, rfl, rfl, rfl, h1, r1⟩ := trodAll_cons r0
  obtain ⟨rfl, rfl, rfl⟩ := trodAll_nil r1
  obtain rfl : args = #[v0, v1] := by cases args; simp_all
  obtain ⟨rfl, rfl⟩ := trodVars_none hV
  have k0 := h0
  have lt0 : ∀ x ∈ p0, x.block < W.heap.size := by obtain ⟨m, hm⟩ := k0; exact DataW.trod_lt m _ _ _ hm
  have k1 := h1
  have lt1 : ∀ x ∈ p1, x.block < W.heap.size := by obtain ⟨m, hm⟩ := k1; exact DataW.trod_lt m _ _ _ hm
  obtain ⟨M0, avs0, a0, o0', rel0', kk0', wf0⟩ := Det.Opn.arg (Det.Opn.slice (B := 1) Tryd.underlying22 (by kernel_rfl) (by kernel_rfl) (Det.Opn.int Tryd.underlying5 (by kernel_rfl))) hsz (j := 0) (t := 22) rfl rfl h0 [] (Det.Lays.ok_nil W)
  obtain ⟨L0, hL0⟩ : ∃ L : Det.Lays, L = [] ++ M0 := ⟨_, rfl⟩
  rw [← hL0] at o0' rel0' kk0'
  have o0 := o0'
  obtain ⟨M1, avs1, a1, o1', rel1', kk1', wf1⟩ := Det.Opn.arg (Det.Opn.slice (B := 1) Tryd.underlying22 (by kernel_rfl) (by kernel_rfl) (Det.Opn.int Tryd.underlying5 (by kernel_rfl))) hsz (j := 1) (t := 22) rfl rfl h1 L0 o0
  obtain ⟨L1, hL1⟩ : ∃ L : Det.Lays, L = L0 ++ M1 := ⟨_, rfl⟩
  rw [← hL1] at o1' rel1' kk1'
  have o1 := o1'
  have le0 : Det.Mu.le (Det.Lays.mu L0) (Det.Lays.mu L1) := by rw [hL1]; exact Det.Lays.mu_le _ _
  have ex0 : Det.Ext (Det.Lays.heap L0) (Det.Lays.heap L1) := by rw [hL1]; exact Det.Lays.ext _ _
  have kk0 := (Det.Opn.slice (B := 1) Tryd.underlying22 (by kernel_rfl) (by kernel_rfl) (Det.Opn.int Tryd.underlying5 (by kernel_rfl))).ext ex0 kk0'
  have rel0 := Det.VRels.mono le0 _ _ rel0'
  have one0 := Det.one_cell Tryd.underlying22 (by simp) (hval 0 22 v0 rfl rfl)
  have one1 := Det.one_cell Tryd.underlying22 (by simp) (hval 1 22 v1 rfl rfl)
  obtain ⟨x0, l0, rfl, hB0, hlen0, hcap0⟩ := kk0.bytes wf0.2
  obtain ⟨x1, l1, rfl, hB1, hlen1, hcap1⟩ := kk1'.bytes wf1.2
  have rr0 := Det.rel_one one0 rel0
  have rr1 := Det.rel_one one1 rel1'
  have b0 := bytes_le k0 one0 hB0 rr0
  have b1 := bytes_le k1 one1 hB1 rr1
  have hbulk : Rows.uptoBulkAll ([d0, d1] ++ ([] : List (DataW H))) ≤ 1048576 := of_decide_eq_true hk
  simp only [Rows.uptoBulkAll, List.append_nil] at hbulk
  obtain ⟨r, h', hrun, hv⟩ := Det.joins_run hB0 hB1 (fun a m c e => .inl (hcap0 a m c e)) (fun a m c e => .inl (hcap1 a m c e)) (by omega) (by omega)
  refine (Det.law_true_as (ok W) (by kernel_rfl) o1 (args := [x0, x1]) ⟨_, _, rfl, rr0, _, _, rfl, rr1, rfl⟩ hrun hv).mono fun e W' ⟨he, hd⟩ => ?_
  have bel : Below W.heap.size W W' := hd
  subst he
  exact ⟨_, rfl, _, _, _, [], _, [], hW', trodAll_mk1 (shut_bool Tryd.underlying4 _), (trodAll_cons_mk (Below.trod laidOut (by kernel_rfl) (of_decide_eq_true (by kernel_rfl)) k0 bel lt0) (trodAll_cons_mk (Below.trod laidOut (by kernel_rfl) (of_decide_eq_true (by kernel_rfl)) k1 bel lt1) trodAll_mk0)), rfl, bel.frame _, fun h => by cases h⟩
theorem over : Rows.baseJoinsUptoRow.holds Tryd.pinned (Rows.OpenSpec.upto Rows.baseJoinsSpec) :=
  OpenClaim.holds_of_cond 5 Tryd.f5 rfl rfl rfl rfl rfl rfl rfl ⟨rfl, rfl, rfl, rfl, rfl⟩ rfl rfl rfl rfl rfl (by kernel_rfl) Tryd.func5 (by kernel_rfl)
    (of_decide_eq_true (by kernel_rfl)) (by unfold Func.isWrapper; first | (rw [if_pos (by decide +kernel)]; kernel_rfl) | (rw [if_neg (by decide +kernel)]; exact ⟨rfl, rfl⟩))
    (fun os started H enc _ F => by rw [OpenClaim.pre_eq_preRow]; exact lifted os started H enc F)
theorem proved : Rows.BaseJoinsUptoCardSaid :=
  Claim7.holds_tied_plain_at .later [] _ _ _ _ over (fun _ h => by cases h) (by kernel_rfl) (fun _ h => by cases h) baseJoinsUpto_row_tie rfl ⟨rfl, rfl⟩ (by kernel_rfl) rfl
    (fun f fn hf hfn => by
      obtain rfl : f = 5 := Option.some.inj ((show Tryd.prog.funcNamed "escritoire/escritoirelaw03.BaseJoins" = some 5 by kernel_rfl).symm.trans hf) |>.symm
      obtain rfl : fn = Tryd.f5 := (Option.some.inj (Tryd.func5.symm.trans hfn)).symm
      exact ⟨by kernel_rfl, fun j t ht => by
        rw [Tryd.params5] at ht
        have hm : t ∈ [22, 22] := by simpa using Array.mem_of_getElem? ht
        have hall : ([22, 22].all fun u => !Tryd.prog.wantsStandIn u) = true := by kernel_rfl
        exact (show Tryd.prog.wantsStandIn t = false by simpa using List.all_eq_true.1 hall t hm)⟩)
    (by kernel_rfl)
#print axioms proved
end Go.Proofs.YtdnfbmminagflaaDoor.baseJoins
namespace Go.Proofs.YtdnfbmminagflaaDoor
/-- The card, under a short name, for the claim. -/
theorem baseJoins_holds : Rows.BaseJoinsUptoCardSaid := baseJoins.proved
end Go.Proofs.YtdnfbmminagflaaDoor
