/- The law BaseTakes answers true, whatever it is handed (of bulk at most 1048576). -/
import Derived.Test.YtdnfbmminagflaaDoorTie
import Derived.Test.YtdnfbmminagflaaDoorCards
import Derived.Test.YtdnfbmminagflaaDoorbaRan
import Derived.Test.YtdnfbmminagflaaDoorba10
import Derived.Test.YtdnfbmminagflaaDoorDetStart
import Derived.WalkKit
import Derived.ProofKit
import Derived.OpenShut
import Derived.ShutString
import Derived.ChangeOld
import Derived.Below
import Derived.SizedLaws
import Derived.LaidMore
import Derived.Lay
import Derived.SevenTiedAt
import Derived.Stop.Joined
import Derived.Deep.DeepHandedRow
set_option linter.unusedVariables false
set_option linter.unusedSimpArgs false
set_option linter.unusedSectionVars false
namespace Go.Proofs.YtdnfbmminagflaaDoor.baseTakes
open Go Go.ChangeShapes Go.WideShapes Go.ChangeAt Go.RowKit
theorem own : ownKnob Tryd.prog.godebug = none := by kernel_rfl
theorem laidOut : laidOutB Tryd.prog = true := by kernel_rfl
theorem len_le {H : Type} (l : List (DataW H)) : l.length ≤ Rows.uptoBulkAll l := by
  induction l with
  | nil => simp [Rows.uptoBulkAll]
  | cons x r ih =>
    have : 1 ≤ Rows.uptoBulk x := by
      cases x with
      | lit l => cases l <;> simp [Rows.uptoBulk]
      | nil => simp [Rows.uptoBulk]
      | ptr d => simp [Rows.uptoBulk]
      | slice elems spare => simp [Rows.uptoBulk]
      | agg parts => simp [Rows.uptoBulk]
      | iface t d => simp [Rows.uptoBulk]
      | held h => simp [Rows.uptoBulk]
      | map entries => simp [Rows.uptoBulk]
    simp only [Rows.uptoBulkAll, List.length_cons]
    omega
/-- A slice's elements are no more than the bulk of what it reads as. -/
theorem slice_le {H : Type} {enc : TypeId × Value → H} {W : World} {base t e : Nat} {sp : Nat → Bool} {held : Bool} {a : Option Addr} {len cap : Nat} {d : DataW H} {ps : List MemPlace} (ht : Tryd.prog.underlying t = some (.slice e)) (h : DataW.Trod enc Tryd.prog W base sp held t (.slice a len cap) d ps)
    (hone : (Value.slice a len cap).cells.toList = [.slice a len cap]) : len ≤ Rows.uptoBulk d := by
  obtain ⟨fuel, hg⟩ := h
  rcases DataW.trod_slice ht hg with ⟨e1, _⟩ | ⟨a', len', cap', elems, rest, n, _, e1, e2, _, _, _, hlen, _⟩
  · rw [hone] at e1
    simp only [List.cons.injEq, Value.slice.injEq] at e1
    omega
  · rw [hone] at e1
    simp only [List.cons.injEq, Value.slice.injEq] at e1
    have ed : d = .slice (elems.map (·.1)) (rest.map (·.1)) := (Prod.mk.inj e2).1
    rw [ed]
    simp only [Rows.uptoBulk]
    have := len_le (elems.map (·.1))
    rw [List.length_map] at this
    omega
theorem bytes_le {H : Type} {enc : TypeId × Value → H} {W : World} {base t e : Nat} {sp : Nat → Bool} {held : Bool} {v : Value} {d : DataW H} {ps : List MemPlace} (ht : Tryd.prog.underlying t = some (.slice e)) (h : DataW.Trod enc Tryd.prog W base sp held t v d ps)
    {μ : Det.Mu} {hh : Det.H} {x : Det.AV} {l : List UInt8} (hB : Det.Bs hh x l) (hr : Det.VRel μ x v) : l.length ≤ Rows.uptoBulk d := by
  rcases hB with ⟨rfl, rfl⟩ | ⟨a, c, rfl, _, _⟩
  · simp
  · have hv : ∃ p k, v = .slice p l.length k := by
      cases c with
      | ex c =>
        rcases hr with ⟨rb, _, rfl, _⟩ | ⟨h0, rfl, ad, rfl⟩
        · exact ⟨_, _, rfl⟩
        · rw [h0]; exact ⟨_, _, rfl⟩
      | op e => obtain ⟨rb, o, c, _, rfl, _⟩ := hr; exact ⟨_, _, rfl⟩
    obtain ⟨p, k, rfl⟩ := hv
    exact slice_le ht h rfl
theorem str_le {H : Type} {enc : TypeId × Value → H} {W : World} {base t : Nat} {sp : Nat → Bool} {held : Bool} {v : Value} {d : DataW H} {ps : List MemPlace} (ht : Tryd.prog.underlying t = some .string) (h : DataW.Trod enc Tryd.prog W base sp held t v d ps)
    {μ : Det.Mu} {l : List UInt8} (hone : v.cells.toList = [v]) (hr : Det.VRel μ (.str l) v) : l.length ≤ Rows.uptoBulk d := by
  obtain ⟨fuel, hg⟩ := h
  obtain ⟨s, e1, e2, _⟩ := DataW.trod_string ht hg
  rw [hone] at e1
  simp only [List.cons.injEq, and_true] at e1
  subst e1
  have hr : Value.string s = .string ⟨l.toArray⟩ := hr
  simp only [Value.string.injEq] at hr
  have ed : d = .lit (.string s.data.toList) := (Prod.mk.inj e2).1
  rw [ed]
  subst hr
  simp [Rows.uptoBulk]
theorem ok (W : World) : Det.FOkAt Tryd.prog W Det.TF := Det.tab_ok W
theorem laid_met (os : Os) : laidMet Tryd.prog Rows.baseTakesUptoRow.laid ((World.laidAll Tryd.prog os Rows.baseTakesUptoRow.laid).forCall (fun _ _ => 0) ⟨#[], #[.string ⟨#[]⟩], []⟩).memory :=
  laidMet_laidAll _ (by kernel_rfl) (by kernel_rfl)
theorem reads (os : Os) {H : Type} (enc : TypeId × Value → H) : ∃ places, DataW.whole enc Tryd.prog ((World.laidAll Tryd.prog os Rows.baseTakesUptoRow.laid).forCall (fun _ _ => 0) ⟨#[], #[.string ⟨#[]⟩], []⟩).memory Tryd.f3.params.toList Rows.baseTakesSpec.vars false #[.string ⟨#[]⟩].toList 16 = some ([.lit (.string [])], [], places) ∧ Rows.uptoSmall H ([.lit (.string [])] ++ []) = true :=
  ⟨[], by kernel_rfl, by kernel_rfl⟩
set_option linter.constructorNameAsVariable false
set_option maxRecDepth 100000 in
set_option maxHeartbeats 2000000 in
theorem lifted (os : Os) (started : os.Started) (H : Type) (enc : TypeId × Value → H) (I : Stop.Interp) :
    ReturnsInHanded {} Tryd.checked os 3 .any ((Rows.OpenSpec.upto Rows.baseTakesSpec).preRow enc Tryd.prog Tryd.f3 Rows.baseTakesUptoRow.domain false Rows.baseTakesUptoRow.laid) (((Rows.OpenSpec.upto Rows.baseTakesSpec).at I).post enc Tryd.prog Tryd.f3 false true false false) := by
  obtain ⟨places, hx, hxs⟩ := reads os enc
  refine returnsInHanded_of_row (C := Tryd.checked) (s := Rows.OpenSpec.upto Rows.baseTakesSpec) own started (by kernel_rfl) Tryd.func3
    (witness_row_at (enc := enc) (C := Tryd.checked) false (World.laidAll Tryd.prog os Rows.baseTakesUptoRow.laid) #[.string ⟨#[]⟩] (World.laidAll_os _ _ _) (by kernel_rfl) (by kernel_rfl) (by kernel_rfl)
      (OpenSpec.preRow_of_cond 16 hx (by kernel_rfl) (fun k hk => by cases hk; exact hxs) (by kernel_rfl) (laid_met os))) ?_
  intro W base args ds gs before hval0 hW hcnd hcond hsz0 hL _ _
  have hval : ∀ (j : Nat) t v, Tryd.f3.params[j]? = some t → args[j]? = some v → Value.okWide Tryd.prog W .any base t v := hval0
  have hsz := hsz0
  have hW' := hW
  have hk : Rows.uptoSmall H (ds ++ gs) = true := hcond _ rfl
  obtain ⟨p, q, hA0, hV, rfl, hfz, hnd⟩ := hW
  have hA : DataW.TrodAll enc Tryd.prog W 0 (fun _ => true) true Tryd.f3.params.toList args.toList ds p := hA0
  rw [Tryd.params3] at hA hval hsz
  obtain ⟨v0, vs0, d0, ds0, p0, q0, hargs, rfl, rfl, h0, r0⟩ := trodAll_cons hA
  obtain ⟨rfl, rfl, rfl⟩ := trodAll_nil r0
  obtain rfl : args = #[v0] := by cases args; simp_all
  obtain ⟨rfl, rfl⟩ := trodVars_none hV
  have k0 := h0
  have lt0 : ∀ x ∈ p0, x.block < W.heap.size := by obtain ⟨m, hm⟩ := k0; exact DataW.trod_lt m _ _ _ hm
  obtain ⟨M0, avs0, a0, o0', rel0', kk0', wf0⟩ := Det.Opn.arg (Det.Opn.string Tryd.underlying9 (by kernel_rfl)) hsz (j := 0) (t := 9) rfl rfl h0 [] (Det.Lays.ok_nil W)
  obtain ⟨L0, hL0⟩ : ∃ L : Det.Lays, L = [] ++ M0 := ⟨_, rfl⟩
  rw [← hL0] at o0' rel0' kk0'
  have o0 := o0'
  have kk0 := kk0'
  have rel0 := rel0'
  have one0 := Det.one_cell Tryd.underlying9 (by simp) (hval 0 9 v0 rfl rfl)
  obtain rfl : avs0 = [.str a0] := kk0
  have rr0 := Det.rel_one one0 rel0
  have b0 := str_le Tryd.underlying9 k0 one0 rr0
  have hbulk : Rows.uptoBulkAll ([d0] ++ ([] : List (DataW H))) ≤ 1048576 := of_decide_eq_true hk
  simp only [Rows.uptoBulkAll, List.append_nil] at hbulk
  have hreach : reachBytes = 140737488351232 := rfl
  obtain ⟨r, h', hrun, hv⟩ := Det.takes_run (h := Det.Lays.heap L0) (s := a0) (by omega)
  refine (Det.law_true_as (ok W) (by kernel_rfl) o0 (args := [.str a0]) ⟨_, _, rfl, rr0, rfl⟩ hrun hv).mono fun e W' ⟨he, hd⟩ => ?_
  have bel : Below W.heap.size W W' := hd
  subst he
  exact ⟨_, rfl, _, _, _, [], _, [], hW', trodAll_mk1 (shut_bool Tryd.underlying4 _), (trodAll_cons_mk (Below.trod laidOut (by kernel_rfl) (of_decide_eq_true (by kernel_rfl)) k0 bel lt0) trodAll_mk0), rfl, bel.frame _, fun h => by cases h⟩
theorem over : Rows.baseTakesUptoRow.holds Tryd.pinned (Rows.OpenSpec.upto Rows.baseTakesSpec) :=
  OpenClaim.holds_of_cond 3 Tryd.f3 rfl rfl rfl rfl rfl rfl rfl ⟨rfl, rfl, rfl, rfl, rfl⟩ rfl rfl rfl rfl rfl (by kernel_rfl) Tryd.func3 (by kernel_rfl)
    (of_decide_eq_true (by kernel_rfl)) (by unfold Func.isWrapper; first | (rw [if_pos (by decide +kernel)]; kernel_rfl) | (rw [if_neg (by decide +kernel)]; exact ⟨rfl, rfl⟩))
    (fun os started H enc _ I => by rw [OpenClaim.pre_eq_preRow]; exact lifted os started H enc I)
theorem proved : Rows.BaseTakesUptoCardSaid :=
  Claim7.holds_tied_plain_at .later [] _ _ _ _ over (fun _ h => by cases h) (by kernel_rfl) (fun _ h => by cases h) baseTakesUpto_row_tie rfl ⟨rfl, rfl⟩ (by kernel_rfl) rfl
    (fun f fn hf hfn => by
      obtain rfl : f = 3 := Option.some.inj ((show Tryd.prog.funcNamed "escritoire/escritoirelaw03.BaseTakes" = some 3 by kernel_rfl).symm.trans hf) |>.symm
      obtain rfl : fn = Tryd.f3 := (Option.some.inj (Tryd.func3.symm.trans hfn)).symm
      exact ⟨by kernel_rfl, fun j t ht => by
        rw [Tryd.params3] at ht
        have hm : t ∈ [9] := by simpa using Array.mem_of_getElem? ht
        have hall : ([9].all fun u => !Tryd.prog.wantsStandIn u) = true := by kernel_rfl
        exact (show Tryd.prog.wantsStandIn t = false by simpa using List.all_eq_true.1 hall t hm)⟩)
    (by kernel_rfl)
#print axioms proved
end Go.Proofs.YtdnfbmminagflaaDoor.baseTakes
namespace Go.Proofs.YtdnfbmminagflaaDoor
/-- The card, under a short name, for the claim. -/
theorem baseTakes_holds : Rows.BaseTakesUptoCardSaid := baseTakes.proved
end Go.Proofs.YtdnfbmminagflaaDoor
