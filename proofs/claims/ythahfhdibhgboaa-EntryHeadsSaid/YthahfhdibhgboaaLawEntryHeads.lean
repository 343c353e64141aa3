/- The law EntryHeads answers true for every two heads' bytes: what the program signs for a head is what the document says. -/
import Derived.Test.YthahfhdibhgboaaRows
import Derived.Test.YthahfhdibhgboaaHeads
import Derived.Test.YthahfhdibhgboaaDetLaw
import Derived.WalkKit
import Derived.ProofKit
import Derived.OpenShut
import Derived.ShutString
import Derived.ChangeOld
import Derived.Below
import Derived.SizedLaws
set_option linter.unusedVariables false
set_option linter.unusedSimpArgs false
set_option linter.unusedSectionVars false
namespace Go.Proofs.Ythahfhdibhgboaa.entryHeads
open Go.ChangeShapes Go.WideShapes Go.ChangeAt Go.RowKit
theorem own : ownKnob Try.prog.godebug = none := by kernel_rfl
theorem laidOut : laidOutB Try.prog = true := by kernel_rfl
set_option maxRecDepth 1000000 in
theorem ran24 : Det.isT ((Det.machK (Det.tabOf Try.prog) 10000).call 24 [] Det.H0) = true := by decide +kernel
set_option maxRecDepth 1000000 in
theorem ran35 : Det.isT ((Det.machK (Det.tabOf Try.prog) 10000).call 35 [] Det.H0) = true := by decide +kernel
set_option maxRecDepth 1000000 in
theorem ran62 : Det.isT ((Det.machK (Det.tabOf Try.prog) 10000).call 62 [] Det.H0) = true := by decide +kernel
theorem ok : Det.FOk Try.prog Det.TF := by
  refine Det.tabWith_ok _ _ ?_
  intro f hf
  have : f = 24 ∨ f = 35 ∨ f = 62 := by simpa using hf
  rcases this with rfl | rfl | rfl
  · exact ⟨Try.f24, Try.func24, by kernel_rfl, by kernel_rfl, fun W => Det.closed_true (Det.tabOf_ok _) (by kernel_rfl) (by kernel_rfl) ran24 W⟩
  · exact ⟨Try.f35, Try.func35, by kernel_rfl, by kernel_rfl, fun W => Det.closed_true (Det.tabOf_ok _) (by kernel_rfl) (by kernel_rfl) ran35 W⟩
  · exact ⟨Try.f62, Try.func62, by kernel_rfl, by kernel_rfl, fun W => Det.closed_true (Det.tabOf_ok _) (by kernel_rfl) (by kernel_rfl) ran62 W⟩
set_option linter.constructorNameAsVariable false
set_option maxRecDepth 100000 in
theorem calls {W0 : World} {r : Reach} {b : Nat} {v : Value} (hv : Value.okWide Try.prog W0 r b 65 v) (W : World) : Calls Try.prog 8 #[v] W (fun e W' => e = .returned (.bool true) ∧ Below W.heap.size W W') := by
  simp only [Value.okWide, Try.underlying65] at hv
  obtain ⟨cs, rfl, hsz, ts, hts, _, hcell⟩ := hv
  have h98 : cs.size = 98 := hsz.trans (by kernel_rfl)
  have hts2 : Try.prog.cellTypes Try.prog.depth 65 = some (23 :: 23 :: List.replicate 96 5) := by kernel_rfl
  rw [hts2] at hts
  cases hts
  have hlen : cs.toList.length = 98 := by simpa using h98
  obtain ⟨x0, x1, rest, hl⟩ : ∃ x0 x1 rest, cs.toList = x0 :: x1 :: rest := by
    match h : cs.toList, hlen with
    | x0 :: x1 :: rest, _ => exact ⟨x0, x1, rest, rfl⟩
  have hget : ∀ i v, (x0 :: x1 :: rest)[i]? = some v → ∃ u, (23 :: 23 :: List.replicate 96 5)[i % 98]? = some u ∧ Cell.okWide Try.prog W0 r b u v := by
    intro i v hi
    exact hcell i v (by rw [← hi, ← hl]; simp)
  have hr96 : rest.length = 96 := by rw [hl] at hlen; simpa using hlen
  obtain ⟨u0, e0, c0⟩ := hget 0 x0 rfl
  obtain ⟨u1, e1, c1⟩ := hget 1 x1 rfl
  obtain rfl : 23 = u0 := by simpa using e0
  obtain rfl : 23 = u1 := by simpa using e1
  obtain ⟨s, rfl, hs⟩ := Det.cell_int Try.underlying23 c0
  obtain ⟨t, rfl, ht⟩ := Det.cell_int Try.underlying23 c1
  have hb : ∀ v ∈ rest, ∃ n, v = .int .u8 n ∧ IntKind.u8.has n := by
    intro v hv
    obtain ⟨i, hi⟩ := List.getElem?_of_mem hv
    have hlt : i < 96 := by rw [← hr96]; exact (List.getElem?_eq_some_iff.1 hi).1
    obtain ⟨u, e, c⟩ := hget (i + 2) v (by simpa using hi)
    have hm : (i + 2) % 98 = i + 2 := Nat.mod_eq_of_lt (by omega)
    rw [hm] at e
    obtain rfl : 5 = u := by
      have : (List.replicate 96 5)[i]? = some u := by simpa using e
      rw [List.getElem?_replicate, if_pos hlt] at this
      exact Option.some.inj this
    exact Det.cell_int Try.underlying5 c
  obtain ⟨R, hR, hRl⟩ := Det.rels_bytes (μ := Det.Mu0) (rest.take 32) (fun v hv => hb v (List.mem_of_mem_take hv))
  obtain ⟨G, hG, hGl⟩ := Det.rels_bytes (μ := Det.Mu0) (rest.drop 32) (fun v hv => hb v (List.mem_of_mem_drop hv))
  have hs' : 0 ≤ s ∧ s < 2 ^ 64 := by have : 0 ≤ s ∧ s ≤ 18446744073709551615 := by simpa [IntKind.has, IntKind.min, IntKind.max, IntKind.bits, IntKind.signed] using hs
                                      omega
  have ht' : 0 ≤ t ∧ t < 2 ^ 64 := by have : 0 ≤ t ∧ t ≤ 18446744073709551615 := by simpa [IntKind.has, IntKind.min, IntKind.max, IntKind.bits, IntKind.signed] using ht
                                      omega
  obtain ⟨s, rfl⟩ : ∃ m : Nat, s = m := ⟨s.toNat, by omega⟩
  obtain ⟨t, rfl⟩ : ∃ m : Nat, t = m := ⟨t.toNat, by omega⟩
  obtain ⟨v, h', hrun, hv, _⟩ := Det.law_heads (t := t) (s := s) (by omega) (by omega) (r := R) (by rw [hRl]; simp [hr96]) (g := Det.bytesAV G) (by rw [Det.bytes_len, hGl]; simp [hr96])
    (fun x hx => List.all_eq_true.1 (Det.bytes_one G) x hx) Det.H0
  refine Det.law_true ok (by kernel_rfl) (by kernel_rfl) ?_ hrun hv W
  refine ⟨_, _, rfl, ⟨cs, rfl, ?_⟩, rfl⟩
  rw [hl, ← List.take_append_drop 32 rest]
  exact ⟨_, _, rfl, rfl, _, _, rfl, rfl, hR.append hG⟩
set_option maxRecDepth 100000 in
set_option maxHeartbeats 2000000 in
theorem lifted (os : Os) (started : os.Started) (H : Type) (enc : TypeId × Value → H) :
    ReturnsInHanded {} Try.checked os 8 .any (Rows.entryHeadsSpec.pre6 enc Try.prog Try.f8 Rows.entryHeadsRow.domain false) (Rows.entryHeadsSpec.post enc Try.prog Try.f8 false true false false) := by
  refine returnsInHanded_of_change_sized (C := Try.checked) own started (by kernel_rfl) Try.func8
    (ChangeSpec.witness6 (enc := enc) (C := Try.checked) false ⟨#[], #[.agg ((List.replicate 2 (Value.int .u64 0) ++ List.replicate 96 (Value.int .u8 0)).toArray)], []⟩ 8 (by kernel_rfl) (by kernel_rfl) (by kernel_rfl) (by kernel_rfl)) ?_
  intro W base args ds gs before hval0 hW hcnd hsz0 _
  have hval : ∀ (j : Nat) t v, Try.f8.params[j]? = some t → args[j]? = some v → Value.okWide Try.prog W .any base t v := hval0
  have hW' := hW
  obtain ⟨p, q, hA0, hV, rfl, hfz, hnd⟩ := hW
  have hA : DataW.TrodAll enc Try.prog W 0 (fun _ => true) true Try.f8.params.toList args.toList ds p := hA0
  rw [Try.params8] at hA hval
  obtain ⟨v0, vs0, d0, ds0, p0, q0, hargs, rfl, rfl, h0, r0⟩ := trodAll_cons hA
  obtain ⟨rfl, rfl, rfl⟩ := trodAll_nil r0
  obtain rfl : args = #[v0] := by cases args; simp_all
  obtain ⟨rfl, rfl⟩ := trodVars_none hV
  have k0 := h0
  have lt0 : ∀ x ∈ p0, x.block < W.heap.size := by obtain ⟨m, hm⟩ := k0; exact DataW.trod_lt m _ _ _ hm
  refine (calls (hval 0 65 v0 rfl rfl) W).mono fun e W' ⟨he, hd⟩ => ?_
  have bel : Below W.heap.size W W' := hd
  subst he
  exact ⟨_, rfl, _, _, _, [], _, [], hW', trodAll_mk1 (shut_bool Try.underlying4 _), (trodAll_cons_mk (Below.trod laidOut (by kernel_rfl) (of_decide_eq_true (by kernel_rfl)) k0 bel lt0) trodAll_mk0), rfl, bel.frame _, fun h => by cases h⟩
theorem over : Rows.entryHeadsRow.holds Try.pinned (OpenSpec.ofChange Rows.entryHeadsSpec) :=
  OpenClaim.holds_of_wide 8 Try.f8 rfl rfl rfl rfl rfl rfl rfl ⟨rfl, rfl, rfl, rfl, rfl⟩ rfl rfl rfl rfl rfl (by kernel_rfl) Try.func8 (by kernel_rfl)
    (of_decide_eq_true (by kernel_rfl)) (by unfold Func.isWrapper; first | (rw [if_pos (by decide +kernel)]; kernel_rfl) | (rw [if_neg (by decide +kernel)]; exact ⟨rfl, rfl⟩))
    (fun os started H enc _ => lifted os started H enc)
theorem proved : Rows.EntryHeadsSaid := over
#print axioms proved
end Go.Proofs.Ythahfhdibhgboaa.entryHeads
namespace Go.Proofs.Ythahfhdibhgboaa
/-- The row, under a short name, for the claim. -/
theorem entryHeads_holds : Rows.EntryHeadsSaid := entryHeads.proved
end Go.Proofs.Ythahfhdibhgboaa
