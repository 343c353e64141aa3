-- Laid by a program of this session (pr.py: the kit's printer over stubs of its own); Lean checks it.
import Derived.Test.YtgjidpcddnapmaaCx0
namespace Go.Proofs.Ytgjidpcddnapmaa.C
open Go.RowKit Go.Proofs.YtgjidpcddnapmaaW.PrintWords Go.Proofs.YtgjidpcddnapmaaW.PrintLast Go.Proofs.YtgjidpcddnapmaaW.PrintMore
attribute [local go_sem] Instr.field asAgg max2_int min2_int max_two min_two max_three min_three max_four min_four   -- for this text's walks alone
set_option linter.unusedVariables false
set_option linter.unusedSimpArgs false

/-! ### chain_own: function 25 -/
-- STUB: by hand
def chain_own.f (l0 : List Int) : Option (List Int) := if l0.length < 140737488355328 then some l0 else none
theorem chain_own.calls (A0 : Option Addr) (c0 : Nat) (l0 : List Int) (r : List Int) (w : World) (hr0 : Kd.C (Kd.int .u8) w A0 l0.length l0) (hc0 : l0.length ≤ c0) (h : chain_own.f l0 = some r) :
 Calls Try.prog 25 #[.slice A0 l0.length c0] w fun e w' => ∃ v0_ : Value, e = .returned (v0_) ∧ Kd.R (Kd.int .u8) 5 w' w.heap.size (fun _ => True) v0_ r ∧ Below w.heap.size w w' := by
 replace h : (if l0.length < 140737488355328 then some l0 else none) = some r := h
 by_cases hl : l0.length < 140737488355328
 · rw [if_pos hl] at h
   obtain rfl := Option.some.inj h
   have HR0 := Aside0.mk hr0
   clear h hr0
   have HB := Aside0.mk (Below.refl w.heap.size w)
   obtain ⟨X, hX⟩ : ∃ X, X = nums .u8 l0 := ⟨_, rfl⟩
   have HX := Aside0.mk hX
   have hXl : X.length = l0.length := by rw [hX]; simp [nums]
   have HXl := Aside0.mk hXl
   clear hX hXl
   go_enter Try.func25, Try.ntmps25
   go_wp2_with (first | ((with_reducible refine gate_dst (N := 6) rfl ?_); refine Kd.R_make (Kd.int .u8) _ 5 rfl (N := 6) rfl 22 _ _ rfl l0.length rfl rfl Try.underlying22 (.int .u8 0) 1 info5 rfl (by decide) (by omega) 0 (ok := fun _ => True) (okp := fun _ => True) rfl (fun _ hk => hk) trivial (by omega) (by omega) (Below.refl _ _) (Nat.le_refl _) ?_; intro v w1 ho hb hg hn; obtain ⟨g, cap, cur, rfl, hg1, _, hh, k1, k2, k3, k4⟩ := Mine.R_block ho (hn.imp fun _ h => h.1); have n0_ := Aside0.mk hb; have n1_ := Aside0.mk hg1; have n2_ := Aside0.mk hh; have n3_ := Aside0.mk k1; have n4_ := Aside0.mk k2; have n5_ := Aside0.mk k3; clear ho hb hg hn hg1 hh k1 k2 k3 k4) | (with_reducible refine wpList_copy_splice rfl (.tmp 7) (.tmp 8) 22 22 rfl 5 Try.underlying22 (by kernel_rfl) _ _ _ _ _ _ rfl rfl g 0 cur 5 ?b1 X ?b2 ?b3 ?b4 ?b5 w.heap.size w ?b6 ?b7 ?b8; (case b1 => exact n2_.out); (case b2 => rw [HXl.out]; exact (Nat.min_self _).symm); (case b3 => exact fun hp => (by obtain ⟨ad, e, hc⟩ := Mine.C_cells HR0.out (by rw [← HXl.out]; exact hp); exact ⟨rfl, ad, e, fun j v hv => pw_cell_below n0_.out (hc j v (by rw [← HX.out]; exact hv))⟩)); (case b4 => have h3 := n3_.out; have h5 := n5_.out; have hx := HXl.out; rw [List.length_replicate, Int.toNat_natCast] at h3; omega); (case b5 => rw [HX.out]; exact Mine.nums_one _ _); (case b6 => exact n0_.out); (case b7 => exact n1_.out); intro w2 hG hb2; have n6_ := Aside0.mk hb2; clear hb2))
   go_ret
   have h3 := n3_.out
   have h5 := n5_.out
   have hx := HXl.out
   rw [List.length_replicate, Int.toNat_natCast] at h3
   exact ⟨_, rfl, Mine.R_of_block (cur := splice cur 0 X) n1_.out trivial hG.out h3 n4_.out (by rw [length_splice _ _ _ (by omega), h5]) (by rw [← HX.out, ← hx]; simp [splice]), n6_.out⟩
 · rw [if_neg hl] at h
   exact absurd h (by simp)

end Go.Proofs.Ytgjidpcddnapmaa.C
