-- Laid by a program of this session (pr.py: the kit's printer over stubs of its own); Lean checks it.
import Derived.Test.YtgjidpcddnapmaaCx0
import Derived.Test.YtgjidpcddnapmaaCx13
namespace Go.Proofs.Ytgjidpcddnapmaa.C
open Go.RowKit Go.Proofs.YtgjidpcddnapmaaW.PrintWords Go.Proofs.YtgjidpcddnapmaaW.PrintLast Go.Proofs.YtgjidpcddnapmaaW.PrintMore
attribute [local go_sem] Instr.field asAgg max2_int min2_int max_two min_two max_three min_three max_four min_four   -- for this text's walks alone
set_option linter.unusedVariables false
set_option linter.unusedSimpArgs false

/-! ### escritoirelaw22_config: function 17 -/
-- STUB: by hand
def escritoirelaw22_config.f (k : Nat) (a0 : ByteArray) : Option (List Int × (List (List Int)) × Int × Int × Int) := (escritoirelaw22_list.f k a0).bind fun t => some ([107], t, 1, 1, 1)
theorem escritoirelaw22_config.mono : ∀ a0 k, LeO (escritoirelaw22_config.f k a0) (escritoirelaw22_config.f (k + 1) a0) := by
 intro a0 k
 unfold escritoirelaw22_config.f
 exact LeO.bind (escritoirelaw22_list.mono _ _) (fun _ => LeO.refl _)
theorem escritoirelaw22_config.calls (k : Nat) (a0 : ByteArray) (r1 : List Int) (r2 : List (List Int)) (r3 : Int) (r4 : Int) (r5 : Int) (w : World) (h : escritoirelaw22_config.f k a0 = some (r1, r2, r3, r4, r5)) :
 Calls Try.prog 17 #[.string a0] w fun e w' => ∃ v0_ v1_ : Value, e = .returned (.agg #[v0_, v1_, .int .i64 r3, .int .i64 r4, .int .i64 r5]) ∧ Kd.V (Kd.int .u8) 5 w' w.heap.size (fun k_ => w.heap.size ≤ k_ ∧ some k_ ≠ (v1_ : Value).ownBlock) v0_ r1 ∧ Kd.S (Kd.slice 5 (Kd.int .u8)) 22 w' w.heap.size (fun k_ => w.heap.size ≤ k_) v1_ r2 ∧ Below w.heap.size w w' := by
 obtain ⟨t, ht, he⟩ := Option.bind_eq_some_iff.mp h
 simp only [Option.some.injEq, Prod.mk.injEq] at he
 obtain ⟨rfl, rfl, rfl, rfl, rfl⟩ := he
 have HT := Aside0.mk ht
 clear ht h
 have kc := fun (w : World) (o : Obj) (C : Array Value) (n c : Nat) => Mine.conv_const_at (P := Try.prog) (w.alloc o) 22 5 C n c (w.heap.size + 1) (by simp) Try.underlying22 Try.underlying5
 have hu25 := Try.underlying25
 go_enter Try.func17, Try.ntmps17
 go_wp2_with (go_at_call 18; ((with_reducible refine (escritoirelaw22_list.calls k _ _ _ HT.out).mono ?_); rintro e w2 ⟨v1, rfl, hs, hb⟩; have BK := Aside0.mk (show w2.heap[w.heap.size]? = some (.cells #[.slice none 0 0, .slice none 0 0, .int .i64 0, .int .i64 0, .int .i64 0] 25 (0, 0)) from (hb.block _ (by rw [Mine.alloc_size, Mine.alloc_size]; omega)).trans ((Mine.alloc_old _ _ (by rw [Mine.alloc_size]; omega)).trans (Mine.alloc_here _ _))); have BY := Aside0.mk (show w2.heap[w.heap.size + 1]? = some (.cells (nums .u8 [107]).toArray 5 (1, 2)) from (hb.block _ (by rw [Mine.alloc_size, Mine.alloc_size]; omega)).trans (by rw [← Mine.alloc_size w _]; exact Mine.alloc_here _ _)); have HS := Aside0.mk (Kd.S_lower hs (show w.heap.size + 2 ≤ _ by rw [Mine.alloc_size, Mine.alloc_size]; exact Nat.le_refl _)); have HB := Aside0.mk (show Below w.heap.size w w2 from below_step (below_alloc (below_alloc (Below.refl _ _) _) _) hb); clear hs hb; obtain ⟨A1, c1, e1⟩ := Kd.S_slice HS.out; subst e1; have hcz0 : w2.cell? ⟨w.heap.size, 0, none⟩ = some (.slice none 0 0) := (blk_cell BK.out 0).trans rfl; have hfz0 := blk_frozen BK.out 0; have hcz1 : w2.cell? ⟨w.heap.size, 1, none⟩ = some (.slice none 0 0) := (blk_cell BK.out 1).trans rfl; have hfz1 := blk_frozen BK.out 1; have hcz2 : w2.cell? ⟨w.heap.size, 2, none⟩ = some (.int .i64 0) := (blk_cell BK.out 2).trans rfl; have hfz2 := blk_frozen BK.out 2; have hcz3 : w2.cell? ⟨w.heap.size, 3, none⟩ = some (.int .i64 0) := (blk_cell BK.out 3).trans rfl; have hfz3 := blk_frozen BK.out 3; have hcz4 : w2.cell? ⟨w.heap.size, 4, none⟩ = some (.int .i64 0) := (blk_cell BK.out 4).trans rfl; have hfz4 := blk_frozen BK.out 4))
 refine bodyPost_ret (results_cell_row rfl _ _ w.heap.size 25 #[.slice (some ⟨w.heap.size + 1, 0, none⟩) 1 1, .slice A1 t.length c1, .int .i64 1, .int .i64 1, .int .i64 1] (0, 0) _ rfl (by refine blk_put (cs := #[.slice (some ⟨w.heap.size + 1, 0, none⟩) 1 1, .slice A1 t.length c1, .int .i64 1, .int .i64 1, .int .i64 0]) ?_ 4 _ rfl; refine blk_put (cs := #[.slice (some ⟨w.heap.size + 1, 0, none⟩) 1 1, .slice A1 t.length c1, .int .i64 1, .int .i64 0, .int .i64 0]) ?_ 3 _ rfl; refine blk_put (cs := #[.slice (some ⟨w.heap.size + 1, 0, none⟩) 1 1, .slice A1 t.length c1, .int .i64 0, .int .i64 0, .int .i64 0]) ?_ 2 _ rfl; refine blk_put (cs := #[.slice (some ⟨w.heap.size + 1, 0, none⟩) 1 1, .slice none 0 0, .int .i64 0, .int .i64 0, .int .i64 0]) ?_ 1 _ rfl; refine blk_put (cs := #[.slice none 0 0, .slice none 0 0, .int .i64 0, .int .i64 0, .int .i64 0]) ?_ 0 _ rfl; exact BK.out) Try.underlying25 rfl (by kernel_rfl)) rfl ?_
 have HS2 := Kd.S_mono (ok' := fun k_ => w.heap.size + 2 ≤ k_) (Kd.S_bound HS.out) (fun k_ hk => hk.2.1)
 refine ⟨_, _, rfl, Mine.V_const (xs := [107]) (c := 1) (fr := (1, 2)) (t := 5) ?_ (Nat.le_refl _) ⟨Nat.le_succ _, fun e => ?_⟩ (by decide), ?_, ?_⟩
 · repeat (rw [Below.heap_setCell _ _ _ _ (show w.heap.size + 1 ≠ w.heap.size by omega)])
   exact BY.out
 · have := Kd.S_base HS.out _ e.symm
   omega
 · refine Kd.S_lower (Kd.S_mono (ok := fun k_ => w.heap.size + 2 ≤ k_) ?_ (fun k_ hk => by omega)) (Nat.le_add_right _ 2)
   repeat (refine Kd.S_far ?_ (fun k_ hk => by show k_ ≠ w.heap.size; omega) _)
   exact HS2
 · repeat (refine below_set ?_ (Nat.le_refl _))
   exact HB.out

end Go.Proofs.Ytgjidpcddnapmaa.C
