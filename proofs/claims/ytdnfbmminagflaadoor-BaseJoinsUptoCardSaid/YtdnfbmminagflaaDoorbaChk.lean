/- base.Put: what it answers (the iterator's contract, the round, the call). -/
import Derived.RangeFuncNested
import Derived.RangeFuncBound
import Derived.RangeFuncCalls
import Derived.RangeFuncLeaves
import Derived.RangeFuncWrites
import Derived.Shelf.Abstract
import Derived.Shelf.AbstractIn
import Derived.Shelf.RegionOpen
import Derived.WalkKit
import Derived.OwnWalkIn
import Derived.TacticsInMore
import Derived.LoopNIn
import Derived.LoopIn
import Derived.Lib.Builder
import Derived.Shelf.Strings.BuilderK
import Derived.Test.YtdnfbmminagflaaDoorProg
set_option linter.unusedVariables false
namespace Go.Proofs
open Go.RowKit Go.Shelf
attribute [local go_sem] Oper.semAt_some

namespace Ba
set_option maxHeartbeats 1000000 in
theorem chunk_in (F : Fence) (n : Nat) (h36 : F.fn 36) (hro : F.round = none) (p : Option Addr) (len cap : Nat) (w : World) :
    CallsIn F n Tryd.prog 36 #[.slice p len cap, .int .i64 3] w fun e w' => e = .returned (.func (.func 59) #[] #[.pointer (some ⟨w.heap.size, 0, none⟩), .pointer (some ⟨w.heap.size + 1, 0, none⟩)]) ∧ w' = (w.alloc (.cells #[.slice p len cap] 22)).alloc (.cells #[.int .i64 3] 3) := by
  refine callsIn_of_wp Tryd.func36 rfl h36 ?_ hro
  simp only [Tryd.ntmps36, List.size_toArray, List.length_cons, List.length_nil, Nat.reduceAdd, Nat.reduceSub, Array.replicate_succ, Array.replicate_zero, List.push_toArray, List.append_toArray, List.nil_append, List.cons_append]
  gi_wp2
  go_ret
  exact ⟨by simp, rfl⟩

/-- The k-th part of a row. -/
def part (b off len k : Nat) : Value := .slice (some ⟨b, off + 3 * k, none⟩) (min 3 (len - 3 * k)) (min 3 (len - 3 * k))

/-- What stays of the closure's two boxes. -/
def Kp (k1 k2 : Nat) (A B : World) : Prop := B.heap[k1]? = A.heap[k1]? ∧ B.heap[k2]? = A.heap[k2]?

theorem grown_drew (w : World) (row : Option Nat) : w.grownBy w.drew row := ⟨rfl, rfl, rfl, Nat.le_refl _, fun _ _ _ => rfl⟩
theorem sl22 : Tryd.prog.underlying 22 = some (.slice (Tryd.prog.elem 22)) := by kernel_rfl
theorem sizeOf5' (w : World) : (sizeOf (Tryd.prog.elem 22)).run Tryd.prog w = .ok 1 w := by
  have : Tryd.prog.elem 22 = 5 := by kernel_rfl
  rw [this]
  exact Tryd.sizeOf5 w

set_option maxRecDepth 100000 in
set_option maxHeartbeats 2000000 in
theorem chunk1_in (F : Fence) (n : Nat) (h59 : F.fn 59) (hro : F.round = none) (hn : 1 ≤ n) (l k1 k2 b off len cap : Nat) (hlen : len ≤ 149500000000000) (hcap : len ≤ cap) (J Jx : List Nat → World → Prop) (hJ : ∀ s W W' row, J s W → W.grownBy W' row → (∀ r, row = some r → False) → J s W')
    (hY : ∀ pre (x : Nat) W, J pre W → pre.length < (len + 2) / 3 → YieldAt F (n - 1) Tryd.prog l #[part b off len x] W fun e W' =>
      (e = .returned (.bool true) ∧ J (pre ++ [x]) W' ∧ Kp k1 k2 W W') ∨ (e = .returned (.bool false) ∧ Jx (pre ++ [x]) W'))
    (W : World) (h1 : W.heap[k1]? = some (.cells #[.slice (some ⟨b, off, none⟩) len cap] 22 (0, 0))) (h2 : W.heap[k2]? = some (.cells #[.int .i64 3] 3 (0, 0))) (h0 : J [] W) :
    CallsIn F n Tryd.prog 59 #[.func (.yield l) #[] #[], .pointer (some ⟨k1, 0, none⟩), .pointer (some ⟨k2, 0, none⟩)] W fun e W' => (∃ v, e = .returned v) ∧
      ((∃ ys, ys = List.range ((len + 2) / 3) ∧ J ys W') ∨ (∃ pre, (∃ k, k ≤ (len + 2) / 3 ∧ pre = List.range k) ∧ Jx pre W')) := by
  refine callsIn_of_wp Tryd.func59 rfl h59 ?_ hro
  simp only [Tryd.ntmps59, List.size_toArray, List.length_cons, List.length_nil, Nat.reduceAdd, Nat.reduceSub, Array.replicate_succ, Array.replicate_zero, List.push_toArray, List.append_toArray, List.nil_append, List.cons_append]
  gi_wp2
  gi_loopw [4] (fun i wr => ∃ k : Nat, k ≤ (len + 2) / 3 ∧ i = .int .i64 (3 * k) ∧ J (List.range k) wr ∧ wr.heap[k1]? = some (.cells #[.slice (some ⟨b, off, none⟩) len cap] 22 (0, 0)) ∧ wr.heap[k2]? = some (.cells #[.int .i64 3] 3 (0, 0)))
    (fun i _ => len + 3 - (intOf i).toNat)
  case atStart => exact ⟨0, Nat.zero_le _, rfl, h0, h1, h2⟩
  case round =>
    obtain ⟨k, hk, rfl, hJs, g1, g2⟩ := hrel
    have c1 : wr.cell? ⟨k1, 0, none⟩ = some (.slice (some ⟨b, off, none⟩) len cap) := by rw [Lib.cell_of_heap g1]; rfl
    have c2 : wr.cell? ⟨k2, 0, none⟩ = some (.int .i64 3) := by rw [Lib.cell_of_heap g2]; rfl
    by_cases hlt : 3 * k < len
    · have hk' : k < (len + 2) / 3 := by omega
      obtain ⟨fn, tmps, assign, body, hy, hR⟩ := hY _ k wr.drew (hJ _ wr _ none hJs (grown_drew wr none) (fun r e => by cases e)) (by rw [List.length_range]; exact hk')
      gi_wp2
      have hs1 : ∀ w, (Instr.slice 22 (.slice (some ⟨b, off, none⟩) len cap) (some (.int .i64 (3 * (k : Int)))) none none).run Tryd.prog w = .ok (.slice (some ⟨b, off + 3 * k, none⟩) (len - 3 * k) (cap - 3 * k)) w := by
        intro w
        rw [run_slice_l w 22 _ len cap sl22 .i64 (3 * (k : Int)) (by omega) (by omega), sizeOf5', Result.andThen_ok]
        have e : (3 * (k : Int)).toNat = 3 * k := by omega
        simp only [sliced, e]
        rw [if_neg (by omega)]
        simp [Addr.add]
      have hs2 : ∀ w, (Instr.slice 22 (.slice (some ⟨b, off, none⟩) len cap) (some (.int .i64 (3 * (k : Int)))) (some (.int .i64 (3 * (k : Int) + min 3 ((len - 3 * k : Nat) : Int)))) (some (.int .i64 (3 * (k : Int) + min 3 ((len - 3 * k : Nat) : Int))))).run Tryd.prog w = .ok (part b off len k) w := by
        intro w
        rw [run_slice_lhm w 22 _ len cap sl22 .i64 .i64 .i64 (3 * (k : Int)) _ _ (by omega) (by omega) (by omega) (by omega), sizeOf5', Result.andThen_ok]
        have e : (3 * (k : Int)).toNat = 3 * k := by omega
        have e2 : (3 * (k : Int) + min 3 ((len - 3 * k : Nat) : Int)).toNat = 3 * k + min 3 (len - 3 * k) := by omega
        simp only [sliced, e, e2]
        rw [if_neg (by omega)]
        simp [part, Addr.add]
      have hmx : Tryd.prog.follows .mixedOrders = true := by kernel_rfl
      have hw : wrap64 (3 * (k : Int) + min 3 ((len - 3 * k : Nat) : Int)) = 3 * (k : Int) + min 3 ((len - 3 * k : Nat) : Int) := by
        unfold wrap64; omega
      gi_region_o
      all_goals gi_wp2
      all_goals (
        refine hR.mono ?_
        rintro e W3 (⟨rfl, hJ3, hk3, hk4⟩ | ⟨rfl, hJx3⟩)
        · have e1 : W3.heap[k1]? = some (.cells #[.slice (some ⟨b, off, none⟩) len cap] 22 (0, 0)) := hk3.trans g1
          have e2 : W3.heap[k2]? = some (.cells #[.int .i64 3] 3 (0, 0)) := hk4.trans g2
          have d2 : W3.cell? ⟨k2, 0, none⟩ = some (.int .i64 3) := by rw [Lib.cell_of_heap e2]; rfl
          have hw2 : wrap64 (3 * (k : Int) + 3) = 3 * (k : Int) + 3 := by unfold wrap64; omega
          clear hw
          gi_wp2
          go_roundw
          case rel => exact ⟨k + 1, by omega, by simp; omega, by rw [List.range_succ]; exact hJ3, e1, e2⟩
          case measure => simp [intOf]; omega
        · gi_wp2
          refine bodyPost_ret (results_none rfl _ _ _) rfl ?_
          exact ⟨⟨_, rfl⟩, .inr ⟨_, ⟨k + 1, by omega, (List.range_succ).symm⟩, hJx3⟩⟩)
    · have hkk : k = (len + 2) / 3 := by omega
      gi_wp2
      go_end0
      exact ⟨⟨_, rfl⟩, .inl ⟨_, by rw [hkk], hJs⟩⟩

set_option maxRecDepth 100000 in
set_option maxHeartbeats 2000000 in
theorem chunk1_nil (F : Fence) (n : Nat) (h59 : F.fn 59) (hro : F.round = none) (hn : 1 ≤ n) (l k1 k2 : Nat) (p : Option Addr) (cap : Nat) (J : List Nat → World → Prop)
    (W : World) (h1 : W.heap[k1]? = some (.cells #[.slice p 0 cap] 22 (0, 0))) (h0 : J [] W) :
    CallsIn F n Tryd.prog 59 #[.func (.yield l) #[] #[], .pointer (some ⟨k1, 0, none⟩), .pointer (some ⟨k2, 0, none⟩)] W fun e W' => (∃ v, e = .returned v) ∧ J [] W' := by
  have c1 : W.cell? ⟨k1, 0, none⟩ = some (.slice p 0 cap) := by rw [Lib.cell_of_heap h1]; rfl
  refine callsIn_of_wp Tryd.func59 rfl h59 ?_ hro
  simp only [Tryd.ntmps59, List.size_toArray, List.length_cons, List.length_nil, Nat.reduceAdd, Nat.reduceSub, Array.replicate_succ, Array.replicate_zero, List.push_toArray, List.append_toArray, List.nil_append, List.cons_append]
  gi_wp2
  gi_loopw [4] (fun i wr => i = .int .i64 0 ∧ wr.cell? ⟨k1, 0, none⟩ = some (.slice p 0 cap) ∧ J [] wr) (fun i _ => 0)
  case atStart => exact ⟨rfl, c1, h0⟩
  case round =>
    obtain ⟨rfl, c1, hJ⟩ := hrel
    gi_wp2
    go_end0
    exact ⟨⟨_, rfl⟩, hJ⟩

end Ba
end Go.Proofs
