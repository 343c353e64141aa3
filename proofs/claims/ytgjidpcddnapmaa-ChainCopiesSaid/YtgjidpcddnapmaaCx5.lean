-- Laid by a program of this session (pr.py: the kit's printer over stubs of its own); Lean checks it.
import Derived.Test.YtgjidpcddnapmaaCx0
import Derived.Test.YtgjidpcddnapmaaCx1
namespace Go.Proofs.Ytgjidpcddnapmaa.C
open Go.RowKit Go.Proofs.YtgjidpcddnapmaaW.PrintWords Go.Proofs.YtgjidpcddnapmaaW.PrintLast Go.Proofs.YtgjidpcddnapmaaW.PrintMore
attribute [local go_sem] Instr.field asAgg max2_int min2_int max_two min_two max_three min_three max_four min_four   -- for this text's walks alone
set_option linter.unusedVariables false
set_option linter.unusedSimpArgs false

/-! ### chain_among: function 19 -/
-- STUB: by hand
def eqB (x y : List Int) : Bool := (strOfNums x).toList == (strOfNums y).toList
theorem among_1 (gb : Nat) (Ax A1 : Option Addr) (cx c1 : Nat) (x l1 : List Int) (w : World) (hc : w.cell? ⟨gb, 0, none⟩ = some (.slice A1 l1.length c1))
 (hx : Kd.C (Kd.int .u8) w Ax x.length x) (hcx : x.length ≤ cx) (h1 : Kd.C (Kd.int .u8) w A1 l1.length l1) (hc1 : l1.length ≤ c1) :
 Calls Try.prog 29 #[.slice Ax x.length cx, .pointer (some ⟨gb, 0, none⟩)] w fun e w' => e = .returned (.bool (eqB x l1)) ∧ Drawn0 w w' := by
 have HX := Aside0.mk hx
 have H1 := Aside0.mk h1
 clear hx h1
 go_enter Try.func29, Try.ntmps29
 go_wp2_with (go_at_call 26; (with_reducible refine (bytes_Equal.calls _ _ x _ _ l1 (eqB x l1) _ ?side1 ?side2 ?side3 ?side4 rfl).mono ?_); (case side1 => repeat (first | exact HX.out | (with_reducible refine Kd.C_drewN ?_ _) | (with_reducible refine Kd.C_drew ?_))); (case side2 => exact hcx); (case side3 => repeat (first | exact H1.out | (with_reducible refine Kd.C_drewN ?_ _) | (with_reducible refine Kd.C_drew ?_))); (case side4 => exact hc1); rintro e w' ⟨rfl, ⟨nd, rfl⟩⟩)
 go_ret
 exact ⟨rfl, by repeat (first | exact Drawn0.refl _ | apply Drawn0.step)⟩

/-- What an index function tells: a number that is negative just if nothing was found. -/
def Found (b : Bool) (e : Ending) : Prop := ∃ r : Int, e = .returned (.int .i64 r) ∧ decide (0 ≤ r) = b

theorem index_among (gb : Nat) (A0 A1 : Option Addr) (c0 c1 : Nat) (l0 : List (List Int)) (l1 : List Int) (w : World) (hgb : w.cell? ⟨gb, 0, none⟩ = some (.slice A1 l1.length c1))
 (hr0 : Kd.C (Kd.slice 5 (Kd.int .u8)) w A0 l0.length l0) (h1 : Kd.C (Kd.int .u8) w A1 l1.length l1) (hc1 : l1.length ≤ c1) :
 Calls Try.prog 31 #[.slice A0 l0.length c0, .func (.func 29) #[] #[.pointer (some ⟨gb, 0, none⟩)]] w fun e w' => Found (l0.any fun x => eqB x l1) e ∧ Drawn0 w w' := by
 have hlen := (Mine.C_len hr0).2
 have HR0 := Aside0.mk hr0
 have H1 := Aside0.mk h1
 have HGB := Aside0.mk hgb
 clear hr0 h1 hgb
 go_enter Try.func31, Try.ntmps31
 go_wp2
 go_loopw [8] (fun v8 wr => ∃ i : Nat, i ≤ l0.length ∧ v8 = .int .i64 i ∧ Aside0 ((l0.take i).any (fun x => eqB x l1) = false) ∧ Drawn0 w wr) (fun v8 _ => l0.length - (intOf v8).toNat)
 case atStart => exact ⟨0, Nat.zero_le _, rfl, ⟨by simp⟩, Drawn0.refl _⟩
 case round =>
  obtain ⟨i, hi, rfl, HT, ⟨m, rfl⟩⟩ := hrel
  by_cases hlt : i < l0.length
  · obtain ⟨ad, Ai, ci, e, hx, hl, hC⟩ := at_L1 HR0.out (i : Int) (by omega) (by omega)
    cases e
    have HC := Aside0.mk hC
    have HL := Aside0.mk hl
    clear hC hl
    have hcell : w.cell? (ad.add i) = some (.slice Ai (rd_L1 l0 i).length ci) := hx
    clear hx
    go_wp2_with (go_at_call 29; ((with_reducible refine (among_1 gb _ A1 _ c1 (rd_L1 l0 i) l1 _ ?side1 ?side2 ?side3 ?side4 ?side5).mono ?_); (case side1 => exact pw_cell_below (pw_below_drewN (Below.refl _ _) _) HGB.out); (case side2 => repeat (first | exact HC.out | (with_reducible refine Kd.C_drewN ?_ _) | (with_reducible refine Kd.C_drew ?_))); (case side3 => exact HL.out); (case side4 => repeat (first | exact H1.out | (with_reducible refine Kd.C_drewN ?_ _) | (with_reducible refine Kd.C_drew ?_))); (case side5 => exact hc1); rintro e w' ⟨rfl, ⟨nd, rfl⟩⟩))
    · have hq : eqB (rd_L1 l0 (i : Int)) l1 = true := by assumption
      go_ret
      exact ⟨⟨i, rfl, by rw [Mine.any_at l0 [] (fun x => eqB x l1) i hlt hq]; simp⟩, by repeat (first | exact Drawn0.refl _ | apply Drawn0.step)⟩
    · have hq : eqB (rd_L1 l0 (i : Int)) l1 = false := by assumption
      exact ⟨⟨i + 1, by omega, by go_num, ⟨Mine.any_step l0 [] (fun x => eqB x l1) i hlt HT.out hq⟩, by repeat (first | exact Drawn0.refl _ | apply Drawn0.step)⟩, by simp [intOf]; omega⟩
  · obtain rfl : i = l0.length := by omega
    go_wp2
    go_ret
    exact ⟨⟨-1, rfl, by have := HT.out; rw [List.take_length] at this; rw [this]; rfl⟩, by repeat (first | exact Drawn0.refl _ | apply Drawn0.step)⟩

theorem contains_among (gb : Nat) (A0 A1 : Option Addr) (c0 c1 : Nat) (l0 : List (List Int)) (l1 : List Int) (w : World) (hgb : w.cell? ⟨gb, 0, none⟩ = some (.slice A1 l1.length c1))
 (hr0 : Kd.C (Kd.slice 5 (Kd.int .u8)) w A0 l0.length l0) (h1 : Kd.C (Kd.int .u8) w A1 l1.length l1) (hc1 : l1.length ≤ c1) :
 Calls Try.prog 28 #[.slice A0 l0.length c0, .func (.func 29) #[] #[.pointer (some ⟨gb, 0, none⟩)]] w fun e w' => e = .returned (.bool (l0.any fun x => eqB x l1)) ∧ Drawn0 w w' := by
 have HI := Aside0.mk (index_among gb A0 A1 c0 c1 l0 l1 w hgb hr0 h1 hc1)
 clear hgb hr0 h1
 go_enter Try.func28, Try.ntmps28
 go_wp2_with (go_at_call 31; (with_reducible refine (HI.out).mono ?_); rintro e w' ⟨⟨r, rfl, hr⟩, ⟨nd, rfl⟩⟩)
 go_ret
 exact ⟨by rw [← hr]; rfl, by repeat (first | exact Drawn0.refl _ | apply Drawn0.step)⟩

def chain_among.f (l0 : List (List Int)) (l1 : List Int) : Option Bool := some (l0.any fun x => eqB x l1)
theorem chain_among.calls (A0 : Option Addr) (c0 : Nat) (l0 : List (List Int)) (A1 : Option Addr) (c1 : Nat) (l1 : List Int) (r : Bool) (w : World) (hr0 : Kd.C (Kd.slice 5 (Kd.int .u8)) w A0 l0.length l0) (hc0 : l0.length ≤ c0) (hr1 : Kd.C (Kd.int .u8) w A1 l1.length l1) (hc1 : l1.length ≤ c1) (h : chain_among.f l0 l1 = some r) :
 Calls Try.prog 19 #[.slice A0 l0.length c0, .slice A1 l1.length c1] w fun e w' => e = .returned (.bool r) ∧ Below w.heap.size w w' := by
 obtain rfl : (l0.any fun x => eqB x l1) = r := Option.some.inj h
 have HR0 := Aside0.mk hr0
 have HR1 := Aside0.mk hr1
 clear h hr0 hr1
 go_enter Try.func19, Try.ntmps19
 go_wp2_with (go_at_call 28; (with_reducible refine (contains_among _ _ A1 _ c1 l0 l1 _ ?side1 ?side2 ?side3 ?side4).mono ?_); (case side1 => go_simp); (case side2 => repeat (first | exact HR0.out | (with_reducible refine Kd.C_alloc ?_ _) | (with_reducible refine Kd.C_drewN ?_ _) | (with_reducible refine Kd.C_drew ?_))); (case side3 => repeat (first | exact HR1.out | (with_reducible refine Kd.C_alloc ?_ _) | (with_reducible refine Kd.C_drewN ?_ _) | (with_reducible refine Kd.C_drew ?_))); (case side4 => exact hc1); rintro e w' ⟨rfl, ⟨nd, rfl⟩⟩)
 go_ret
 exact ⟨rfl, by repeat (first | exact Below.refl _ _ | apply below_alloc | apply pw_below_drewN | apply below_drew1)⟩


end Go.Proofs.Ytgjidpcddnapmaa.C
