-- Laid by a program of this session (pr.py: the kit's printer over stubs of its own); Lean checks it.
import Derived.Test.YtgjidpcddnapmaaCx0
import Derived.Test.YtgjidpcddnapmaaCx5
import Derived.Test.YtgjidpcddnapmaaCx6
namespace Go.Proofs.Ytgjidpcddnapmaa.C
open Go.RowKit Go.Proofs.YtgjidpcddnapmaaW.PrintWords Go.Proofs.YtgjidpcddnapmaaW.PrintLast Go.Proofs.YtgjidpcddnapmaaW.PrintMore
attribute [local go_sem] Instr.field asAgg max2_int min2_int max_two min_two max_three min_three max_four min_four   -- for this text's walks alone
set_option linter.unusedVariables false
set_option linter.unusedSimpArgs false

/-! ### chain_may: function 21 -/
-- STUB: by hand
def okCert (x : List Int) : Bool := decide (1 ≤ x.length) && decide (x.length ≤ 512)
theorem in_nat (n m : Nat) : chain_in.f (n : Int) (m : Int) = some (decide (1 ≤ n) && decide (n ≤ m)) := by
 unfold chain_in.f
 by_cases h1 : 1 ≤ n
 · rw [if_pos (by omega)]
   simp [h1, Int.ofNat_le]
 · rw [if_neg (by omega)]
   simp [h1]
theorem in_at (n : Nat) (a : Int) (b : Bool) (h : (decide (1 ≤ n) && decide ((n : Int) ≤ a)) = b) : chain_in.f (n : Int) a = some b := by
 unfold chain_in.f
 rw [← h]
 by_cases h1 : 1 ≤ n
 · rw [if_pos (by omega)]
   simp [h1]
 · rw [if_neg (by omega)]
   simp [h1]
theorem may_1 (Ax : Option Addr) (cx : Nat) (x : List Int) (w : World) :
 Calls Try.prog 30 #[.slice Ax x.length cx] w fun e w' => e = .returned (.bool (!okCert x)) ∧ Drawn0 w w' := by
 go_enter Try.func30, Try.ntmps30
 go_wp2_with (go_at_call 22; (with_reducible refine (chain_in.calls _ _ (okCert x) _ (in_nat x.length 512)).mono ?_); rintro e w' ⟨rfl, ⟨nd, rfl⟩⟩)
 go_ret
 exact ⟨rfl, by repeat (first | exact Drawn0.refl _ | apply Drawn0.step)⟩

theorem index_may (A0 : Option Addr) (c0 : Nat) (l0 : List (List Int)) (w : World) 
 (hr0 : Kd.C (Kd.slice 5 (Kd.int .u8)) w A0 l0.length l0) :
 Calls Try.prog 31 #[.slice A0 l0.length c0, .func (.func 30) #[] #[]] w fun e w' => Found (l0.any fun x => !okCert x) e ∧ Drawn0 w w' := by
 have hlen := (Mine.C_len hr0).2
 have HR0 := Aside0.mk hr0
 clear hr0
 go_enter Try.func31, Try.ntmps31
 go_wp2
 go_loopw [8] (fun v8 wr => ∃ i : Nat, i ≤ l0.length ∧ v8 = .int .i64 i ∧ Aside0 ((l0.take i).any (fun x => !okCert x) = false) ∧ Drawn0 w wr) (fun v8 _ => l0.length - (intOf v8).toNat)
 case atStart => exact ⟨0, Nat.zero_le _, rfl, ⟨by simp⟩, Drawn0.refl _⟩
 case round =>
  obtain ⟨i, hi, rfl, HT, ⟨m, rfl⟩⟩ := hrel
  by_cases hlt : i < l0.length
  · obtain ⟨ad, Ai, ci, e, hx, hl, hC⟩ := at_L1 HR0.out (i : Int) (by omega) (by omega)
    cases e
    clear hC hl
    have hcell : w.cell? (ad.add i) = some (.slice Ai (rd_L1 l0 i).length ci) := hx
    clear hx
    go_wp2_with (go_at_call 30; (with_reducible refine (may_1 _ _ (rd_L1 l0 i) _).mono ?_); rintro e w' ⟨rfl, ⟨nd, rfl⟩⟩)
    · have hq : (!okCert (rd_L1 l0 (i : Int))) = true := by first | assumption | simpa using (by assumption : okCert (rd_L1 l0 (i : Int)) = false)
      go_ret
      exact ⟨⟨i, rfl, by rw [Mine.any_at l0 [] (fun x => !okCert x) i hlt hq]; simp⟩, by repeat (first | exact Drawn0.refl _ | apply Drawn0.step)⟩
    · have hq : (!okCert (rd_L1 l0 (i : Int))) = false := by first | assumption | simpa using (by assumption : okCert (rd_L1 l0 (i : Int)) = true)
      exact ⟨⟨i + 1, by omega, by go_num, ⟨Mine.any_step l0 [] (fun x => !okCert x) i hlt HT.out hq⟩, by repeat (first | exact Drawn0.refl _ | apply Drawn0.step)⟩, by simp [intOf]; omega⟩
  · obtain rfl : i = l0.length := by omega
    go_wp2
    go_ret
    exact ⟨⟨-1, rfl, by have := HT.out; rw [List.take_length] at this; rw [this]; rfl⟩, by repeat (first | exact Drawn0.refl _ | apply Drawn0.step)⟩

theorem contains_may (A0 : Option Addr) (c0 : Nat) (l0 : List (List Int)) (w : World) 
 (hr0 : Kd.C (Kd.slice 5 (Kd.int .u8)) w A0 l0.length l0)  :
 Calls Try.prog 28 #[.slice A0 l0.length c0, .func (.func 30) #[] #[]] w fun e w' => e = .returned (.bool (l0.any fun x => !okCert x)) ∧ Drawn0 w w' := by
 have HI := Aside0.mk (index_may A0 c0 l0 w hr0)
 clear hr0
 go_enter Try.func28, Try.ntmps28
 go_wp2_with (go_at_call 31; (with_reducible refine (HI.out).mono ?_); rintro e w' ⟨⟨r, rfl, hr⟩, ⟨nd, rfl⟩⟩)
 go_ret
 exact ⟨by rw [← hr]; rfl, by repeat (first | exact Drawn0.refl _ | apply Drawn0.step)⟩

def chain_may.f (l0 : List (List Int)) (a1 : Int) : Option Bool := some (decide (1 ≤ l0.length) && (decide ((l0.length : Int) ≤ a1) && l0.all fun x => decide (1 ≤ x.length) && decide (x.length ≤ 512)))
theorem chain_may.calls (A0 : Option Addr) (c0 : Nat) (l0 : List (List Int)) (a1 : Int) (r : Bool) (w : World) (hr0 : Kd.C (Kd.slice 5 (Kd.int .u8)) w A0 l0.length l0) (hc0 : l0.length ≤ c0) (h : chain_may.f l0 a1 = some r) :
 Calls Try.prog 21 #[.slice A0 l0.length c0, .int .i64 a1] w fun e w' => e = .returned (.bool r) ∧ Drawn0 w w' := by
 have HR0 := Aside0.mk hr0
 have hr : (decide (1 ≤ l0.length) && (decide ((l0.length : Int) ≤ a1) && !(l0.any fun x => !okCert x))) = r := by
  have e : (l0.all fun x => decide (1 ≤ x.length) && decide (x.length ≤ 512)) = !(l0.any fun x => !okCert x) := by
   rw [List.all_eq_not_any_not]; rfl
  rw [← Option.some.inj h, e]
 clear h hr0
 by_cases h1 : 1 ≤ l0.length ∧ (l0.length : Int) ≤ a1
 · obtain ⟨ha, hb⟩ := h1
   obtain rfl : (!(l0.any fun x => !okCert x)) = r := by rw [← hr]; simp [ha, hb]
   clear hr
   have hin : (decide (1 ≤ l0.length) && decide ((l0.length : Int) ≤ a1)) = true := by simp [ha, hb]
   clear ha hb
   go_enter Try.func21, Try.ntmps21
   go_wp2_with (first | (go_at_call 22; (with_reducible refine (chain_in.calls _ _ true _ (in_at _ _ _ hin)).mono ?_); rintro e w' ⟨rfl, ⟨nd, rfl⟩⟩) | (go_at_call 28; (with_reducible refine (contains_may _ _ l0 _ ?side2).mono ?_); (case side2 => repeat (first | exact HR0.out | (with_reducible refine Kd.C_alloc ?_ _) | (with_reducible refine Kd.C_drewN ?_ _) | (with_reducible refine Kd.C_drew ?_))); rintro e w' ⟨rfl, ⟨nd, rfl⟩⟩))
   go_ret
   exact ⟨rfl, by repeat (first | exact Drawn0.refl _ | apply Drawn0.step)⟩
 · obtain rfl : false = r := by rw [← hr]; simp; intro a b; exact absurd ⟨a, b⟩ h1
   clear hr
   have hin : (decide (1 ≤ l0.length) && decide ((l0.length : Int) ≤ a1)) = false := by simp; intro a; by_cases h : (l0.length : Int) ≤ a1; exact absurd ⟨a, h⟩ h1; omega
   clear h1
   go_enter Try.func21, Try.ntmps21
   go_wp2_with (first | (go_at_call 22; (with_reducible refine (chain_in.calls _ _ false _ (in_at _ _ _ hin)).mono ?_); rintro e w' ⟨rfl, ⟨nd, rfl⟩⟩))
   go_ret
   exact ⟨rfl, by repeat (first | exact Drawn0.refl _ | apply Drawn0.step)⟩


end Go.Proofs.Ytgjidpcddnapmaa.C
