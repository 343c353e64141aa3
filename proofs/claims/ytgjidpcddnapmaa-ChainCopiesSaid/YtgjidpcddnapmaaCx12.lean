-- Laid by a program of this session (pr.py: the kit's printer over stubs of its own); Lean checks it.
import Derived.Test.YtgjidpcddnapmaaCx0
import Derived.Test.YtgjidpcddnapmaaCx1
import Derived.Test.YtgjidpcddnapmaaCx5
namespace Go.Proofs.Ytgjidpcddnapmaa.C
open Go.RowKit Go.Proofs.YtgjidpcddnapmaaW.PrintWords Go.Proofs.YtgjidpcddnapmaaW.PrintLast Go.Proofs.YtgjidpcddnapmaaW.PrintMore
attribute [local go_sem] Instr.field asAgg max2_int min2_int max_two min_two max_three min_three max_four min_four   -- for this text's walks alone
set_option linter.unusedVariables false
set_option linter.unusedSimpArgs false

/-! ### chain_Same: function 16 -/
-- STUB: by hand
def eqP (p : List Int × List Int) : Bool := eqB p.1 p.2
theorem equalFunc_bytes (A0 A1 : Option Addr) (c0 c1 : Nat) (l0 l1 : List (List Int)) (w : World)
 (hr0 : Kd.C (Kd.slice 5 (Kd.int .u8)) w A0 l0.length l0) (hr1 : Kd.C (Kd.slice 5 (Kd.int .u8)) w A1 l1.length l1) :
 Calls Try.prog 27 #[.slice A0 l0.length c0, .slice A1 l1.length c1, .func (.func 26) #[] #[]] w fun e w' => e = .returned (.bool (decide (l0.length = l1.length) && (List.zip l0 l1).all eqP)) ∧ Drawn0 w w' := by
 have hlen := (Mine.C_len hr0).2
 have HR0 := Aside0.mk hr0
 have HR1 := Aside0.mk hr1
 clear hr0 hr1
 by_cases hll : l0.length = l1.length
 · have hz : (List.zip l0 l1).length = l0.length := by simp; omega
   have HZ := Aside0.mk hz
   have HLL := Aside0.mk hll
   have HD : Aside0 (decide (l0.length = l1.length) = true) := ⟨by simp [hll]⟩
   have hne : (l0.length != l1.length) = false := by simp [hll]
   have hne2 : ((l0.length : Int) != (l1.length : Int)) = false := by simp [hll]
   clear hz hll
   go_enter Try.func27, Try.ntmps27
   go_wp2
   go_loopw [17] (fun v8 wr => ∃ i : Nat, i ≤ l0.length ∧ v8 = .int .i64 i ∧ Aside0 (((List.zip l0 l1).take i).all eqP = true) ∧ Drawn0 w wr) (fun v8 _ => l0.length - (intOf v8).toNat)
   case atStart => exact ⟨0, Nat.zero_le _, rfl, ⟨by simp⟩, Drawn0.refl _⟩
   case round =>
    obtain ⟨i, hi, rfl, HT, ⟨m, rfl⟩⟩ := hrel
    by_cases hlt : i < l0.length
    · have hlt1 : i < l1.length := by have := HLL.out; omega
      obtain ⟨ad, Ai, ci, e, hx, hl, hC⟩ := at_L1 HR0.out (i : Int) (by omega) (by omega)
      cases e
      obtain ⟨ad1, Ai1, ci1, e1, hx1, hl1, hC1⟩ := at_L1 HR1.out (i : Int) (by omega) (by omega)
      cases e1
      have HC := Aside0.mk hC
      have HL := Aside0.mk hl
      have HC1 := Aside0.mk hC1
      have HL1 := Aside0.mk hl1
      clear hC hl hC1 hl1
      have hcell : w.cell? (ad.add i) = some (.slice Ai (rd_L1 l0 i).length ci) := hx
      have hcell1 : w.cell? (ad1.add i) = some (.slice Ai1 (rd_L1 l1 i).length ci1) := hx1
      clear hx hx1
      have HG : Aside0 ((List.zip l0 l1).getD i ([], []) = (rd_L1 l0 i, rd_L1 l1 i)) := ⟨Mine.zip_getD l0 l1 [] HLL.out i hlt⟩
      go_wp2_with (go_at_call 26; (with_reducible refine (bytes_Equal.calls _ _ (rd_L1 l0 i) _ _ (rd_L1 l1 i) (eqB (rd_L1 l0 i) (rd_L1 l1 i)) _ ?side1 ?side2 ?side3 ?side4 rfl).mono ?_); (case side1 => repeat (first | exact HC.out | (with_reducible refine Kd.C_drewN ?_ _) | (with_reducible refine Kd.C_drew ?_))); (case side2 => exact HL.out); (case side3 => repeat (first | exact HC1.out | (with_reducible refine Kd.C_drewN ?_ _) | (with_reducible refine Kd.C_drew ?_))); (case side4 => exact HL1.out); rintro e w' ⟨rfl, ⟨nd, rfl⟩⟩)
      · have hq : eqB (rd_L1 l0 (i : Int)) (rd_L1 l1 (i : Int)) = false := by first | assumption | simpa using (by assumption : (!eqB (rd_L1 l0 (i : Int)) (rd_L1 l1 (i : Int))) = true)
        go_ret
        exact ⟨by rw [HD.out, Mine.all_at (List.zip l0 l1) ([], []) eqP i (by rw [HZ.out]; exact hlt) (by rw [HG.out]; exact hq)]; rfl, by repeat (first | exact Drawn0.refl _ | apply Drawn0.step)⟩
      · have hq : eqB (rd_L1 l0 (i : Int)) (rd_L1 l1 (i : Int)) = true := by first | assumption | simpa using (by assumption : (!eqB (rd_L1 l0 (i : Int)) (rd_L1 l1 (i : Int))) = false)
        exact ⟨⟨i + 1, by omega, by go_num, ⟨Mine.all_step (List.zip l0 l1) ([], []) eqP i (by rw [HZ.out]; exact hlt) HT.out (by rw [HG.out]; exact hq)⟩, by repeat (first | exact Drawn0.refl _ | apply Drawn0.step)⟩, by simp [intOf]; omega⟩
    · obtain rfl : i = l0.length := by omega
      go_wp2
      go_ret
      exact ⟨by have := HT.out; rw [← HZ.out, List.take_length] at this; rw [this, HD.out]; rfl, by repeat (first | exact Drawn0.refl _ | apply Drawn0.step)⟩
 · have HD : Aside0 (decide (l0.length = l1.length) = false) := ⟨by simp [hll]⟩
   have hne : (l0.length != l1.length) = true := by simp [hll]
   have hne2 : ((l0.length : Int) != (l1.length : Int)) = true := by simp; omega
   clear hll
   go_enter Try.func27, Try.ntmps27
   go_wp2
   go_ret
   exact ⟨by rw [HD.out]; rfl, by repeat (first | exact Drawn0.refl _ | apply Drawn0.step)⟩

def chain_Same.f (l0_0 : List Int) (l0_1 : List (List Int)) (a0_2 a0_3 a0_4 : Int) (l1_0 : List Int) (l1_1 : List (List Int)) (a1_2 a1_3 a1_4 : Int) : Option Bool :=
 some (((strOfNums l0_0).toList == (strOfNums l1_0).toList) && (decide (l0_1.length = l1_1.length) && ((List.zip l0_1 l1_1).all fun p => (strOfNums p.1).toList == (strOfNums p.2).toList) && (decide (a0_2 = a1_2) && (decide (a0_3 = a1_3) && decide (a0_4 = a1_4)))))
theorem chain_Same.calls (A0_0 : Option Addr) (c0_0 : Nat) (l0_0 : List Int) (A0_1 : Option Addr) (c0_1 : Nat) (l0_1 : List (List Int)) (a0_2 : Int) (a0_3 : Int) (a0_4 : Int) (A1_0 : Option Addr) (c1_0 : Nat) (l1_0 : List Int) (A1_1 : Option Addr) (c1_1 : Nat) (l1_1 : List (List Int)) (a1_2 : Int) (a1_3 : Int) (a1_4 : Int) (r : Bool) (w : World) (hr0_0 : Kd.C (Kd.int .u8) w A0_0 l0_0.length l0_0) (hc0_0 : l0_0.length ≤ c0_0) (hr0_1 : Kd.C (Kd.slice 5 (Kd.int .u8)) w A0_1 l0_1.length l0_1) (hc0_1 : l0_1.length ≤ c0_1) (hr1_0 : Kd.C (Kd.int .u8) w A1_0 l1_0.length l1_0) (hc1_0 : l1_0.length ≤ c1_0) (hr1_1 : Kd.C (Kd.slice 5 (Kd.int .u8)) w A1_1 l1_1.length l1_1) (hc1_1 : l1_1.length ≤ c1_1) (h : chain_Same.f l0_0 l0_1 a0_2 a0_3 a0_4 l1_0 l1_1 a1_2 a1_3 a1_4 = some r) :
 Calls Try.prog 16 #[.agg #[.slice A0_0 l0_0.length c0_0, .slice A0_1 l0_1.length c0_1, .int .i64 a0_2, .int .i64 a0_3, .int .i64 a0_4], .agg #[.slice A1_0 l1_0.length c1_0, .slice A1_1 l1_1.length c1_1, .int .i64 a1_2, .int .i64 a1_3, .int .i64 a1_4]] w fun e w' => e = .returned (.bool r) ∧ Below w.heap.size w w' := by
 have HR0 := Aside0.mk hr0_0
 have HR1 := Aside0.mk hr0_1
 have HS0 := Aside0.mk hr1_0
 have HS1 := Aside0.mk hr1_1
 clear hr0_0 hr0_1 hr1_0 hr1_1
 have hr := Option.some.inj h
 clear h
 obtain ⟨b1, hb1⟩ : ∃ b, bytes_Equal.f l0_0 l1_0 = some b := ⟨_, rfl⟩
 obtain ⟨b2, hb2⟩ : ∃ b, (decide (l0_1.length = l1_1.length) && (List.zip l0_1 l1_1).all eqP) = b := ⟨_, rfl⟩
 have e1 : ((strOfNums l0_0).toList == (strOfNums l1_0).toList) = b1 := Option.some.inj hb1
 have e2 : (decide (l0_1.length = l1_1.length) && (List.zip l0_1 l1_1).all fun p => (strOfNums p.1).toList == (strOfNums p.2).toList) = b2 := hb2
 rw [e1, e2] at hr
 have HE := Aside0.mk (equalFunc_bytes A0_1 A1_1 c0_1 c1_1 l0_1 l1_1)
 rw [hb2] at HE
 have HB1 := Aside0.mk hb1
 clear hb1 hb2 e1 e2
 have hu25 := Try.underlying25
 cases b1 with
 | false =>
  obtain rfl : false = r := by rw [← hr]; rfl
  clear hr
  go_enter Try.func16, Try.ntmps16
  go_wp2_with (first | (go_at_call 26; (with_reducible refine (bytes_Equal.calls _ _ l0_0 _ _ l1_0 _ _ ?side1 ?side2 ?side3 ?side4 HB1.out).mono ?_); (case side1 => repeat (first | exact HR0.out | (with_reducible refine Kd.C_alloc ?_ _) | (with_reducible refine Kd.C_drewN ?_ _) | (with_reducible refine Kd.C_drew ?_))); (case side2 => exact hc0_0); (case side3 => repeat (first | exact HS0.out | (with_reducible refine Kd.C_alloc ?_ _) | (with_reducible refine Kd.C_drewN ?_ _) | (with_reducible refine Kd.C_drew ?_))); (case side4 => exact hc1_0); rintro e w' ⟨rfl, ⟨nd, rfl⟩⟩) | (go_at_call 27; (with_reducible refine (HE.out _ ?side1 ?side2).mono ?_); (case side1 => repeat (first | exact HR1.out | (with_reducible refine Kd.C_alloc ?_ _) | (with_reducible refine Kd.C_drewN ?_ _) | (with_reducible refine Kd.C_drew ?_))); (case side2 => repeat (first | exact HS1.out | (with_reducible refine Kd.C_alloc ?_ _) | (with_reducible refine Kd.C_drewN ?_ _) | (with_reducible refine Kd.C_drew ?_))); rintro e w' ⟨rfl, ⟨nd, rfl⟩⟩))
  go_ret
  exact ⟨rfl, by repeat (first | exact Below.refl _ _ | apply below_alloc | apply pw_below_drewN | apply below_drew1)⟩
 | true =>
  cases b2 with
  | false =>
   obtain rfl : false = r := by rw [← hr]; rfl
   clear hr
   go_enter Try.func16, Try.ntmps16
   go_wp2_with (first | (go_at_call 26; (with_reducible refine (bytes_Equal.calls _ _ l0_0 _ _ l1_0 _ _ ?side1 ?side2 ?side3 ?side4 HB1.out).mono ?_); (case side1 => repeat (first | exact HR0.out | (with_reducible refine Kd.C_alloc ?_ _) | (with_reducible refine Kd.C_drewN ?_ _) | (with_reducible refine Kd.C_drew ?_))); (case side2 => exact hc0_0); (case side3 => repeat (first | exact HS0.out | (with_reducible refine Kd.C_alloc ?_ _) | (with_reducible refine Kd.C_drewN ?_ _) | (with_reducible refine Kd.C_drew ?_))); (case side4 => exact hc1_0); rintro e w' ⟨rfl, ⟨nd, rfl⟩⟩) | (go_at_call 27; (with_reducible refine (HE.out _ ?side1 ?side2).mono ?_); (case side1 => repeat (first | exact HR1.out | (with_reducible refine Kd.C_alloc ?_ _) | (with_reducible refine Kd.C_drewN ?_ _) | (with_reducible refine Kd.C_drew ?_))); (case side2 => repeat (first | exact HS1.out | (with_reducible refine Kd.C_alloc ?_ _) | (with_reducible refine Kd.C_drewN ?_ _) | (with_reducible refine Kd.C_drew ?_))); rintro e w' ⟨rfl, ⟨nd, rfl⟩⟩))
   go_ret
   exact ⟨rfl, by repeat (first | exact Below.refl _ _ | apply below_alloc | apply pw_below_drewN | apply below_drew1)⟩
  | true =>
   by_cases h3 : a0_2 = a1_2
   · subst h3
     by_cases h4 : a0_3 = a1_3
     · subst h4
       obtain ⟨b5, hb5⟩ : ∃ b, (a0_4 == a1_4) = b := ⟨_, rfl⟩
       obtain rfl : b5 = r := by rw [← hr, ← hb5]; simp [Bool.beq_eq_decide_eq]
       clear hr
       go_enter Try.func16, Try.ntmps16
       go_wp2_with (first | (go_at_call 26; (with_reducible refine (bytes_Equal.calls _ _ l0_0 _ _ l1_0 _ _ ?side1 ?side2 ?side3 ?side4 HB1.out).mono ?_); (case side1 => repeat (first | exact HR0.out | (with_reducible refine Kd.C_alloc ?_ _) | (with_reducible refine Kd.C_drewN ?_ _) | (with_reducible refine Kd.C_drew ?_))); (case side2 => exact hc0_0); (case side3 => repeat (first | exact HS0.out | (with_reducible refine Kd.C_alloc ?_ _) | (with_reducible refine Kd.C_drewN ?_ _) | (with_reducible refine Kd.C_drew ?_))); (case side4 => exact hc1_0); rintro e w' ⟨rfl, ⟨nd, rfl⟩⟩) | (go_at_call 27; (with_reducible refine (HE.out _ ?side1 ?side2).mono ?_); (case side1 => repeat (first | exact HR1.out | (with_reducible refine Kd.C_alloc ?_ _) | (with_reducible refine Kd.C_drewN ?_ _) | (with_reducible refine Kd.C_drew ?_))); (case side2 => repeat (first | exact HS1.out | (with_reducible refine Kd.C_alloc ?_ _) | (with_reducible refine Kd.C_drewN ?_ _) | (with_reducible refine Kd.C_drew ?_))); rintro e w' ⟨rfl, ⟨nd, rfl⟩⟩))
       go_ret
       exact ⟨rfl, by repeat (first | exact Below.refl _ _ | apply below_alloc | apply pw_below_drewN | apply below_drew1)⟩
     · obtain rfl : false = r := by rw [← hr]; simp [h4]
       have h4b : (a0_3 == a1_3) = false := by simpa using h4
       clear hr h4
       go_enter Try.func16, Try.ntmps16
       go_wp2_with (first | (go_at_call 26; (with_reducible refine (bytes_Equal.calls _ _ l0_0 _ _ l1_0 _ _ ?side1 ?side2 ?side3 ?side4 HB1.out).mono ?_); (case side1 => repeat (first | exact HR0.out | (with_reducible refine Kd.C_alloc ?_ _) | (with_reducible refine Kd.C_drewN ?_ _) | (with_reducible refine Kd.C_drew ?_))); (case side2 => exact hc0_0); (case side3 => repeat (first | exact HS0.out | (with_reducible refine Kd.C_alloc ?_ _) | (with_reducible refine Kd.C_drewN ?_ _) | (with_reducible refine Kd.C_drew ?_))); (case side4 => exact hc1_0); rintro e w' ⟨rfl, ⟨nd, rfl⟩⟩) | (go_at_call 27; (with_reducible refine (HE.out _ ?side1 ?side2).mono ?_); (case side1 => repeat (first | exact HR1.out | (with_reducible refine Kd.C_alloc ?_ _) | (with_reducible refine Kd.C_drewN ?_ _) | (with_reducible refine Kd.C_drew ?_))); (case side2 => repeat (first | exact HS1.out | (with_reducible refine Kd.C_alloc ?_ _) | (with_reducible refine Kd.C_drewN ?_ _) | (with_reducible refine Kd.C_drew ?_))); rintro e w' ⟨rfl, ⟨nd, rfl⟩⟩))
       go_ret
       exact ⟨rfl, by repeat (first | exact Below.refl _ _ | apply below_alloc | apply pw_below_drewN | apply below_drew1)⟩
   · obtain rfl : false = r := by rw [← hr]; simp [h3]
     have h3b : (a0_2 == a1_2) = false := by simpa using h3
     clear hr h3
     go_enter Try.func16, Try.ntmps16
     go_wp2_with (first | (go_at_call 26; (with_reducible refine (bytes_Equal.calls _ _ l0_0 _ _ l1_0 _ _ ?side1 ?side2 ?side3 ?side4 HB1.out).mono ?_); (case side1 => repeat (first | exact HR0.out | (with_reducible refine Kd.C_alloc ?_ _) | (with_reducible refine Kd.C_drewN ?_ _) | (with_reducible refine Kd.C_drew ?_))); (case side2 => exact hc0_0); (case side3 => repeat (first | exact HS0.out | (with_reducible refine Kd.C_alloc ?_ _) | (with_reducible refine Kd.C_drewN ?_ _) | (with_reducible refine Kd.C_drew ?_))); (case side4 => exact hc1_0); rintro e w' ⟨rfl, ⟨nd, rfl⟩⟩) | (go_at_call 27; (with_reducible refine (HE.out _ ?side1 ?side2).mono ?_); (case side1 => repeat (first | exact HR1.out | (with_reducible refine Kd.C_alloc ?_ _) | (with_reducible refine Kd.C_drewN ?_ _) | (with_reducible refine Kd.C_drew ?_))); (case side2 => repeat (first | exact HS1.out | (with_reducible refine Kd.C_alloc ?_ _) | (with_reducible refine Kd.C_drewN ?_ _) | (with_reducible refine Kd.C_drew ?_))); rintro e w' ⟨rfl, ⟨nd, rfl⟩⟩))
     go_ret
     exact ⟨rfl, by repeat (first | exact Below.refl _ _ | apply below_alloc | apply pw_below_drewN | apply below_drew1)⟩

end Go.Proofs.Ytgjidpcddnapmaa.C
