/- What the functions of chapter 22 compute, over lists alone. -/
import Derived.Test.YtgjidpcddnapmaaPlain
import Derived.Test.YtgjidpcddnapmaaPx0
import Derived.Test.YtgjidpcddnapmaaPx4
import Derived.Test.YtgjidpcddnapmaaPx5
import Derived.Test.YtgjidpcddnapmaaPx6
import Derived.Test.YtgjidpcddnapmaaPx7
import Derived.Test.YtgjidpcddnapmaaPx10
import Derived.Test.YtgjidpcddnapmaaPx16
import Derived.Test.YtgjidpcddnapmaaPx19
namespace Go.Proofs.Ytgjidpcddnapmaa.Pure
open Go.RowKit Go.Proofs.Ytgjidpcddnapmaa.P Go.Proofs.YtgjidpcddnapmaaW.PrintWords Go.Proofs.YtgjidpcddnapmaaW.PrintLast Go.Proofs.YtgjidpcddnapmaaW.PrintMore Go.Proofs.Ytgjidpcddnapmaa.Mine
set_option linter.unusedVariables false

theorem eqB_comm (x y : List Int) : eqB x y = eqB y x := by unfold eqB; exact Bool.beq_comm
theorem eqB_refl (x : List Int) : eqB x x = true := by unfold eqB; simp
theorem eqB_iff {x y : List Int} : eqB x y = true ↔ (strOfNums x).toList = (strOfNums y).toList := by unfold eqB; simp

/-- Is root i one of those ahead of it? -/
def dupAt (l : List (List Int)) (i : Nat) : Bool := (l.take i).any fun x => eqB x (l.getD i [])
def dup (l : List (List Int)) (i : Nat) : Bool := (List.range' i (l.length - i)).any (dupAt l)
theorem dup_step (l : List (List Int)) (i : Nat) (h : i < l.length) : dup l i = (dupAt l i || dup l (i + 1)) := by
  unfold dup
  rw [show l.length - i = (l.length - (i + 1)) + 1 by omega, List.range'_succ, List.any_cons]
theorem dup_end (l : List (List Int)) : dup l l.length = false := by unfold dup; simp
def okNum (n most : Int) : Bool := decide (1 ≤ n) && decide (n ≤ most)
theorem in_is (n most : Int) : chain_in.f n most = some (okNum n most) := by
  unfold chain_in.f okNum
  by_cases h : 1 ≤ n
  · rw [if_pos (by omega)]; simp [h]
  · rw [if_neg (by omega)]; simp [h]
def okCerts (l : List (List Int)) : Bool := l.all okCert
def okLen (l : List (List Int)) (most : Nat) : Bool := decide (1 ≤ l.length) && decide (l.length ≤ most)
theorem may_is (l : List (List Int)) (most : Nat) : chain_may.f l most = some (okLen l most && okCerts l) := by
  unfold chain_may.f okLen okCerts okCert
  simp only [Int.ofNat_le, Bool.and_assoc]
def okKey (key : List Int) : Bool := decide (1 ≤ key.length) && decide (key.length ≤ 64)
theorem sign_is (key : List Int) : sign_May.f key = some (okKey key) := by
  unfold sign_May.f okKey
  by_cases h : 1 ≤ key.length
  · rw [if_pos (by omega)]; simp [h]; omega
  · rw [if_neg (by omega)]; simp [h]
def mayC (key : List Int) (l : List (List Int)) (b p g : Int) : Bool := !dup l 0 && (okKey key && (okLen l 8 && okCerts l && (okNum b 256 && (okNum p 256 && okNum g 64))))

theorem may_loop (key : List Int) (l : List (List Int)) (b p g : Int) (hl : l.length < 9223372036854775807) : Ev (fun k => chain_May.f k key l b p g) (mayC key l b p g) := by
  refine down (fun k i => chain_May.l0 k l (l.length : Int) (i : Int) key l b p g) (fun i => !dup l i && (okKey key && (okLen l 8 && okCerts l && (okNum b 256 && (okNum p 256 && okNum g 64))))) l.length ?_ ?_
  · refine ev_now (fun k => ?_)
    simp only [chain_May.l0]
    rw [if_neg (by omega), sign_is, dup_end]
    have hm := may_is l 8
    simp only [Option.bind_some, in_is]
    rw [show ((8 : Int)) = ((8 : Nat) : Int) from rfl, hm]
    cases okKey key <;> cases okLen l 8 <;> cases okCerts l <;> cases okNum b 256 <;> cases okNum p 256 <;> simp
  · intro i hi h
    by_cases hd : dupAt l i = true
    · refine ev_now (fun k => ?_)
      simp only [chain_May.l0]
      rw [if_pos (by omega), if_pos (by omega), if_pos (by omega), if_pos (by omega)]
      have : chain_among.f (l.take (i : Int).toNat) (rd_L1 l i) = some true := by
        unfold chain_among.f; rw [← hd]; rfl
      rw [this, dup_step l i hi, hd]
      simp
    · have hd' : dupAt l i = false := by simpa using hd
      have e : (!dup l i) = (!dup l (i + 1)) := by rw [dup_step l i hi, hd', Bool.false_or]
      simp only [e]
      refine Ev.step (fun k => ?_) h
      simp only [chain_May.l0]
      rw [if_pos (by omega), if_pos (by omega), if_pos (by omega), if_pos (by omega)]
      have : chain_among.f (l.take (i : Int).toNat) (rd_L1 l i) = some false := by
        unfold chain_among.f; rw [← hd']; rfl
      rw [this]
      simp only [Option.bind_some]
      rw [if_neg (by simp), wrap_succ (by omega)]

/-- What Check tells. -/
def checkC (m : Bool) (roots l : List (List Int)) : Int := if m then (if (okLen l 4 && okCerts l) = true then (if (roots.any fun x => eqB x (l.getD (l.length - 1) [])) = true then 0 else 31) else 30) else 1
theorem check_is (key : List Int) (roots : List (List Int)) (b p g : Int) (hr : roots.length < 9223372036854775807) (l : List (List Int)) (hl : l.length < 9223372036854775807) :
    Ev (fun k => chain_Check.f k key roots b p g l) (checkC (mayC key roots b p g) roots l) := by
  unfold chain_Check.f
  refine Ev.bind (may_loop key roots b p g hr) ?_
  unfold checkC
  cases mayC key roots b p g with
  | false => simpa using Ev.now _
  | true =>
    simp only [if_true]
    have hm := may_is l 4
    rw [show ((4 : Nat) : Int) = (4 : Int) from rfl] at hm
    simp only [hm, Option.bind_some]
    cases hc : (okLen l 4 && okCerts l) with
    | false => simpa using Ev.now _
    | true =>
      simp only [if_true]
      have h1 : 1 ≤ l.length := by
        simp only [okLen, Bool.and_eq_true, decide_eq_true_eq] at hc
        exact hc.1.1
      rw [wrap_pred h1 hl]
      refine ev_some (fun k => ?_)
      rw [if_pos (by omega), if_pos (by omega)]
      simp only [chain_among.f, Option.bind_some, rd_L1, Int.toNat_natCast]
      split <;> rfl
/-- Whether two configurations say the same. -/
def sameC (k1 : List Int) (r1 : List (List Int)) (b1 p1 g1 : Int) (k2 : List Int) (r2 : List (List Int)) (b2 p2 g2 : Int) : Bool := eqB k1 k2 && (decide (r1.length = r2.length) && (List.zip r1 r2).all eqP && (decide (b1 = b2) && (decide (p1 = p2) && decide (g1 = g2))))
theorem chain_same_is (k1 : List Int) (r1 : List (List Int)) (b1 p1 g1 : Int) (k2 : List Int) (r2 : List (List Int)) (b2 p2 g2 : Int) : chain_Same.f k1 r1 b1 p1 g1 k2 r2 b2 p2 g2 = some (sameC k1 r1 b1 p1 g1 k2 r2 b2 p2 g2) := rfl
theorem sameC_refl (key : List Int) (l : List (List Int)) (b p g : Int) : sameC key l b p g key l b p g = true := by
  unfold sameC
  simp only [eqB_refl, decide_true, Bool.true_and, Bool.and_true]
  rw [List.all_eq_true]
  intro x hx
  have : x.1 = x.2 := by
    obtain ⟨i, h, rfl⟩ := List.getElem_of_mem hx
    simp
  unfold eqP
  rw [this]
  exact eqB_refl _

theorem wakes_is : Ev (fun k => escritoirelaw22_wakes.f k) true := Ev.of (k := 12) escritoirelaw22_wakes.mono (by decide +kernel)
end Go.Proofs.Ytgjidpcddnapmaa.Pure
