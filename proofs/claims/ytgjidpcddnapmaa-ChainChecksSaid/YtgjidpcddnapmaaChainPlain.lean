/- What the functions of chapter 22 compute, over lists alone. -/
import Derived.Test.YtgjidpcddnapmaaPlain
import Derived.Test.YtgjidpcddnapmaaPx
namespace Go.Proofs.Ytgjidpcddnapmaa.Pure
open Go.RowKit Go.Proofs.Ytgjidpcddnapmaa.P Go.Proofs.YtgjidpcddnapmaaW.PrintWords Go.Proofs.YtgjidpcddnapmaaW.PrintLast Go.Proofs.YtgjidpcddnapmaaW.PrintMore Go.Proofs.Ytgjidpcddnapmaa.Mine
set_option linter.unusedVariables false

theorem eqB_comm (x y : List Int) : eqB x y = eqB y x := by unfold eqB; exact Bool.beq_comm
theorem eqB_refl (x : List Int) : eqB x x = true := by unfold eqB; simp
theorem eqB_iff {x y : List Int} : eqB x y = true ↔ (strOfNums x).toList = (strOfNums y).toList := by unfold eqB; simp

/-- Is root i one of those ahead of it? -/
def dupAt (l : List (List Int)) (i : Nat) : Bool := (l.take i).any fun x => eqB x (l.getD i [])
def dup (l : List (List Int)) (i : Nat) : Bool := (List.range' i (l.length - i)).any (dupAt l)
theorem dup_step (l : List (List Int)) (i : Nat) (h : i < l.length) : dup l i = (dupAt l i || dup l (i + 1)) := by
  unfold dup
  rw [show l.length - i = (l.length - (i + 1)) + 1 by omega, List.range'_succ, List.any_cons]
theorem dup_end (l : List (List Int)) : dup l l.length = false := by unfold dup; simp
def okNum (n most : Int) : Bool := decide (1 ≤ n) && decide (n ≤ most)
theorem in_is (n most : Int) : chain_in.f n most = some (okNum n most) := by
  unfold chain_in.f okNum
  by_cases h : 1 ≤ n
  · rw [if_pos (by omega)]; simp [h]
  · rw [if_neg (by omega)]; simp [h]
def okCerts (l : List (List Int)) : Bool := l.all okCert
def okLen (l : List (List Int)) (most : Nat) : Bool := decide (1 ≤ l.length) && decide (l.length ≤ most)
theorem may_is (l : List (List Int)) (most : Nat) : chain_may.f l most = some (okLen l most && okCerts l) := by
  unfold chain_may.f okLen okCerts okCert
  simp only [Int.ofNat_le, Bool.and_assoc]
def okKey (key : List Int) : Bool := decide (1 ≤ key.length) && decide (key.length ≤ 64)
theorem sign_is (key : List Int) : sign_May.f key = some (okKey key) := by
  unfold sign_May.f okKey
  by_cases h : 1 ≤ key.length
  · rw [if_pos (by omega)]; simp [h]; omega
  · rw [if_neg (by omega)]; simp [h]
theorem ref_sign_is (key : List Int) : escritoireref06_May.f key = some (okKey key) := by
  unfold escritoireref06_May.f okKey
  by_cases h : 1 ≤ key.length
  · rw [if_pos (by omega)]; simp [h]; omega
  · rw [if_neg (by omega)]; simp [h]
def mayC (key : List Int) (l : List (List Int)) (b p g : Int) : Bool := !dup l 0 && (okKey key && (okLen l 8 && okCerts l && (okNum b 256 && (okNum p 256 && okNum g 64))))

theorem may_loop (key : List Int) (l : List (List Int)) (b p g : Int) (hl : l.length < 9223372036854775807) : Ev (fun k => chain_May.f k key l b p g) (mayC key l b p g) := by
  refine down (fun k i => chain_May.l0 k l (l.length : Int) (i : Int) key l b p g) (fun i => !dup l i && (okKey key && (okLen l 8 && okCerts l && (okNum b 256 && (okNum p 256 && okNum g 64))))) l.length ?_ ?_
  · refine ev_now (fun k => ?_)
    simp only [chain_May.l0]
    rw [if_neg (by omega), sign_is, dup_end]
    have hm := may_is l 8
    simp only [Option.bind_some, in_is]
    rw [show ((8 : Int)) = ((8 : Nat) : Int) from rfl, hm]
    cases okKey key <;> cases okLen l 8 <;> cases okCerts l <;> cases okNum b 256 <;> cases okNum p 256 <;> simp
  · intro i hi h
    by_cases hd : dupAt l i = true
    · refine ev_now (fun k => ?_)
      simp only [chain_May.l0]
      rw [if_pos (by omega), if_pos (by omega), if_pos (by omega), if_pos (by omega)]
      have : chain_among.f (l.take (i : Int).toNat) (rd_L1 l i) = some true := by
        unfold chain_among.f; rw [← hd]; rfl
      rw [this, dup_step l i hi, hd]
      simp
    · have hd' : dupAt l i = false := by simpa using hd
      have e : (!dup l i) = (!dup l (i + 1)) := by rw [dup_step l i hi, hd', Bool.false_or]
      simp only [e]
      refine Ev.step (fun k => ?_) h
      simp only [chain_May.l0]
      rw [if_pos (by omega), if_pos (by omega), if_pos (by omega), if_pos (by omega)]
      have : chain_among.f (l.take (i : Int).toNat) (rd_L1 l i) = some false := by
        unfold chain_among.f; rw [← hd']; rfl
      rw [this]
      simp only [Option.bind_some]
      rw [if_neg (by simp), wrap_succ (by omega)]

theorem certs_loop (l : List (List Int)) (hl : l.length < 9223372036854775807) : Ev (fun k => escritoireref22_certs.f k l) (okCerts l) := by
  have key : Ev (fun k => escritoireref22_certs.l0 k l ((0 : Nat) : Int)) ((l.drop 0).all okCert) := by
    refine down (fun k i => escritoireref22_certs.l0 k l (i : Int)) (fun i => (l.drop i).all okCert) l.length ?_ ?_
    · refine ev_now (fun k => ?_)
      simp only [escritoireref22_certs.l0]
      rw [if_neg (by omega)]
      simp
    · intro i hi h
      have hg : l.drop i = rd_L1 l i :: l.drop (i + 1) := by
        rw [List.drop_eq_getElem_cons hi]
        congr 1
        simp [rd_L1, List.getElem?_eq_getElem hi]
      simp only [hg, List.all_cons]
      by_cases h1 : (rd_L1 l i).length < 1
      · refine ev_now (fun k => ?_)
        simp only [escritoireref22_certs.l0]
        rw [if_pos (by omega), if_pos (by omega), if_pos (by omega)]
        simp [okCert, show ¬ 1 ≤ (rd_L1 l i).length by omega]
      · by_cases h2 : (rd_L1 l i).length ≤ 512
        · have ho : okCert (rd_L1 l i) = true := by simp [okCert, h2]; omega
          rw [ho, Bool.true_and]
          refine Ev.step (fun k => ?_) h
          simp only [escritoireref22_certs.l0]
          rw [if_pos (by omega), if_pos (by omega), if_neg (by omega), if_neg (by omega), wrap_succ (by omega)]
        · refine ev_now (fun k => ?_)
          simp only [escritoireref22_certs.l0]
          rw [if_pos (by omega), if_pos (by omega), if_neg (by omega), if_pos (by omega)]
          simp [okCert, h2]
  exact key

theorem ref_inner (key : List Int) (l : List (List Int)) (b p g : Int) (hl : l.length < 9223372036854775807) (i : Nat) (hi : i < l.length) (r : Bool)
    (h : Ev (fun k => escritoireref22_May.l0 k ((i + 1 : Nat) : Int) key l b p g) r) :
    Ev (fun k => escritoireref22_May.l1 k (i : Int) 0 key l b p g) (!dupAt l i && r) := by
  have key : Ev (fun k => escritoireref22_May.l1 k (i : Int) ((0 : Nat) : Int) key l b p g) (!((l.take i).drop 0).any (fun x => eqB x (l.getD i [])) && r) := by
    refine down (fun k j => escritoireref22_May.l1 k (i : Int) (j : Int) key l b p g) (fun j => !((l.take i).drop j).any (fun x => eqB x (l.getD i [])) && r) i ?_ ?_
    · have e : (l.take i).drop i = [] := by simp
      simp only [e, List.any_nil, Bool.not_false, Bool.true_and]
      refine Ev.step (fun k => ?_) h
      simp only [escritoireref22_May.l1]
      rw [if_neg (by omega), wrap_succ (by omega)]
    · intro j hj h2
      have hjl : j < (l.take i).length := by simp; omega
      have hg : (l.take i).drop j = rd_L1 l j :: (l.take i).drop (j + 1) := by
        rw [List.drop_eq_getElem_cons hjl]
        congr 1
        simp [rd_L1, List.getElem?_eq_getElem (show j < l.length by omega)]
      simp only [hg, List.any_cons]
      by_cases he : eqB (rd_L1 l j) (l.getD i []) = true
      · refine ev_now (fun k => ?_)
        simp only [escritoireref22_May.l1]
        rw [if_pos (by omega), if_pos (by omega), if_pos (by omega), if_pos (by omega), if_pos (by omega), if_pos (eqB_iff.1 (by rw [eqB_comm]; exact he)), he]
        rfl
      · have he' : eqB (rd_L1 l j) (l.getD i []) = false := by simpa using he
        rw [he', Bool.false_or]
        refine Ev.step (fun k => ?_) h2
        simp only [escritoireref22_May.l1]
        rw [if_pos (by omega), if_pos (by omega), if_pos (by omega), if_pos (by omega), if_pos (by omega), if_neg (fun e => he (by rw [eqB_comm]; exact eqB_iff.2 e)), wrap_succ (by omega)]
  exact key

theorem ref_may (key : List Int) (l : List (List Int)) (b p g : Int) (hl : l.length < 9223372036854775807) : Ev (fun k => escritoireref22_May.f k key l b p g) (mayC key l b p g) := by
  have h0 : Ev (fun k => escritoireref22_May.l0 k ((0 : Nat) : Int) key l b p g) (!dup l 0 && (okNum b 256 && (okNum p 256 && okNum g 64))) := by
    refine down (fun k i => escritoireref22_May.l0 k (i : Int) key l b p g) (fun i => !dup l i && (okNum b 256 && (okNum p 256 && okNum g 64))) l.length ?_ ?_
    · refine ev_now (fun k => ?_)
      simp only [escritoireref22_May.l0, dup_end]
      rw [if_neg (by omega)]
      unfold okNum
      by_cases h1 : 1 ≤ b <;> by_cases h2 : b ≤ 256 <;> by_cases h3 : 1 ≤ p <;> by_cases h4 : p ≤ 256 <;> by_cases h5 : 1 ≤ g <;> simp [h1, h2, h3, h4, h5]
    · intro i hi h
      have e : (!dup l i && (okNum b 256 && (okNum p 256 && okNum g 64))) = (!dupAt l i && (!dup l (i + 1) && (okNum b 256 && (okNum p 256 && okNum g 64)))) := by
        rw [dup_step l i hi, Bool.not_or, Bool.and_assoc]
      simp only [e]
      refine Ev.step (fun k => ?_) (ref_inner key l b p g hl i hi _ h)
      simp only [escritoireref22_May.l0]
      rw [if_pos (by omega)]
  have hj : ∀ x : Bool, Ev (fun k => escritoireref22_May.j0 k x key l b p g) (!x && (!dup l 0 && (okNum b 256 && (okNum p 256 && okNum g 64)))) := by
    intro x
    cases x with
    | true => exact ev_now (fun k => by simp [escritoireref22_May.j0])
    | false => exact Ev.step (fun k => by simp [escritoireref22_May.j0]) h0
  unfold escritoireref22_May.f
  simp only [ref_sign_is, Option.bind_some]
  have hm : mayC key l b p g = (okKey key && (okLen l 8 && (okCerts l && (!dup l 0 && (okNum b 256 && (okNum p 256 && okNum g 64)))))) := by
    unfold mayC
    cases dup l 0 <;> cases okKey key <;> cases okLen l 8 <;> cases okCerts l <;> simp
  rw [hm]
  cases hk : okKey key with
  | false => simpa using hj true
  | true =>
    simp only [if_true, Bool.true_and]
    unfold okLen
    refine ev_ite (fun h1 => ?_) (fun h1 => ev_ite (fun h2 => ?_) (fun h2 => ?_))
    · simpa [show ¬ 1 ≤ l.length by omega] using hj true
    · simpa [show ¬ l.length ≤ 8 by omega] using hj true
    · rw [show decide (1 ≤ l.length) = true by simp; omega, show decide (l.length ≤ 8) = true by simp; omega]
      simp only [Bool.true_and]
      refine Ev.bind (certs_loop l hl) ?_
      simpa using hj (!okCerts l)

/-- What Check tells. -/
def checkC (m : Bool) (roots l : List (List Int)) : Int := if m then (if (okLen l 4 && okCerts l) = true then (if (roots.any fun x => eqB x (l.getD (l.length - 1) [])) = true then 0 else 31) else 30) else 1
theorem check_is (key : List Int) (roots : List (List Int)) (b p g : Int) (hr : roots.length < 9223372036854775807) (l : List (List Int)) (hl : l.length < 9223372036854775807) :
    Ev (fun k => chain_Check.f k key roots b p g l) (checkC (mayC key roots b p g) roots l) := by
  unfold chain_Check.f
  refine Ev.bind (may_loop key roots b p g hr) ?_
  unfold checkC
  cases mayC key roots b p g with
  | false => simpa using Ev.now _
  | true =>
    simp only [if_true]
    have hm := may_is l 4
    rw [show ((4 : Nat) : Int) = (4 : Int) from rfl] at hm
    simp only [hm, Option.bind_some]
    cases hc : (okLen l 4 && okCerts l) with
    | false => simpa using Ev.now _
    | true =>
      simp only [if_true]
      have h1 : 1 ≤ l.length := by
        simp only [okLen, Bool.and_eq_true, decide_eq_true_eq] at hc
        exact hc.1.1
      rw [wrap_pred h1 hl]
      refine ev_some (fun k => ?_)
      rw [if_pos (by omega), if_pos (by omega)]
      simp only [chain_among.f, Option.bind_some, rd_L1, Int.toNat_natCast]
      split <;> rfl
theorem ref_check_is (key : List Int) (roots : List (List Int)) (b p g : Int) (hr : roots.length < 9223372036854775807) (l : List (List Int)) (hl : l.length < 9223372036854775807) :
    Ev (fun k => escritoireref22_Check.f k key roots b p g l) (checkC (mayC key roots b p g) roots l) := by
  have h0 : 1 ≤ l.length → Ev (fun k => escritoireref22_Check.l0 k l ((0 : Nat) : Int) key roots b p g) (if ((roots.drop 0).any fun x => eqB x (l.getD (l.length - 1) [])) = true then 0 else 31) := by
    intro h1
    refine down (fun k i => escritoireref22_Check.l0 k l (i : Int) key roots b p g) (fun i => if ((roots.drop i).any fun x => eqB x (l.getD (l.length - 1) [])) = true then 0 else 31) roots.length ?_ ?_
    · refine ev_now (fun k => ?_)
      simp only [escritoireref22_Check.l0]
      rw [if_neg (by omega)]
      simp
    · intro i hi h
      have hg : roots.drop i = rd_L1 roots i :: roots.drop (i + 1) := by
        rw [List.drop_eq_getElem_cons hi]
        congr 1
        simp [rd_L1, List.getElem?_eq_getElem hi]
      simp only [hg, List.any_cons]
      by_cases he : eqB (rd_L1 roots i) (l.getD (l.length - 1) []) = true
      · refine ev_now (fun k => ?_)
        simp only [escritoireref22_Check.l0]
        rw [if_pos (by omega), if_pos (by omega), wrap_pred h1 hl, if_pos (by omega), if_pos (by omega), if_pos (eqB_iff.1 (by simpa [rd_L1] using he)), he]
        rfl
      · have he' : eqB (rd_L1 roots i) (l.getD (l.length - 1) []) = false := by simpa using he
        rw [he', Bool.false_or]
        refine Ev.step (fun k => ?_) h
        simp only [escritoireref22_Check.l0]
        rw [if_pos (by omega), if_pos (by omega), wrap_pred h1 hl, if_pos (by omega), if_pos (by omega), if_neg (fun e => he (eqB_iff.2 (by simpa [rd_L1] using e))), wrap_succ (by omega)]
  unfold escritoireref22_Check.f
  refine Ev.bind (ref_may key roots b p g hr) ?_
  unfold checkC
  cases mayC key roots b p g with
  | false => simpa using Ev.now _
  | true =>
    simp only [if_true]
    have hj : Ev (fun k => escritoireref22_Check.j0 k l true key roots b p g) 30 := ev_now (fun k => by simp [escritoireref22_Check.j0])
    unfold okLen
    refine ev_ite (fun h1 => ?_) (fun h1 => ev_ite (fun h2 => ?_) (fun h2 => ?_))
    · simpa [show ¬ 1 ≤ l.length by omega] using hj
    · simpa [show ¬ l.length ≤ 4 by omega] using hj
    · rw [show decide (1 ≤ l.length) = true by simp; omega, show decide (l.length ≤ 4) = true by simp; omega]
      simp only [Bool.true_and]
      refine Ev.bind (certs_loop l hl) ?_
      cases okCerts l with
      | false => simpa using hj
      | true =>
        refine Ev.step (fun k => ?_) (h0 (by omega))
        simp [escritoireref22_Check.j0]

theorem same_refl (l : List (List Int)) (hl : l.length < 9223372036854775807) : Ev (fun k => escritoirelaw22_same.f k l l) true := by
  have key : Ev (fun k => escritoirelaw22_same.l0 k l l ((0 : Nat) : Int)) true := by
    refine down (fun k i => escritoirelaw22_same.l0 k l l (i : Int)) (fun _ => true) l.length ?_ ?_
    · refine ev_now (fun k => ?_)
      simp only [escritoirelaw22_same.l0]
      rw [if_neg (by omega)]
    · intro i hi h
      refine Ev.step (fun k => ?_) h
      simp only [escritoirelaw22_same.l0]
      rw [if_pos (by omega), if_pos (by omega), if_pos (by omega), if_pos (by trivial), wrap_succ (by omega)]
  unfold escritoirelaw22_same.f
  refine ev_pos rfl key

/-- Whether two configurations say the same. -/
def sameC (k1 : List Int) (r1 : List (List Int)) (b1 p1 g1 : Int) (k2 : List Int) (r2 : List (List Int)) (b2 p2 g2 : Int) : Bool := eqB k1 k2 && (decide (r1.length = r2.length) && (List.zip r1 r2).all eqP && (decide (b1 = b2) && (decide (p1 = p2) && decide (g1 = g2))))
theorem chain_same_is (k1 : List Int) (r1 : List (List Int)) (b1 p1 g1 : Int) (k2 : List Int) (r2 : List (List Int)) (b2 p2 g2 : Int) : chain_Same.f k1 r1 b1 p1 g1 k2 r2 b2 p2 g2 = some (sameC k1 r1 b1 p1 g1 k2 r2 b2 p2 g2) := rfl
theorem ref_same_is (k1 : List Int) (r1 : List (List Int)) (b1 p1 g1 : Int) (k2 : List Int) (r2 : List (List Int)) (b2 p2 g2 : Int) (hl : r1.length < 9223372036854775807) :
    Ev (fun k => escritoireref22_Same.f k k1 r1 b1 p1 g1 k2 r2 b2 p2 g2) (sameC k1 r1 b1 p1 g1 k2 r2 b2 p2 g2) := by
  have h0 : r1.length = r2.length → Ev (fun k => escritoireref22_Same.l0 k ((0 : Nat) : Int) k1 r1 b1 p1 g1 k2 r2 b2 p2 g2) (((List.zip r1 r2).drop 0).all eqP) := by
    intro he
    have hz : (List.zip r1 r2).length = r1.length := by simp; omega
    refine down (fun k i => escritoireref22_Same.l0 k (i : Int) k1 r1 b1 p1 g1 k2 r2 b2 p2 g2) (fun i => ((List.zip r1 r2).drop i).all eqP) r1.length ?_ ?_
    · refine ev_now (fun k => ?_)
      simp only [escritoireref22_Same.l0]
      rw [if_neg (by omega), List.drop_of_length_le (by omega)]
      rfl
    · intro i hi h
      have hg : (List.zip r1 r2).drop i = (rd_L1 r1 i, rd_L1 r2 i) :: (List.zip r1 r2).drop (i + 1) := by
        rw [List.drop_eq_getElem_cons (by omega)]
        congr 1
        simp [rd_L1, List.getElem?_eq_getElem hi, List.getElem?_eq_getElem (show i < r2.length by omega)]
      simp only [hg, List.all_cons]
      by_cases hq : eqB (rd_L1 r1 i) (rd_L1 r2 i) = true
      · rw [show eqP (rd_L1 r1 i, rd_L1 r2 i) = true from hq, Bool.true_and]
        refine Ev.step (fun k => ?_) h
        simp only [escritoireref22_Same.l0]
        rw [if_pos (by omega), if_pos (by omega), if_pos (by omega), if_pos (eqB_iff.1 hq), wrap_succ (by omega)]
      · have hq' : eqP (rd_L1 r1 i, rd_L1 r2 i) = false := by simpa [eqP] using hq
        rw [hq', Bool.false_and]
        refine ev_now (fun k => ?_)
        simp only [escritoireref22_Same.l0]
        rw [if_pos (by omega), if_pos (by omega), if_pos (by omega), if_neg (fun e => hq (eqB_iff.2 e))]
  have hj : Ev (fun k => escritoireref22_Same.j0 k true k1 r1 b1 p1 g1 k2 r2 b2 p2 g2) false := ev_now (fun k => by simp [escritoireref22_Same.j0])
  unfold escritoireref22_Same.f sameC
  refine ev_ite (fun h1 => ?_) (fun h1 => ?_)
  · rw [eqB_iff.2 h1, Bool.true_and]
    refine ev_ite (fun h2 => ?_) (fun h2 => ?_)
    · have h2' : r1.length = r2.length := by omega
      rw [show decide (r1.length = r2.length) = true by simp [h2'], Bool.true_and]
      refine ev_ite (fun h3 => ?_) (fun h3 => ?_)
      · refine ev_ite (fun h4 => ?_) (fun h4 => ?_)
        · rw [show decide (b1 = b2) = true by simp [h3], show decide (p1 = p2) = true by simp [h4], Bool.true_and, Bool.true_and]
          by_cases h5 : g1 = g2
          · rw [show decide (g1 = g2) = true by simp [h5], Bool.and_true, show (g1 != g2) = false by simp [h5]]
            refine Ev.step (fun k => ?_) (h0 h2')
            simp [escritoireref22_Same.j0]
          · rw [show decide (g1 = g2) = false by simp [h5], Bool.and_false, show (g1 != g2) = true by simp [h5]]
            exact hj
        · simpa [h4] using hj
      · simpa [h3] using hj
    · have h2' : ¬ r1.length = r2.length := by omega
      simpa [h2'] using hj
  · rw [show eqB k1 k2 = false by cases h : eqB k1 k2; rfl; exact absurd (eqB_iff.1 h) h1, Bool.false_and]
    exact hj
theorem sameC_refl (key : List Int) (l : List (List Int)) (b p g : Int) : sameC key l b p g key l b p g = true := by
  unfold sameC
  simp only [eqB_refl, decide_true, Bool.true_and, Bool.and_true]
  rw [List.all_eq_true]
  intro x hx
  have : x.1 = x.2 := by
    obtain ⟨i, h, rfl⟩ := List.getElem_of_mem hx
    simp
  unfold eqP
  rw [this]
  exact eqB_refl _

theorem own_is (key : List Int) (l : List (List Int)) (b p g : Int) (hk : key.length ≤ 140737488351232) (hl : l.length * 24 ≤ 140737488351232) (hx : ∀ x ∈ l, x.length ≤ 140737488351232) :
    Ev (fun k => escritoireref22_Own.f k key l b p g) (key, l, b, p, g) := by
  have h0 : Ev (fun k => escritoireref22_Own.l0 k ((0 : Nat) : Int) key l b p g ([] ++ key) (l.take 0) b p g) (key, l, b, p, g) := by
    refine down (fun k i => escritoireref22_Own.l0 k (i : Int) key l b p g ([] ++ key) (l.take i) b p g) (fun _ => (key, l, b, p, g)) l.length ?_ ?_
    · refine ev_now (fun k => ?_)
      simp only [escritoireref22_Own.l0]
      rw [if_neg (by omega)]
      simp
    · intro i hi h
      refine Ev.step (fun k => ?_) h
      have hm : rd_L1 l i ∈ l := by simp [rd_L1, List.getElem?_eq_getElem hi]
      have := hx _ hm
      simp only [escritoireref22_Own.l0]
      rw [if_pos (by omega), if_pos (by omega), if_pos (by simp only [List.length_nil]; omega), if_pos (by simp; omega), wrap_succ (by omega)]
      rw [take_succ_getD l [] i hi]
      rfl
  unfold escritoireref22_Own.f
  refine ev_pos (by simp only [List.length_nil]; omega) ?_
  simpa using h0

theorem wakes_is : Ev (fun k => escritoirelaw22_wakes.f k) true := Ev.of (k := 12) escritoirelaw22_wakes.mono (by decide +kernel)
end Go.Proofs.Ytgjidpcddnapmaa.Pure
