/- ChainCopies: Same tells what the document's answer tells; a copy says the same, and what is written into it leaves the first as it was. Its part over numbers and lists. -/
import Derived.Test.YtgjidpcddnapmaaStChainCopies
import Derived.Test.YtgjidpcddnapmaaPlain
import Derived.Test.YtgjidpcddnapmaaCx0
import Derived.Test.YtgjidpcddnapmaaCx2
import Derived.Test.YtgjidpcddnapmaaCx3
import Derived.Test.YtgjidpcddnapmaaCx5
import Derived.Test.YtgjidpcddnapmaaCx10
import Derived.Test.YtgjidpcddnapmaaCx11
import Derived.Test.YtgjidpcddnapmaaCx12
import Derived.Test.YtgjidpcddnapmaaCx15
import Derived.Test.YtgjidpcddnapmaaCx16
namespace Go.Proofs.Ytgjidpcddnapmaa.Pure
open Go.RowKit Go.Proofs.Ytgjidpcddnapmaa.C Go.Proofs.YtgjidpcddnapmaaW.PrintWords Go.Proofs.YtgjidpcddnapmaaW.PrintLast Go.Proofs.YtgjidpcddnapmaaW.PrintMore Go.Proofs.Ytgjidpcddnapmaa.Mine
set_option linter.unusedVariables false

theorem eqB_comm (x y : List Int) : eqB x y = eqB y x := by unfold eqB; exact Bool.beq_comm
theorem eqB_refl (x : List Int) : eqB x x = true := by unfold eqB; simp
theorem eqB_iff {x y : List Int} : eqB x y = true ↔ (strOfNums x).toList = (strOfNums y).toList := by unfold eqB; simp
/-- Whether two configurations say the same. -/
def sameC (k1 : List Int) (r1 : List (List Int)) (b1 p1 g1 : Int) (k2 : List Int) (r2 : List (List Int)) (b2 p2 g2 : Int) : Bool := eqB k1 k2 && (decide (r1.length = r2.length) && (List.zip r1 r2).all eqP && (decide (b1 = b2) && (decide (p1 = p2) && decide (g1 = g2))))
theorem chain_same_is (k1 : List Int) (r1 : List (List Int)) (b1 p1 g1 : Int) (k2 : List Int) (r2 : List (List Int)) (b2 p2 g2 : Int) : chain_Same.f k1 r1 b1 p1 g1 k2 r2 b2 p2 g2 = some (sameC k1 r1 b1 p1 g1 k2 r2 b2 p2 g2) := rfl
theorem sameC_refl (key : List Int) (l : List (List Int)) (b p g : Int) : sameC key l b p g key l b p g = true := by
  unfold sameC
  simp only [eqB_refl, decide_true, Bool.true_and, Bool.and_true]
  rw [List.all_eq_true]
  intro x hx
  have : x.1 = x.2 := by
    obtain ⟨i, h, rfl⟩ := List.getElem_of_mem hx
    simp
  unfold eqP
  rw [this]
  exact eqB_refl _
theorem wakes_is : Ev (fun k => escritoirelaw22_wakes.f k) true := Ev.of (k := 12) escritoirelaw22_wakes.mono (by decide +kernel)
theorem ref_same_is (k1 : List Int) (r1 : List (List Int)) (b1 p1 g1 : Int) (k2 : List Int) (r2 : List (List Int)) (b2 p2 g2 : Int) (hl : r1.length < 9223372036854775807) :
    Ev (fun k => escritoireref22_Same.f k k1 r1 b1 p1 g1 k2 r2 b2 p2 g2) (sameC k1 r1 b1 p1 g1 k2 r2 b2 p2 g2) := by
  have h0 : r1.length = r2.length → Ev (fun k => escritoireref22_Same.l0 k ((0 : Nat) : Int) k1 r1 b1 p1 g1 k2 r2 b2 p2 g2) (((List.zip r1 r2).drop 0).all eqP) := by
    intro he
    have hz : (List.zip r1 r2).length = r1.length := by simp; omega
    refine down (fun k i => escritoireref22_Same.l0 k (i : Int) k1 r1 b1 p1 g1 k2 r2 b2 p2 g2) (fun i => ((List.zip r1 r2).drop i).all eqP) r1.length ?_ ?_
    · refine ev_now (fun k => ?_)
      simp only [escritoireref22_Same.l0]
      rw [if_neg (by omega), List.drop_of_length_le (by omega)]
      rfl
    · intro i hi h
      have hg : (List.zip r1 r2).drop i = (rd_L1 r1 i, rd_L1 r2 i) :: (List.zip r1 r2).drop (i + 1) := by
        rw [List.drop_eq_getElem_cons (by omega)]
        congr 1
        simp [rd_L1, List.getElem?_eq_getElem hi, List.getElem?_eq_getElem (show i < r2.length by omega)]
      simp only [hg, List.all_cons]
      by_cases hq : eqB (rd_L1 r1 i) (rd_L1 r2 i) = true
      · rw [show eqP (rd_L1 r1 i, rd_L1 r2 i) = true from hq, Bool.true_and]
        refine Ev.step (fun k => ?_) h
        simp only [escritoireref22_Same.l0]
        rw [if_pos (by omega), if_pos (by omega), if_pos (by omega), if_pos (eqB_iff.1 hq), wrap_succ (by omega)]
      · have hq' : eqP (rd_L1 r1 i, rd_L1 r2 i) = false := by simpa [eqP] using hq
        rw [hq', Bool.false_and]
        refine ev_now (fun k => ?_)
        simp only [escritoireref22_Same.l0]
        rw [if_pos (by omega), if_pos (by omega), if_pos (by omega), if_neg (fun e => hq (eqB_iff.2 e))]
  have hj : Ev (fun k => escritoireref22_Same.j0 k true k1 r1 b1 p1 g1 k2 r2 b2 p2 g2) false := ev_now (fun k => by simp [escritoireref22_Same.j0])
  unfold escritoireref22_Same.f sameC
  refine ev_ite (fun h1 => ?_) (fun h1 => ?_)
  · rw [eqB_iff.2 h1, Bool.true_and]
    refine ev_ite (fun h2 => ?_) (fun h2 => ?_)
    · have h2' : r1.length = r2.length := by omega
      rw [show decide (r1.length = r2.length) = true by simp [h2'], Bool.true_and]
      refine ev_ite (fun h3 => ?_) (fun h3 => ?_)
      · refine ev_ite (fun h4 => ?_) (fun h4 => ?_)
        · rw [show decide (b1 = b2) = true by simp [h3], show decide (p1 = p2) = true by simp [h4], Bool.true_and, Bool.true_and]
          by_cases h5 : g1 = g2
          · rw [show decide (g1 = g2) = true by simp [h5], Bool.and_true, show (g1 != g2) = false by simp [h5]]
            refine Ev.step (fun k => ?_) (h0 h2')
            simp [escritoireref22_Same.j0]
          · rw [show decide (g1 = g2) = false by simp [h5], Bool.and_false, show (g1 != g2) = true by simp [h5]]
            exact hj
        · simpa [h4] using hj
      · simpa [h3] using hj
    · have h2' : ¬ r1.length = r2.length := by omega
      simpa [h2'] using hj
  · rw [show eqB k1 k2 = false by cases h : eqB k1 k2; rfl; exact absurd (eqB_iff.1 h) h1, Bool.false_and]
    exact hj
theorem own_is (key : List Int) (l : List (List Int)) (b p g : Int) (hk : key.length ≤ 140737488351232) (hl : l.length * 24 ≤ 140737488351232) (hx : ∀ x ∈ l, x.length ≤ 140737488351232) :
    Ev (fun k => escritoireref22_Own.f k key l b p g) (key, l, b, p, g) := by
  have h0 : Ev (fun k => escritoireref22_Own.l0 k ((0 : Nat) : Int) key l b p g ([] ++ key) (l.take 0) b p g) (key, l, b, p, g) := by
    refine down (fun k i => escritoireref22_Own.l0 k (i : Int) key l b p g ([] ++ key) (l.take i) b p g) (fun _ => (key, l, b, p, g)) l.length ?_ ?_
    · refine ev_now (fun k => ?_)
      simp only [escritoireref22_Own.l0]
      rw [if_neg (by omega)]
      simp
    · intro i hi h
      refine Ev.step (fun k => ?_) h
      have hm : rd_L1 l i ∈ l := by simp [rd_L1, List.getElem?_eq_getElem hi]
      have := hx _ hm
      simp only [escritoireref22_Own.l0]
      rw [if_pos (by omega), if_pos (by omega), if_pos (by simp only [List.length_nil]; omega), if_pos (by simp; omega), wrap_succ (by omega)]
      rw [take_succ_getD l [] i hi]
      rfl
  unfold escritoireref22_Own.f
  refine ev_pos (by simp only [List.length_nil]; omega) ?_
  simpa using h0

theorem copy_is (key : List Int) (l : List (List Int)) (b p g : Int) (hk : key.length ≤ 140737488351232) (hl : l.length * 24 ≤ 140737488351232) (hx : ∀ x ∈ l, x.length ≤ 140737488351232) :
    Ev (fun k => chain_Copy.f k key l b p g) (key, l, b, p, g) := by
  have h0 : Ev (fun k => chain_Copy.l0 k l (l.length : Int) ((0 : Nat) : Int) key (l.take 0) b p g) (key, l, b, p, g) := by
    refine down (fun k i => chain_Copy.l0 k l (l.length : Int) (i : Int) key (l.take i) b p g) (fun _ => (key, l, b, p, g)) l.length ?_ ?_
    · refine ev_now (fun k => ?_)
      simp only [chain_Copy.l0]
      rw [if_neg (by omega)]
      simp
    · intro i hi h
      refine Ev.step (fun k => ?_) h
      have hm : rd_L1 l i ∈ l := by simp [rd_L1, List.getElem?_eq_getElem hi]
      have := hx _ hm
      simp only [chain_Copy.l0]
      rw [if_pos (by omega), if_pos (by omega), if_pos (by omega)]
      simp only [chain_own.f]
      rw [if_pos (by omega)]
      simp only [Option.bind_some]
      rw [if_pos (by simp; omega), wrap_succ (by omega)]
      rw [take_succ_getD l [] i hi]
      rfl
  unfold chain_Copy.f
  simp only [chain_own.f]
  rw [if_pos (by omega)]
  simp only [Option.bind_some]
  simpa using h0

theorem ChainCopies : escritoirelaw22_ChainCopies.Pure := by
  intro k1 r1 b1 p1 g1 k2 r2 b2 p2 g2 hk1 hr1 hb1 hp1 hg1 hk2 hr2 hb2 hp2 hg2
  have hrl : r1.length < 9223372036854775807 := by have := hr1.1; omega
  refine Ev.rounds ?_
  unfold escritoirelaw22_ChainCopies.f
  refine Ev.bind (own_is k1 r1 b1 p1 g1 (by have := hk1.1; omega) hr1.1 (fun x hx => by have := (hr1.2 x hx).1; omega)) ?_
  refine Ev.bind (copy_is k1 r1 b1 p1 g1 (by have := hk1.1; omega) hr1.1 (fun x hx => by have := (hr1.2 x hx).1; omega)) ?_
  simp only [chain_same_is, Option.bind_some]
  refine Ev.bind (ref_same_is k1 r1 b1 p1 g1 k2 r2 b2 p2 g2 hrl) ?_
  refine ev_neg (by simp) ?_
  have hs := ref_same_is k1 r1 b1 p1 g1 k1 r1 b1 p1 g1 hrl
  rw [sameC_refl] at hs
  refine Ev.bind hs ?_
  have hj : Ev (fun k => escritoirelaw22_ChainCopies.j0 k (!true) k1 r1 b1 p1 g1 k1 r1 b1 p1 g1) true := by
    refine Ev.step (f := fun k => _) (fun k => by rw [escritoirelaw22_ChainCopies.j0]) ?_
    refine ev_neg (by simp) ?_
    refine Ev.bind hs ?_
    refine ev_pos rfl ?_
    exact Ev.bind wakes_is (Ev.now _)
  exact hj

end Go.Proofs.Ytgjidpcddnapmaa.Pure
