/- Reply: what bytes begin with: the contract, by the kit's walk (a map is ranged over, in any order). -/
import Derived.Test.YtcobmomjdbmacaaDoorreLay
import Derived.Test.YtcobmomjdbmacaaDoorrePl
import Derived.WalkKit
import Derived.Lib.AppendIntMem
import Derived.Carry
import Derived.Maps.RangeWalk
import Derived.Maps.StringElems
set_option linter.unusedVariables false
set_option linter.unusedSimpArgs false
namespace Go
/-- An entry of a map that is written out. -/
theorem wpList_insert_own {H : Type} {P : Program} (w : World) {ops : Array Oper} {rest : List Oper} {o : Oper} {a : Act} {Q : Exit → Act → World → Prop}
    (hg : o.guard = none) (m x v : Operand) (t : TypeId) (hop : o.op = Op.insert t m x v)
    (k e : TypeId) (K : Maps.Keyed P k) (ht : P.underlying t = some (.map k e)) (R : Value → Option (DataW H × List MemPlace)) (b n : Nat) (D : DataW H)
    (hm : a.eval m = .map (some b)) (hown : w.ownsMap P k R b n D) (hn : n < maxLen) (key val : Value) (kl : Lit) (hx : a.eval x = key) (hv : a.eval v = val) (hkey : keyOf P k key = some kl)
    (d : DataW H) (ps : List MemPlace) (hval : R val = some (d, ps))
    (hK : ∀ w', w'.ownsMap P k R b (n + 1) (D.put kl d) → w.grownBy w' (some b) → wpList P ops Q rest (a.put o.dst undef) w') :
    wpList P ops Q (o :: rest) a w := by
  refine wpList_plain hg fun K' hK' => ?_
  obtain ⟨w', hrun, r1, r2⟩ := hown.update K ht hn hkey hval
  unfold Oper.wp
  simp [execOp, hop, hm, hx, hv, hrun, Result.andThen]
  exact hK' _ _ (hK w' r1 r2)
end Go
namespace Go.Proofs.Re
open Go Go.RowKit Go.Maps

theorem law3 : Keyed Tryd.prog 3 := int_keyed Tryd.underlying3
/-- The statuses' words as a map reads. -/
def putW {H : Type} (D : DataW H) (st : Nat) : DataW H := D.put (.int .i64 st) (.lit (.string (words st)))
def D6 {H : Type} : DataW H := codes.foldl putW (.map [])

set_option maxHeartbeats 1000000 in
set_option maxRecDepth 100000 in
theorem words_any {H : Type} (w : World) : Calls Tryd.prog 27 #[] w fun e w' => e = .returned (.map (some w.heap.size)) ∧ w'.ownsMap Tryd.prog 3 (plainElem (H := H) Tryd.prog 9) w.heap.size 6 D6 ∧ Below w.heap.size w w' := by
  have hmm := @run_makeMap Tryd.prog
  have hown0 : (w.alloc (.map #[] 0)).ownsMap Tryd.prog 3 (plainElem (H := H) Tryd.prog 9) w.heap.size 0 (.map []) := World.ownsMap_made _ _ _ _
  have hbel0 : Below w.heap.size w (w.alloc (.map #[] 0)) := (Below.refl _ _).alloc (Nat.le_refl _) _
  go_enter Tryd.func27, Tryd.ntmps27
  go_wp2_with (first
    | (refine wpList_insert_own _ rfl _ _ _ 56 rfl 3 9 law3 Tryd.underlying56 (plainElem (H := H) Tryd.prog 9) w.heap.size _ _ rfl (by assumption) (by unfold maxLen; omega) _ _ _ rfl rfl (keyOf_int_mk Tryd.underlying3 (by decide)) _ [] (plainElem_string Tryd.underlying9 (by decide)) ?_; intro w1 hown1 hgrow1; have hbel1 : Below w.heap.size w w1 := Below.grown (by assumption) hgrow1 (Below.size (by assumption)) (fun j hj => by cases hj; exact Nat.le_refl _); clear hgrow1)
    | go_in)
  go_ret
  exact ⟨rfl, by assumption, by assumption⟩

/-- What bytes begin with. -/
def begF (l : List UInt8) : Nat × Nat × Bool := match codes.find? fun st => (line st).isPrefixOf l with
  | some st => (st, (line st).length, true)
  | none => (0, 0, codes.any fun st => l.isPrefixOf (line st))
/-- Where the loop stands. -/
structure Met (l : List UInt8) (left : Lit → Bool) (mb : Bool) : Prop where
  no : ∀ st ∈ codes, left (.int .i64 st) = false → (line st).isPrefixOf l = false
  may : mb = true ↔ ∃ st ∈ codes, left (.int .i64 st) = false ∧ l.isPrefixOf (line st) = true
theorem D6_eq {H : Type} : (D6 : DataW H) = .map (codes.map fun (st : Nat) => (Lit.int .i64 (st : Int), .lit (.string (words (st : Int))))) := by kernel_rfl
theorem D6_key {H : Type} (x : Int) (y : DataW H) (h : ∀ zd, (D6 : DataW H).atKey (.int .i64 x) zd = y) : ∃ st : Nat, st ∈ codes ∧ x = st ∧ y = .lit (.string (words st)) := by
  rw [D6_eq] at h
  have key : ∀ zd : DataW H, (DataW.map (codes.map fun (st : Nat) => (Lit.int .i64 (st : Int), (DataW.lit (.string (words (st : Int))) : DataW H)))).atKey (.int .i64 x) zd = if x = 200 then .lit (.string (words 200)) else if x = 400 then .lit (.string (words 400)) else if x = 404 then .lit (.string (words 404)) else if x = 405 then .lit (.string (words 405)) else if x = 500 then .lit (.string (words 500)) else if x = 503 then .lit (.string (words 503)) else zd := by
    intro zd
    simp only [codes, List.map_cons, List.map_nil, DataW.atKey, List.find?_cons, Lit.sameKey]
    have f : ∀ n : Nat, x ≠ (n : Int) → decide (True ∧ (n : Int) = x) = false := fun n hn => decide_eq_false (fun q => hn q.2.symm)
    by_cases h1 : x = 200
    · subst h1; rfl
    · rw [f 200 h1, if_neg h1]
      by_cases h2 : x = 400
      · subst h2; rfl
      · rw [f 400 h2, if_neg h2]
        by_cases h3 : x = 404
        · subst h3; rfl
        · rw [f 404 h3, if_neg h3]
          by_cases h4 : x = 405
          · subst h4; rfl
          · rw [f 405 h4, if_neg h4]
            by_cases h5 : x = 500
            · subst h5; rfl
            · rw [f 500 h5, if_neg h5]
              by_cases h6 : x = 503
              · subst h6; rfl
              · rw [f 503 h6, if_neg h6]
                rfl
  simp only [key] at h
  by_cases h1 : x = 200
  · exact ⟨200, by decide, h1, by have := h .nil; simp only [h1, if_true] at this; exact this.symm⟩
  · by_cases h2 : x = 400
    · exact ⟨400, by decide, h2, by have := h .nil; simp [h2] at this; exact this.symm⟩
    · by_cases h3 : x = 404
      · exact ⟨404, by decide, h3, by have := h .nil; simp [h3] at this; exact this.symm⟩
      · by_cases h4 : x = 405
        · exact ⟨405, by decide, h4, by have := h .nil; simp [h4] at this; exact this.symm⟩
        · by_cases h5 : x = 500
          · exact ⟨500, by decide, h5, by have := h .nil; simp [h5] at this; exact this.symm⟩
          · by_cases h6 : x = 503
            · exact ⟨503, by decide, h6, by have := h .nil; simp [h6] at this; exact this.symm⟩
            · exfalso
              simp only [h1, h2, h3, h4, h5, h6, if_false] at h
              have a := (h .nil).trans (h (.lit (.bool true))).symm
              cases a
theorem Met.start {H : Type} (l : List UInt8) : Met l (Maps.has (D6 : DataW H)) false := by
  have hh : ∀ st ∈ codes, Maps.has (D6 : DataW H) (.int .i64 st) = true := by
    intro st hst
    simp only [codes, List.mem_cons, List.not_mem_nil, or_false] at hst
    rcases hst with rfl | rfl | rfl | rfl | rfl | rfl
    all_goals kernel_rfl
  refine ⟨fun st hst h => ?_, fun h => (by cases h), ?_⟩
  · rw [hh st hst] at h; cases h
  · rintro ⟨st, hst, h, _⟩
    rw [hh st hst] at h; cases h
theorem Met.done {l : List UInt8} {left : Lit → Bool} {mb : Bool} (h : Met l left mb) (hl : ∀ kl, left kl = false) : begF l = (0, 0, mb) := by
  have hn : codes.find? (fun st => (line st).isPrefixOf l) = none := List.find?_eq_none.2 fun st hst => by rw [h.no st hst (hl _)]; simp
  unfold begF
  rw [hn]
  have : (codes.any fun st => l.isPrefixOf (line st)) = mb := by
    rw [Bool.eq_iff_iff, List.any_eq_true, h.may]
    exact ⟨fun ⟨st, a, b⟩ => ⟨st, a, hl _, b⟩, fun ⟨st, a, _, b⟩ => ⟨st, a, b⟩⟩
  rw [← this]
theorem code_big {st : Nat} (h : st ∈ codes) : 200 ≤ st ∧ st ≤ 503 := by
  simp only [codes, List.mem_cons, List.not_mem_nil, or_false] at h
  omega
theorem take_pre {l x : List UInt8} {n : Nat} (hn : x.length = n) (hp : x.isPrefixOf l = false) : (l.take n).isPrefixOf x = l.isPrefixOf x := by
  rcases Nat.lt_or_ge n l.length with h | h
  · have e1 : (l.take n).isPrefixOf x = false := by
      cases hq : (l.take n).isPrefixOf x with
      | false => rfl
      | true =>
        obtain ⟨r, e⟩ := pre_iff.1 hq
        have el := congrArg List.length e
        rw [List.length_append, List.length_take, Nat.min_eq_left (by omega)] at el
        obtain rfl : r = [] := List.eq_nil_of_length_eq_zero (by omega)
        rw [List.append_nil] at e
        have : x.isPrefixOf l = true := pre_iff.2 ⟨l.drop n, by rw [e]; exact (List.take_append_drop n l).symm⟩
        rw [hp] at this
        cases this
    have e2 : l.isPrefixOf x = false := by
      cases hq : l.isPrefixOf x with
      | false => rfl
      | true =>
        obtain ⟨r, e⟩ := pre_iff.1 hq
        have el := congrArg List.length e
        rw [List.length_append] at el
        omega
    rw [e1, e2]
  · rw [List.take_of_length_le h]
theorem Met.step {l : List UInt8} {left : Lit → Bool} {mb : Bool} (h : Met l left mb) {st n : Nat} (hst : st ∈ codes) (hl : left (.int .i64 st) = true) (hn : (line st).length = n) (hp : (line st).isPrefixOf l = false) :
    Met l (fun z => left z && !z.sameKey (.int .i64 st)) (mb || (l.take n).isPrefixOf (line st)) := by
  have hk : ∀ s : Nat, ((fun z => left z && !z.sameKey (.int .i64 st)) (Lit.int .i64 s) = false) ↔ (left (.int .i64 s) = false ∨ s = st) := by
    intro s
    have e : (Lit.int .i64 (s : Int)).sameKey (.int .i64 st) = decide (s = st) := by
      by_cases hs : s = st
      · subst hs; simp [Lit.sameKey]
      · have : ¬ (s : Int) = st := by omega
        simp [Lit.sameKey, hs, this]
    simp only [e]
    cases left (.int .i64 s) <;> simp
  refine ⟨fun s hs hf => ?_, ?_⟩
  · rcases (hk s).1 hf with q | rfl
    · exact h.no s hs q
    · exact hp
  · rw [take_pre hn hp, Bool.or_eq_true, h.may]
    constructor
    · rintro (⟨s, a, b, c⟩ | q)
      · exact ⟨s, a, (hk s).2 (.inl b), c⟩
      · exact ⟨st, hst, (hk st).2 (.inr rfl), q⟩
    · rintro ⟨s, a, b, c⟩
      rcases (hk s).1 b with q | rfl
      · exact .inl ⟨s, a, q, c⟩
      · exact .inr c
theorem begF_hit {l : List UInt8} {st : Nat} (hst : st ∈ codes) (h : (line st).isPrefixOf l = true) : begF l = (st, (line st).length, true) := by
  unfold begF
  cases hf : codes.find? (fun s => (line s).isPrefixOf l) with
  | none => exact absurd h (by rw [Bool.eq_false_iff.2 (List.find?_eq_none.1 hf st hst)]; simp)
  | some s =>
    have hs := List.mem_of_find?_eq_some hf
    have hp := List.find?_some hf
    by_cases e : s = st
    · rw [e]
    · exfalso
      obtain ⟨r, er⟩ := pre_iff.1 h
      obtain ⟨u, eu⟩ := pre_iff.1 hp
      exact clash_app _ _ (line_clash st hst s hs e) u r (by rw [← er, ← eu])
theorem itoa_code {st : Nat} (h : st ∈ codes) : Lib.itoa (st : Int) = dec st := by
  have := code_big h
  rw [Lib.itoa_nonneg, dec_eq st (by omega)]
theorem grown_grow {w w' : World} (h : ∃ k os, w' = Go.Sort.grow (w.drewN k) os) : w.grownBy w' none := by
  obtain ⟨k, os, rfl⟩ := h
  have hb := Lib.below_grow w.heap.size w (Nat.le_refl _) k os
  exact ⟨rfl, rfl, rfl, hb.size, fun i hi _ => hb.block i hi⟩
def strV (l : List UInt8) : Value := .string ⟨l.toArray⟩

set_option maxHeartbeats 1000000 in
set_option maxRecDepth 100000 in
theorem begins_any (l : List UInt8) (a : Option Addr) (cap : Nat) (w : World) (hlen : l.length ≤ 140737488351232)
    (hcap : l.length ≤ cap) (hcv : ∀ (n : Nat) (W : World), Below w.heap.size w W → (convert 22 9 (.slice a (min (l.length : Int) (n : Int)).toNat cap)).run Tryd.prog W = .ok (.string ⟨(l.take n).toArray⟩) W)
    (htab : ∀ (W : World), Below w.heap.size w W → Lib.TabIs Tryd.prog W "internal/strconv.uint64pow10" .u64 Lib.pow10Tab) :
    Calls Tryd.prog 17 #[.slice a l.length cap] w fun e w' => e = .returned (.tuple #[.int .i64 (begF l).1, .int .i64 (begF l).2.1, .bool (begF l).2.2]) ∧ Below w.heap.size w w' := by
  have e27 : ∀ args w, (callFunc 27 args).run Tryd.prog w = .ok (.enter 27 args) w := enters_of Tryd.func27 (by kernel_rfl) rfl
  have e20 : ∀ args w, (callFunc 20 args).run Tryd.prog w = .ok (.enter 20 args) w := enters_of Tryd.func20 (by kernel_rfl) rfl
  have e22 : ∀ args w, (callFunc 22 args).run Tryd.prog w = .ok (.enter 22 args) w := enters_of Tryd.func22 (by kernel_rfl) rfl
  go_enter Tryd.func17, Tryd.ntmps17
  go_wp2_with (first
    | (go_at_fn 27; refine (words_any (H := Unit) _).mono ?_; rintro e w1 ⟨rfl, hown, hbel⟩)
    | (at_range; refine wpList_range_own _ rfl _ 56 rfl 3 9 law3 Tryd.underlying56 _ w.heap.size 6 _ rfl (by assumption) ?_; intro w0 hrg0 hg0 hs0)
    | go_in)
  go_frame
  go_loopw [5] (fun m wr => ∃ (left : Lit → Bool) (cnt : Nat) (mb : Bool), m = .bool mb ∧ wr.ranges Tryd.prog 3 (plainElem (H := Unit) Tryd.prog 9) w.heap.size w1.heap.size 6 D6 left cnt ∧ Below w.heap.size w wr ∧ Met l left mb) (fun _ wr => wr.rangeLeft w.heap.size w1.heap.size)
  case atStart => exact ⟨_, _, false, rfl, hrg0, hbel.grown hg0 hbel.size (fun j hj => by cases hj), Met.start l⟩
  case round =>
    obtain ⟨left, cnt, mb, rfl, hrg, hbw, hmet⟩ := hrel
    go_wp2_with (first
      | (at_next; refine wpList_next_ranges_is _ rfl _ rfl 3 9 .i64 law3 Tryd.underlying3 Tryd.underlying9 w.heap.size w1.heap.size 6 _ _ _ rfl hrg ?_ ?_)
      | go_in)
    · intro _ hl0
      go_wp2
      go_ret3
      rw [hmet.done hl0]
      exact ⟨rfl, hbw⟩
    · intro x c w2 cnt2 hwx hwc hlx hat hrg2 hlt hg2 hs2 hen
      obtain ⟨st, hst, rfl, hcw⟩ := D6_key x _ hat
      obtain rfl : c = ⟨(words st).toArray⟩ := by
        have : c.data.toList = words st := by simpa using hcw
        rw [← this]
      have hbw2 : Below w.heap.size w w2 := hbw.grown hg2 hbw.size (fun j hj => by cases hj; exact hbel.size)
      have ht2 := htab w2 hbw2
      have hst2 := code_big hst
      have hst' := hst
      simp only [codes, List.mem_cons, List.not_mem_nil, or_false] at hst
      rcases hst with rfl | rfl | rfl | rfl | rfl | rfl
      · have hit : Lib.itoa 200 = [50, 48, 48] := (itoa_code (st := 200) (by decide)).trans (by kernel_rfl)
        have hw : words ((200 : Nat) : Int) = [79, 75] := by kernel_rfl
        rw [hw] at hen
        have hmc : 0 ≤ min (l.length : Int) 65 ∧ min (l.length : Int) 65 ≤ (cap : Int) := by omega
        obtain ⟨p1, hp1⟩ : ∃ p1, (line 200).isPrefixOf (l.take 65) = p1 := ⟨_, rfl⟩
        obtain ⟨p2, hp2⟩ : ∃ p2, (l.take 65).isPrefixOf (line 200) = p2 := ⟨_, rfl⟩
        have hq1 : ∀ (x y : List UInt8), x = l.take 65 → y = line 200 → Lib.hasPrefix x y = p1 := fun x y e1 e2 => by rw [e1, e2]; exact hp1
        have hq2 : ∀ (x y : List UInt8), x = line 200 → y = l.take 65 → Lib.hasPrefix x y = p2 := fun x y e1 e2 => by rw [e1, e2]; exact hp2
        have hln : (line 200).length = 65 := by kernel_rfl
        have hpl : (line 200).isPrefixOf l = p1 := by rw [← hp1, pre_take _ _ _ (by omega)]
        cases mb
        all_goals
          go_wp2_with (first
            | (go_at_fn 20; refine (Tryd.strconv_Itoa 200 (by omega) (by omega) _ ht2).mono ?_; rintro e w3 ⟨rfl, hw3⟩; rw [hit]; have hg3 := grown_grow hw3; have hb3 : Below w.heap.size w w3 := hbw2.grown hg3 hbw2.size (fun j hj => by cases hj); have hc3 : (convert 22 9 (.slice a (min (l.length : Int) 65).toNat cap)).run Tryd.prog w3 = .ok (.string ⟨(l.take 65).toArray⟩) w3 := hcv 65 w3 hb3)
            | (go_at_fn 22; refine (Tryd.strings_HasPrefix _ _ _).mono ?_; rintro e w4 ⟨rfl, rfl⟩; first | rw [hq1 _ _ rfl (by kernel_rfl)] | rw [hq2 _ _ (by kernel_rfl) rfl])
            | go_in)
        · have hy : p1 = true := by assumption
          go_ret3
          rw [begF_hit hst' (hpl.trans hy), hln]
          exact ⟨rfl, hb3⟩
        · have hy : p1 = false := by assumption
          have hm := hmet.step hst' hlx hln (hpl.trans hy)
          rw [hp2] at hm
          have hr3 := hrg2.kept hg3 (by simp) (by simp)
          exact ⟨⟨_, cnt2, p2, by simp, hr3, hb3, by simpa using hm⟩, by rw [hr3.left_eq, hrg.left_eq]; exact hlt⟩
        · have hy : p1 = true := by assumption
          go_ret3
          rw [begF_hit hst' (hpl.trans hy), hln]
          exact ⟨rfl, hb3⟩
        · have hy : p1 = false := by assumption
          have hm := hmet.step hst' hlx hln (hpl.trans hy)
          have hr3 := hrg2.kept hg3 (by simp) (by simp)
          exact ⟨⟨_, cnt2, true, by simp, hr3, hb3, by simpa using hm⟩, by rw [hr3.left_eq, hrg.left_eq]; exact hlt⟩
      · have hit : Lib.itoa 400 = [52, 48, 48] := (itoa_code (st := 400) (by decide)).trans (by kernel_rfl)
        have hw : words ((400 : Nat) : Int) = [66, 97, 100, 32, 82, 101, 113, 117, 101, 115, 116] := by kernel_rfl
        rw [hw] at hen
        have hmc : 0 ≤ min (l.length : Int) 74 ∧ min (l.length : Int) 74 ≤ (cap : Int) := by omega
        obtain ⟨p1, hp1⟩ : ∃ p1, (line 400).isPrefixOf (l.take 74) = p1 := ⟨_, rfl⟩
        obtain ⟨p2, hp2⟩ : ∃ p2, (l.take 74).isPrefixOf (line 400) = p2 := ⟨_, rfl⟩
        have hq1 : ∀ (x y : List UInt8), x = l.take 74 → y = line 400 → Lib.hasPrefix x y = p1 := fun x y e1 e2 => by rw [e1, e2]; exact hp1
        have hq2 : ∀ (x y : List UInt8), x = line 400 → y = l.take 74 → Lib.hasPrefix x y = p2 := fun x y e1 e2 => by rw [e1, e2]; exact hp2
        have hln : (line 400).length = 74 := by kernel_rfl
        have hpl : (line 400).isPrefixOf l = p1 := by rw [← hp1, pre_take _ _ _ (by omega)]
        cases mb
        all_goals
          go_wp2_with (first
            | (go_at_fn 20; refine (Tryd.strconv_Itoa 400 (by omega) (by omega) _ ht2).mono ?_; rintro e w3 ⟨rfl, hw3⟩; rw [hit]; have hg3 := grown_grow hw3; have hb3 : Below w.heap.size w w3 := hbw2.grown hg3 hbw2.size (fun j hj => by cases hj); have hc3 : (convert 22 9 (.slice a (min (l.length : Int) 74).toNat cap)).run Tryd.prog w3 = .ok (.string ⟨(l.take 74).toArray⟩) w3 := hcv 74 w3 hb3)
            | (go_at_fn 22; refine (Tryd.strings_HasPrefix _ _ _).mono ?_; rintro e w4 ⟨rfl, rfl⟩; first | rw [hq1 _ _ rfl (by kernel_rfl)] | rw [hq2 _ _ (by kernel_rfl) rfl])
            | go_in)
        · have hy : p1 = true := by assumption
          go_ret3
          rw [begF_hit hst' (hpl.trans hy), hln]
          exact ⟨rfl, hb3⟩
        · have hy : p1 = false := by assumption
          have hm := hmet.step hst' hlx hln (hpl.trans hy)
          rw [hp2] at hm
          have hr3 := hrg2.kept hg3 (by simp) (by simp)
          exact ⟨⟨_, cnt2, p2, by simp, hr3, hb3, by simpa using hm⟩, by rw [hr3.left_eq, hrg.left_eq]; exact hlt⟩
        · have hy : p1 = true := by assumption
          go_ret3
          rw [begF_hit hst' (hpl.trans hy), hln]
          exact ⟨rfl, hb3⟩
        · have hy : p1 = false := by assumption
          have hm := hmet.step hst' hlx hln (hpl.trans hy)
          have hr3 := hrg2.kept hg3 (by simp) (by simp)
          exact ⟨⟨_, cnt2, true, by simp, hr3, hb3, by simpa using hm⟩, by rw [hr3.left_eq, hrg.left_eq]; exact hlt⟩
      · have hit : Lib.itoa 404 = [52, 48, 52] := (itoa_code (st := 404) (by decide)).trans (by kernel_rfl)
        have hw : words ((404 : Nat) : Int) = [78, 111, 116, 32, 70, 111, 117, 110, 100] := by kernel_rfl
        rw [hw] at hen
        have hmc : 0 ≤ min (l.length : Int) 72 ∧ min (l.length : Int) 72 ≤ (cap : Int) := by omega
        obtain ⟨p1, hp1⟩ : ∃ p1, (line 404).isPrefixOf (l.take 72) = p1 := ⟨_, rfl⟩
        obtain ⟨p2, hp2⟩ : ∃ p2, (l.take 72).isPrefixOf (line 404) = p2 := ⟨_, rfl⟩
        have hq1 : ∀ (x y : List UInt8), x = l.take 72 → y = line 404 → Lib.hasPrefix x y = p1 := fun x y e1 e2 => by rw [e1, e2]; exact hp1
        have hq2 : ∀ (x y : List UInt8), x = line 404 → y = l.take 72 → Lib.hasPrefix x y = p2 := fun x y e1 e2 => by rw [e1, e2]; exact hp2
        have hln : (line 404).length = 72 := by kernel_rfl
        have hpl : (line 404).isPrefixOf l = p1 := by rw [← hp1, pre_take _ _ _ (by omega)]
        cases mb
        all_goals
          go_wp2_with (first
            | (go_at_fn 20; refine (Tryd.strconv_Itoa 404 (by omega) (by omega) _ ht2).mono ?_; rintro e w3 ⟨rfl, hw3⟩; rw [hit]; have hg3 := grown_grow hw3; have hb3 : Below w.heap.size w w3 := hbw2.grown hg3 hbw2.size (fun j hj => by cases hj); have hc3 : (convert 22 9 (.slice a (min (l.length : Int) 72).toNat cap)).run Tryd.prog w3 = .ok (.string ⟨(l.take 72).toArray⟩) w3 := hcv 72 w3 hb3)
            | (go_at_fn 22; refine (Tryd.strings_HasPrefix _ _ _).mono ?_; rintro e w4 ⟨rfl, rfl⟩; first | rw [hq1 _ _ rfl (by kernel_rfl)] | rw [hq2 _ _ (by kernel_rfl) rfl])
            | go_in)
        · have hy : p1 = true := by assumption
          go_ret3
          rw [begF_hit hst' (hpl.trans hy), hln]
          exact ⟨rfl, hb3⟩
        · have hy : p1 = false := by assumption
          have hm := hmet.step hst' hlx hln (hpl.trans hy)
          rw [hp2] at hm
          have hr3 := hrg2.kept hg3 (by simp) (by simp)
          exact ⟨⟨_, cnt2, p2, by simp, hr3, hb3, by simpa using hm⟩, by rw [hr3.left_eq, hrg.left_eq]; exact hlt⟩
        · have hy : p1 = true := by assumption
          go_ret3
          rw [begF_hit hst' (hpl.trans hy), hln]
          exact ⟨rfl, hb3⟩
        · have hy : p1 = false := by assumption
          have hm := hmet.step hst' hlx hln (hpl.trans hy)
          have hr3 := hrg2.kept hg3 (by simp) (by simp)
          exact ⟨⟨_, cnt2, true, by simp, hr3, hb3, by simpa using hm⟩, by rw [hr3.left_eq, hrg.left_eq]; exact hlt⟩
      · have hit : Lib.itoa 405 = [52, 48, 53] := (itoa_code (st := 405) (by decide)).trans (by kernel_rfl)
        have hw : words ((405 : Nat) : Int) = [77, 101, 116, 104, 111, 100, 32, 78, 111, 116, 32, 65, 108, 108, 111, 119, 101, 100] := by kernel_rfl
        rw [hw] at hen
        have hmc : 0 ≤ min (l.length : Int) 81 ∧ min (l.length : Int) 81 ≤ (cap : Int) := by omega
        obtain ⟨p1, hp1⟩ : ∃ p1, (line 405).isPrefixOf (l.take 81) = p1 := ⟨_, rfl⟩
        obtain ⟨p2, hp2⟩ : ∃ p2, (l.take 81).isPrefixOf (line 405) = p2 := ⟨_, rfl⟩
        have hq1 : ∀ (x y : List UInt8), x = l.take 81 → y = line 405 → Lib.hasPrefix x y = p1 := fun x y e1 e2 => by rw [e1, e2]; exact hp1
        have hq2 : ∀ (x y : List UInt8), x = line 405 → y = l.take 81 → Lib.hasPrefix x y = p2 := fun x y e1 e2 => by rw [e1, e2]; exact hp2
        have hln : (line 405).length = 81 := by kernel_rfl
        have hpl : (line 405).isPrefixOf l = p1 := by rw [← hp1, pre_take _ _ _ (by omega)]
        cases mb
        all_goals
          go_wp2_with (first
            | (go_at_fn 20; refine (Tryd.strconv_Itoa 405 (by omega) (by omega) _ ht2).mono ?_; rintro e w3 ⟨rfl, hw3⟩; rw [hit]; have hg3 := grown_grow hw3; have hb3 : Below w.heap.size w w3 := hbw2.grown hg3 hbw2.size (fun j hj => by cases hj); have hc3 : (convert 22 9 (.slice a (min (l.length : Int) 81).toNat cap)).run Tryd.prog w3 = .ok (.string ⟨(l.take 81).toArray⟩) w3 := hcv 81 w3 hb3)
            | (go_at_fn 22; refine (Tryd.strings_HasPrefix _ _ _).mono ?_; rintro e w4 ⟨rfl, rfl⟩; first | rw [hq1 _ _ rfl (by kernel_rfl)] | rw [hq2 _ _ (by kernel_rfl) rfl])
            | go_in)
        · have hy : p1 = true := by assumption
          go_ret3
          rw [begF_hit hst' (hpl.trans hy), hln]
          exact ⟨rfl, hb3⟩
        · have hy : p1 = false := by assumption
          have hm := hmet.step hst' hlx hln (hpl.trans hy)
          rw [hp2] at hm
          have hr3 := hrg2.kept hg3 (by simp) (by simp)
          exact ⟨⟨_, cnt2, p2, by simp, hr3, hb3, by simpa using hm⟩, by rw [hr3.left_eq, hrg.left_eq]; exact hlt⟩
        · have hy : p1 = true := by assumption
          go_ret3
          rw [begF_hit hst' (hpl.trans hy), hln]
          exact ⟨rfl, hb3⟩
        · have hy : p1 = false := by assumption
          have hm := hmet.step hst' hlx hln (hpl.trans hy)
          have hr3 := hrg2.kept hg3 (by simp) (by simp)
          exact ⟨⟨_, cnt2, true, by simp, hr3, hb3, by simpa using hm⟩, by rw [hr3.left_eq, hrg.left_eq]; exact hlt⟩
      · have hit : Lib.itoa 500 = [53, 48, 48] := (itoa_code (st := 500) (by decide)).trans (by kernel_rfl)
        have hw : words ((500 : Nat) : Int) = [73, 110, 116, 101, 114, 110, 97, 108, 32, 83, 101, 114, 118, 101, 114, 32, 69, 114, 114, 111, 114] := by kernel_rfl
        rw [hw] at hen
        have hmc : 0 ≤ min (l.length : Int) 84 ∧ min (l.length : Int) 84 ≤ (cap : Int) := by omega
        obtain ⟨p1, hp1⟩ : ∃ p1, (line 500).isPrefixOf (l.take 84) = p1 := ⟨_, rfl⟩
        obtain ⟨p2, hp2⟩ : ∃ p2, (l.take 84).isPrefixOf (line 500) = p2 := ⟨_, rfl⟩
        have hq1 : ∀ (x y : List UInt8), x = l.take 84 → y = line 500 → Lib.hasPrefix x y = p1 := fun x y e1 e2 => by rw [e1, e2]; exact hp1
        have hq2 : ∀ (x y : List UInt8), x = line 500 → y = l.take 84 → Lib.hasPrefix x y = p2 := fun x y e1 e2 => by rw [e1, e2]; exact hp2
        have hln : (line 500).length = 84 := by kernel_rfl
        have hpl : (line 500).isPrefixOf l = p1 := by rw [← hp1, pre_take _ _ _ (by omega)]
        cases mb
        all_goals
          go_wp2_with (first
            | (go_at_fn 20; refine (Tryd.strconv_Itoa 500 (by omega) (by omega) _ ht2).mono ?_; rintro e w3 ⟨rfl, hw3⟩; rw [hit]; have hg3 := grown_grow hw3; have hb3 : Below w.heap.size w w3 := hbw2.grown hg3 hbw2.size (fun j hj => by cases hj); have hc3 : (convert 22 9 (.slice a (min (l.length : Int) 84).toNat cap)).run Tryd.prog w3 = .ok (.string ⟨(l.take 84).toArray⟩) w3 := hcv 84 w3 hb3)
            | (go_at_fn 22; refine (Tryd.strings_HasPrefix _ _ _).mono ?_; rintro e w4 ⟨rfl, rfl⟩; first | rw [hq1 _ _ rfl (by kernel_rfl)] | rw [hq2 _ _ (by kernel_rfl) rfl])
            | go_in)
        · have hy : p1 = true := by assumption
          go_ret3
          rw [begF_hit hst' (hpl.trans hy), hln]
          exact ⟨rfl, hb3⟩
        · have hy : p1 = false := by assumption
          have hm := hmet.step hst' hlx hln (hpl.trans hy)
          rw [hp2] at hm
          have hr3 := hrg2.kept hg3 (by simp) (by simp)
          exact ⟨⟨_, cnt2, p2, by simp, hr3, hb3, by simpa using hm⟩, by rw [hr3.left_eq, hrg.left_eq]; exact hlt⟩
        · have hy : p1 = true := by assumption
          go_ret3
          rw [begF_hit hst' (hpl.trans hy), hln]
          exact ⟨rfl, hb3⟩
        · have hy : p1 = false := by assumption
          have hm := hmet.step hst' hlx hln (hpl.trans hy)
          have hr3 := hrg2.kept hg3 (by simp) (by simp)
          exact ⟨⟨_, cnt2, true, by simp, hr3, hb3, by simpa using hm⟩, by rw [hr3.left_eq, hrg.left_eq]; exact hlt⟩
      · have hit : Lib.itoa 503 = [53, 48, 51] := (itoa_code (st := 503) (by decide)).trans (by kernel_rfl)
        have hw : words ((503 : Nat) : Int) = [83, 101, 114, 118, 105, 99, 101, 32, 85, 110, 97, 118, 97, 105, 108, 97, 98, 108, 101] := by kernel_rfl
        rw [hw] at hen
        have hmc : 0 ≤ min (l.length : Int) 82 ∧ min (l.length : Int) 82 ≤ (cap : Int) := by omega
        obtain ⟨p1, hp1⟩ : ∃ p1, (line 503).isPrefixOf (l.take 82) = p1 := ⟨_, rfl⟩
        obtain ⟨p2, hp2⟩ : ∃ p2, (l.take 82).isPrefixOf (line 503) = p2 := ⟨_, rfl⟩
        have hq1 : ∀ (x y : List UInt8), x = l.take 82 → y = line 503 → Lib.hasPrefix x y = p1 := fun x y e1 e2 => by rw [e1, e2]; exact hp1
        have hq2 : ∀ (x y : List UInt8), x = line 503 → y = l.take 82 → Lib.hasPrefix x y = p2 := fun x y e1 e2 => by rw [e1, e2]; exact hp2
        have hln : (line 503).length = 82 := by kernel_rfl
        have hpl : (line 503).isPrefixOf l = p1 := by rw [← hp1, pre_take _ _ _ (by omega)]
        cases mb
        all_goals
          go_wp2_with (first
            | (go_at_fn 20; refine (Tryd.strconv_Itoa 503 (by omega) (by omega) _ ht2).mono ?_; rintro e w3 ⟨rfl, hw3⟩; rw [hit]; have hg3 := grown_grow hw3; have hb3 : Below w.heap.size w w3 := hbw2.grown hg3 hbw2.size (fun j hj => by cases hj); have hc3 : (convert 22 9 (.slice a (min (l.length : Int) 82).toNat cap)).run Tryd.prog w3 = .ok (.string ⟨(l.take 82).toArray⟩) w3 := hcv 82 w3 hb3)
            | (go_at_fn 22; refine (Tryd.strings_HasPrefix _ _ _).mono ?_; rintro e w4 ⟨rfl, rfl⟩; first | rw [hq1 _ _ rfl (by kernel_rfl)] | rw [hq2 _ _ (by kernel_rfl) rfl])
            | go_in)
        · have hy : p1 = true := by assumption
          go_ret3
          rw [begF_hit hst' (hpl.trans hy), hln]
          exact ⟨rfl, hb3⟩
        · have hy : p1 = false := by assumption
          have hm := hmet.step hst' hlx hln (hpl.trans hy)
          rw [hp2] at hm
          have hr3 := hrg2.kept hg3 (by simp) (by simp)
          exact ⟨⟨_, cnt2, p2, by simp, hr3, hb3, by simpa using hm⟩, by rw [hr3.left_eq, hrg.left_eq]; exact hlt⟩
        · have hy : p1 = true := by assumption
          go_ret3
          rw [begF_hit hst' (hpl.trans hy), hln]
          exact ⟨rfl, hb3⟩
        · have hy : p1 = false := by assumption
          have hm := hmet.step hst' hlx hln (hpl.trans hy)
          have hr3 := hrg2.kept hg3 (by simp) (by simp)
          exact ⟨⟨_, cnt2, true, by simp, hr3, hb3, by simpa using hm⟩, by rw [hr3.left_eq, hrg.left_eq]; exact hlt⟩
end Go.Proofs.Re
