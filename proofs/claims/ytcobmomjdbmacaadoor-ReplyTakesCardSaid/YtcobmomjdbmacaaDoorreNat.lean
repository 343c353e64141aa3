/- Functions of reply and of Go's library that are known by their contracts, for the machine. -/
import Derived.Test.YtcobmomjdbmacaaDoorDetRun
import Derived.Test.YtcobmomjdbmacaaDoorDetOpsB
import Derived.Test.YtcobmomjdbmacaaDoorDetBytes
import Derived.Test.YtcobmomjdbmacaaDoorreBeg
import Derived.Laws.BytesArg
set_option linter.unusedVariables false
set_option linter.unusedSimpArgs false
set_option linter.unusedSectionVars false
namespace Go.Det
open Go.RowKit Go.Proofs

/-- Cells that are bytes. -/
def toB : List AV → Option (List UInt8)
  | [] => some []
  | .int .u8 n :: l => if 0 ≤ n ∧ n ≤ 255 then (toB l).map (UInt8.ofNat n.toNat :: ·) else none
  | _ => none
def bytesOf (h : H) : AV → Option (List UInt8)
  | .nils => some []
  | .sl a n _ => match h.ldn a n with
    | some cs => toB cs
    | none => none
  | _ => none

theorem toB_bytesAV : ∀ l : List UInt8, toB (bytesAV l) = some l
  | [] => rfl
  | b :: l => by
    have h : 0 ≤ (b.toNat : Int) ∧ (b.toNat : Int) ≤ 255 := by have := b.toNat_lt; omega
    simp only [bytesAV, List.map_cons, toB] at *
    rw [if_pos h]
    have := toB_bytesAV l
    simp only [bytesAV] at this
    rw [this]
    simp

theorem toB_rel {μ : Mu} : ∀ {cs : List AV} {l : List UInt8}, toB cs = some l → ∀ {vs : List Value}, VRels μ cs vs → vs = l.map fun b => Value.int .u8 b.toNat
  | [], l, h, vs, hv => by simp only [toB, Option.some.injEq] at h; subst h; cases hv; rfl
  | a :: cs, l, h, vs, hv => by
    obtain ⟨v, y, rfl, h1, h2⟩ := hv
    cases a <;> try (simp only [toB, reduceCtorEq] at h; done)
    rename_i k n
    cases k <;> simp only [toB, reduceCtorEq] at h
    split at h
    · rename_i hn
      obtain ⟨r, h3, rfl⟩ := Option.map_eq_some_iff.1 h
      have := toB_rel h3 h2
      cases h1
      rw [this, List.map_cons, UInt8.toNat_ofNat']
      congr 2
      omega
    · simp at h

/-- What a slice of bytes is in the real world. -/
theorem bytesOf_rel {μ : Mu} {w0 : World} {ng : Nat} {h : H} {w : World} (W : WRel μ w0 ng h w) {x : AV} {l : List UInt8} (hl : bytesOf h x = some l) {x' : Value} (hx : VRel μ x x') :
    (∃ p cap, x' = .slice p 0 cap ∧ l = []) ∨ ∃ b off cap, x' = .slice (some ⟨b, off, none⟩) l.length cap ∧ l.length ≤ cap ∧ b < w.heap.size ∧ ∀ j y, l[j]? = some y → w.cell? ⟨b, off + j, none⟩ = some (.int .u8 y.toNat) := by
  cases x <;> simp only [bytesOf, reduceCtorEq] at hl
  · simp only [Option.some.injEq] at hl
    subst hl
    cases hx
    exact .inl ⟨_, _, rfl, rfl⟩
  · rename_i a n c
    split at hl
    · rename_i cs hcs
      have key : ∀ (rb : RB) (o k : Nat), μ a.b a.g = some rb → (o = a.o ∨ n = 0) → n ≤ k → (∃ p cap, Value.slice (some ⟨rb.r, o, none⟩) n k = .slice p 0 cap ∧ l = []) ∨ ∃ b off cap, Value.slice (some ⟨rb.r, o, none⟩) n k = .slice (some ⟨b, off, none⟩) l.length cap ∧ l.length ≤ cap ∧ b < w.heap.size ∧ ∀ j y, l[j]? = some y → w.cell? ⟨b, off + j, none⟩ = some (.int .u8 y.toNat) := by
        intro rb o k hm ho hk
        have hlt := (W.dom _ _ _ hm).1
        unfold H.ldn at hcs
        split at hcs
        · rename_i c hr
          obtain ⟨c', e, fz, l', h1, h2, h6⟩ := W.row hr hm
          obtain ⟨vs, h3, h4, h5⟩ := h2.cut hcs
          obtain rfl := toB_rel hl h4
          have hln : l.length = n := by simpa using h3
          by_cases h0 : n = 0
          · subst h0
            exact .inl ⟨_, _, rfl, List.eq_nil_of_length_eq_zero hln⟩
          · obtain rfl : o = a.o := by rcases ho with h | h; exact h; exact absurd h h0
            refine .inr ⟨rb.r, a.o, k, by rw [hln], by omega, hlt, ?_⟩
            intro j y hj
            exact cell_at h1 (by rw [← h6 _ (Nat.le_add_right _ _)]; exact h5 j _ (by rw [List.getElem?_map, hj]; rfl))
        · simp at hcs
      cases c with
      | ex c =>
        rcases hx with ⟨rb, hm, rfl, hn⟩ | ⟨rfl, rfl, ad, rfl⟩
        · exact key rb a.o c hm (.inl rfl) hn
        · have hc0 : cs = [] := by
            simp only [H.ldn] at hcs
            split at hcs
            · exact List.eq_nil_of_length_eq_zero (cut_pre (m := 0) hcs)
            · simp at hcs
          subst hc0
          simp only [toB, Option.some.injEq] at hl
          exact .inl ⟨_, _, rfl, hl.symm⟩
      | op e => obtain ⟨rb, o, c, hm, rfl, hn, _, ho⟩ := hx; exact key rb o c hm (by rcases ho with ho | ho; exact .inl ho.1; exact .inr (by omega)) hn
    · simp at hl

/-- What the package's variables hold at the start. -/
structure Start (w0 : World) : Prop where
  tab : Lib.TabIs Tryd.prog w0 "internal/strconv.uint64pow10" .u64 Lib.pow10Tab
  err : ∃ ev, w0.cell? ⟨0, 0, none⟩ = some ev ∧ (ev = .nilIface ∨ ∃ te pe, ev = .iface te pe)

theorem Start.tabAt {w0 : World} (S : Start w0) {w : World} (hb : Below w0.heap.size w0 w) : Lib.TabIs Tryd.prog w "internal/strconv.uint64pow10" .u64 Lib.pow10Tab := Lib.tabBelow_of_tabIs S.tab w hb

/-! ### strconv.Itoa, strconv.Atoi -/
def nItoa : NatF := fun args h => match args with
  | [.int .i64 n] => if 0 ≤ n ∧ n < 1000000000000000000 then some (.str (Re.dec n.toNat), h) else none
  | _ => none
theorem nItoa_ok {w0 : World} (S : Start w0) : NatOk Tryd.prog w0 20 nItoa := by
  refine NatOk.of_below ?_
  intro args h v h' he
  unfold nItoa at he
  split at he
  · rename_i n
    split at he
    · rename_i hn
      simp only [Option.some.injEq, Prod.mk.injEq] at he
      obtain ⟨rfl, rfl⟩ := he
      refine ⟨rfl, ?_⟩
      intro μ w args' ha W
      obtain ⟨x', r, e, hx, rfl⟩ := ha
      cases hx
      obtain rfl : args' = #[.int .i64 n] := by apply Array.ext'; rw [e]
      refine (Tryd.strconv_Itoa n (by omega) (by omega) w (S.tabAt W.base)).mono ?_
      rintro e w' ⟨rfl, hw⟩
      obtain ⟨m, rfl⟩ : ∃ m : Nat, n = m := ⟨n.toNat, by omega⟩
      refine ⟨_, rfl, ?_, ?_⟩
      · show Value.string ⟨(Lib.itoa m).toArray⟩ = .string ⟨(Re.dec (m : Int).toNat).toArray⟩
        rw [Lib.itoa_nonneg, Int.toNat_natCast, Re.dec_eq m (by omega)]
      · obtain ⟨k, os, rfl⟩ := hw
        exact Lib.below_grow _ _ (Nat.le_refl _) k os
    · simp at he
  · simp at he
def nAtoi : NatF := fun args h => match args with
  | [.str s] => if s.length ≤ 18 then (match Lib.atoi s with
    | some n => some (.tup [.int .i64 n, .nili], h)
    | none => some (.tup [.int .i64 0, .any], h)) else none
  | _ => none
theorem nAtoi_ok {w0 : World} (S : Start w0) : NatOk Tryd.prog w0 19 nAtoi := by
  refine NatOk.of_below ?_
  intro args h v h' he
  unfold nAtoi at he
  split at he
  · rename_i s
    split at he
    · rename_i hs
      split at he
      · rename_i n hn
        simp only [Option.some.injEq, Prod.mk.injEq] at he
        obtain ⟨rfl, rfl⟩ := he
        refine ⟨rfl, ?_⟩
        intro μ w args' ha W
        obtain ⟨x', r, e, hx, rfl⟩ := ha
        cases hx
        obtain rfl : args' = #[.string ⟨s.toArray⟩] := by apply Array.ext'; rw [e]
        refine (Tryd.strconv_Atoi ⟨s.toArray⟩ n (by simpa [ByteArray.size] using hs) hn w).mono ?_
        rintro e w' ⟨rfl, t, rfl⟩
        exact ⟨_, rfl, ⟨_, rfl, _, _, rfl, rfl, _, _, rfl, rfl, rfl⟩, Lib.bytesWorld_below _ _ _⟩
      · rename_i hn
        simp only [Option.some.injEq, Prod.mk.injEq] at he
        obtain ⟨rfl, rfl⟩ := he
        refine ⟨rfl, ?_⟩
        intro μ w args' ha W
        obtain ⟨x', r, e, hx, rfl⟩ := ha
        cases hx
        obtain rfl : args' = #[.string ⟨s.toArray⟩] := by apply Array.ext'; rw [e]
        obtain ⟨ev, h1, h2⟩ := S.err
        have h1' : w.cell? ⟨0, 0, none⟩ = some ev := (W.base.cell (Lib.lt_of_cell h1)).trans h1
        refine (Tryd.strconv_Atoi_err ⟨s.toArray⟩ (by simpa [ByteArray.size] using hs) hn ev w h1' h2).mono ?_
        rintro e w' ⟨N, rfl, _, _, hb⟩
        exact ⟨_, rfl, ⟨_, rfl, _, _, rfl, rfl, _, _, rfl, ⟨_, _, rfl⟩, rfl⟩, hb⟩
    · simp at he
  · simp at he

/-! ### reply.begins -/
def nBegins : NatF := fun args h => match args with
  | [x] => match bytesOf h x with
    | some l => if l.length ≤ 140737488351232 then some (.tup [.int .i64 (Re.begF l).1, .int .i64 (Re.begF l).2.1, .bool (Re.begF l).2.2], h) else none
    | none => none
  | _ => none
theorem nBegins_ok {w0 : World} (S : Start w0) : NatOk Tryd.prog w0 17 nBegins := by
  refine NatOk.of_below ?_
  intro args h v h' he
  unfold nBegins at he
  split at he
  · rename_i x
    split at he
    · rename_i l hl
      split at he
      · rename_i hlen
        simp only [Option.some.injEq, Prod.mk.injEq] at he
        obtain ⟨rfl, rfl⟩ := he
        refine ⟨rfl, ?_⟩
        intro μ w args' ha W
        obtain ⟨x', r, e, hx, rfl⟩ := ha
        obtain rfl : args' = #[x'] := by apply Array.ext'; rw [e]
        have htab : ∀ (V : World), Below w.heap.size w V → Lib.TabIs Tryd.prog V "internal/strconv.uint64pow10" .u64 Lib.pow10Tab := fun V hV => Lib.tabBelow_of_tabIs (S.tabAt W.base) V hV
        rcases bytesOf_rel W hl hx with ⟨p, cap, rfl, rfl⟩ | ⟨b, off, cap, rfl, hcap, hb, hc⟩
        · have hcv : ∀ (n : Nat) (V : World), Below w.heap.size w V → (convert 22 9 (.slice p (min (([] : List UInt8).length : Int) (n : Int)).toNat cap)).run Tryd.prog V = .ok (.string ⟨(([] : List UInt8).take n).toArray⟩) V := by
            intro n V hV
            have e0 : (min (([] : List UInt8).length : Int) (n : Int)).toNat = 0 := by
              show (min ((0 : Nat) : Int) (n : Int)).toNat = 0
              omega
            rw [e0, List.take_nil]
            cases p with
            | none => exact run_convert_bytes_nil V 22 5 Tryd.underlying22 Tryd.underlying5 0 cap 9 Tryd.underlying9
            | some q =>
              have hl : (loadCells q 0).run Tryd.prog V = .ok (([] : List Int).map (Value.int .u8)).toArray V := rfl
              rw [run_convert_bytes_string V 22 9 5 _ 0 cap Tryd.underlying22 Tryd.underlying5 Tryd.underlying9, run_bytesToString V q 0 cap [] hl]
              rfl
          refine (Re.begins_any [] p cap w (by simp) (Nat.zero_le _) hcv htab).mono ?_
          rintro e w' ⟨rfl, hb⟩
          exact ⟨_, rfl, ⟨_, rfl, _, _, rfl, rfl, _, _, rfl, rfl, _, _, rfl, rfl, rfl⟩, hb⟩
        · have hcv : ∀ (n : Nat) (V : World), Below w.heap.size w V → (convert 22 9 (.slice (some ⟨b, off, none⟩) (min (l.length : Int) (n : Int)).toNat cap)).run Tryd.prog V = .ok (.string ⟨(l.take n).toArray⟩) V := by
            intro n V hV
            have e0 : (min (l.length : Int) (n : Int)).toNat = (l.take n).length := by rw [List.length_take]; omega
            have key := run_convert_bytes_arg V 22 5 Tryd.underlying22 Tryd.underlying5 b off (l.take n).length cap ((l.take n).map fun y => (y.toNat : Int)) (by simp) (fun i hi => by
              have hi' : i < l.length := by rw [List.length_take] at hi; omega
              have hin : i < n := by rw [List.length_take] at hi; omega
              rw [hV.cell (p := ⟨b, off + i, none⟩) hb, hc i _ (List.getElem?_eq_getElem hi')]
              simp [List.getD, List.getElem?_take, hin, hi']) 9 Tryd.underlying9
            rw [e0, key]
            congr 2
            unfold strOfNums
            congr 1
            rw [List.map_map]
            congr 1
            have : ((fun n : Int => UInt8.ofNat n.toNat) ∘ fun y : UInt8 => (y.toNat : Int)) = id := by
              funext y
              simp
            rw [this, List.map_id]
          refine (Re.begins_any l (some ⟨b, off, none⟩) cap w hlen hcap hcv htab).mono ?_
          rintro e w' ⟨rfl, hb⟩
          exact ⟨_, rfl, ⟨_, rfl, _, _, rfl, rfl, _, _, rfl, rfl, _, _, rfl, rfl, rfl⟩, hb⟩
      · simp at he
    · simp at he
  · simp at he

def reNats : FuncId → Option NatF
  | 17 => some nBegins
  | 19 => some nAtoi
  | 20 => some nItoa
  | _ => none
theorem reNats_ok {w0 : World} (S : Start w0) : FOkAt Tryd.prog w0 (tabNat Tryd.prog reNats) := by
  refine tabNat_ok ?_
  intro f g h
  unfold reNats at h
  split at h
  · cases h; exact ⟨⟨_, Tryd.func17, by kernel_rfl, by kernel_rfl⟩, nBegins_ok S⟩
  · cases h; exact ⟨⟨_, Tryd.func19, by kernel_rfl, by kernel_rfl⟩, nAtoi_ok S⟩
  · cases h; exact ⟨⟨_, Tryd.func20, by kernel_rfl, by kernel_rfl⟩, nItoa_ok S⟩
  · simp at h
end Go.Det
