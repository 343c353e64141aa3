/- Functions of base and of Go's library that are known by their contracts, for the machine. -/
import Derived.Test.YtdnfbmminagflaaDoorDetRun
import Derived.Test.YtdnfbmminagflaaDoorDetOpsB
import Derived.Test.YtdnfbmminagflaaDoorDetBytes
import Derived.Test.YtdnfbmminagflaaDoorbaPut
import Derived.Test.YtdnfbmminagflaaDoorbaWB
set_option linter.unusedVariables false
namespace Go.Det
open Go.RowKit Go.Proofs

/-- Cells that are bytes. -/
def toB : List AV → Option (List UInt8)
  | [] => some []
  | .int .u8 n :: l => if 0 ≤ n ∧ n ≤ 255 then (toB l).map (UInt8.ofNat n.toNat :: ·) else none
  | _ => none
def bytesOf (h : H) : AV → Option (List UInt8)
  | .nils => some []
  | .sl a n _ => match h.ldn a n with
    | some cs => toB cs
    | none => none
  | _ => none

theorem toB_bytesAV : ∀ l : List UInt8, toB (bytesAV l) = some l
  | [] => rfl
  | b :: l => by
    have h : 0 ≤ (b.toNat : Int) ∧ (b.toNat : Int) ≤ 255 := by have := b.toNat_lt; omega
    simp only [bytesAV, List.map_cons, toB] at *
    rw [if_pos h]
    have := toB_bytesAV l
    simp only [bytesAV] at this
    rw [this]
    simp

theorem toB_rel {μ : Mu} : ∀ {cs : List AV} {l : List UInt8}, toB cs = some l → ∀ {vs : List Value}, VRels μ cs vs → vs = l.map fun b => Value.int .u8 b.toNat
  | [], l, h, vs, hv => by simp only [toB, Option.some.injEq] at h; subst h; cases hv; rfl
  | a :: cs, l, h, vs, hv => by
    obtain ⟨v, y, rfl, h1, h2⟩ := hv
    cases a <;> try (simp only [toB, reduceCtorEq] at h; done)
    rename_i k n
    cases k <;> simp only [toB, reduceCtorEq] at h
    split at h
    · rename_i hn
      obtain ⟨r, h3, rfl⟩ := Option.map_eq_some_iff.1 h
      have := toB_rel h3 h2
      cases h1
      rw [this, List.map_cons, UInt8.toNat_ofNat']
      congr 2
      omega
    · simp at h

/-- What a slice of bytes is in the real world. -/
theorem bytesOf_rel {μ : Mu} {w0 : World} {ng : Nat} {h : H} {w : World} (W : WRel μ w0 ng h w) {x : AV} {l : List UInt8} (hl : bytesOf h x = some l) {x' : Value} (hx : VRel μ x x') :
    (∃ p cap, x' = .slice p 0 cap ∧ l = []) ∨ ∃ b off cap, x' = .slice (some ⟨b, off, none⟩) l.length cap ∧ l.length ≤ cap ∧ b < w.heap.size ∧ ∀ j y, l[j]? = some y → w.cell? ⟨b, off + j, none⟩ = some (.int .u8 y.toNat) := by
  cases x <;> simp only [bytesOf, reduceCtorEq] at hl
  · simp only [Option.some.injEq] at hl
    subst hl
    cases hx
    exact .inl ⟨_, _, rfl, rfl⟩
  · rename_i a n c
    split at hl
    · rename_i cs hcs
      have key : ∀ (rb : RB) (o k : Nat), μ a.b a.g = some rb → (o = a.o ∨ n = 0) → n ≤ k → (∃ p cap, Value.slice (some ⟨rb.r, o, none⟩) n k = .slice p 0 cap ∧ l = []) ∨ ∃ b off cap, Value.slice (some ⟨rb.r, o, none⟩) n k = .slice (some ⟨b, off, none⟩) l.length cap ∧ l.length ≤ cap ∧ b < w.heap.size ∧ ∀ j y, l[j]? = some y → w.cell? ⟨b, off + j, none⟩ = some (.int .u8 y.toNat) := by
        intro rb o k hm ho hk
        have hlt := (W.dom _ _ _ hm).1
        unfold H.ldn at hcs
        split at hcs
        · rename_i c hr
          obtain ⟨c', e, fz, l', h1, h2, h6⟩ := W.row hr hm
          obtain ⟨vs, h3, h4, h5⟩ := h2.cut hcs
          obtain rfl := toB_rel hl h4
          have hln : l.length = n := by simpa using h3
          by_cases h0 : n = 0
          · subst h0
            exact .inl ⟨_, _, rfl, List.eq_nil_of_length_eq_zero hln⟩
          · obtain rfl : o = a.o := by rcases ho with h | h; exact h; exact absurd h h0
            refine .inr ⟨rb.r, a.o, k, by rw [hln], by omega, hlt, ?_⟩
            intro j y hj
            exact cell_at h1 (by rw [← h6 _ (Nat.le_add_right _ _)]; exact h5 j _ (by rw [List.getElem?_map, hj]; rfl))
        · simp at hcs
      cases c with
      | ex c =>
        rcases hx with ⟨rb, hm, rfl, hn⟩ | ⟨rfl, rfl, ad, rfl⟩
        · exact key rb a.o c hm (.inl rfl) hn
        · have hc0 : cs = [] := by
            simp only [H.ldn] at hcs
            split at hcs
            · exact List.eq_nil_of_length_eq_zero (cut_pre (m := 0) hcs)
            · simp at hcs
          subst hc0
          simp only [toB, Option.some.injEq] at hl
          exact .inl ⟨_, _, rfl, hl.symm⟩
      | op e => obtain ⟨rb, o, c, hm, rfl, hn, _, ho⟩ := hx; exact key rb o c hm (by rcases ho with ho | ho; exact .inl ho.1; exact .inr (by omega)) hn
    · simp at hl

/-! ### base.Put -/

def nPut : NatF := fun args h => match args with
  | [x] => match bytesOf h x with
    | some l => if l.length ≤ 149500000000000 then some (.str (Ba.b64 l), h) else none
    | none => none
  | _ => none

theorem nPut_ok (w0 : World) : NatOk Tryd.prog w0 16 nPut := by
  refine NatOk.of_below ?_
  intro args h v h' he
  unfold nPut at he
  split at he
  · rename_i x
    split at he
    · rename_i l hl
      split at he
      · rename_i hlen
        simp only [Option.some.injEq, Prod.mk.injEq] at he
        obtain ⟨rfl, rfl⟩ := he
        refine ⟨rfl, ?_⟩
        intro μ w args' ha W
        obtain ⟨x', r, e, hx, rfl⟩ := ha
        obtain rfl : args' = #[x'] := by apply Array.ext'; rw [e]
        rcases bytesOf_rel W hl hx with ⟨p, cap, rfl, rfl⟩ | ⟨b, off, cap, rfl, hcap, hb, hc⟩
        · refine (Ba.put_none p cap w Tryd.Builder_WriteByte_w Tryd.Builder_String_any_k).mono ?_
          rintro e w' ⟨rfl, hb⟩
          exact ⟨_, rfl, rfl, hb⟩
        · refine (Ba.put_some l b off cap w hlen hcap hb hc Tryd.Builder_WriteByte_w Tryd.Builder_String_any_k).mono ?_
          rintro e w' ⟨rfl, hb⟩
          exact ⟨_, rfl, rfl, hb⟩
      · simp at he
    · simp at he
  · simp at he

/-! ### strings.IndexByte, strings.TrimRight at one sign -/

def nIndexByte : NatF := fun args h => match args with
  | [.str s, .int .u8 c] => some (.int .i64 (Lib.indexByte s (UInt8.ofNat c.toNat)), h)
  | _ => none

theorem nIndexByte_ok (w0 : World) : NatOk Tryd.prog w0 33 nIndexByte := by
  refine NatOk.of_below ?_
  intro args h v h' he
  unfold nIndexByte at he
  split at he
  · rename_i s c
    simp only [Option.some.injEq, Prod.mk.injEq] at he
    obtain ⟨rfl, rfl⟩ := he
    refine ⟨rfl, ?_⟩
    intro μ w args' ha W
    obtain ⟨x', r, e, hx, y', r', e2, hy, rfl⟩ := ha
    cases hx; cases hy
    subst e2
    obtain rfl : args' = #[.string ⟨s.toArray⟩, .int .u8 c] := by apply Array.ext'; rw [e]
    refine (Tryd.strings_IndexByte ⟨s.toArray⟩ c w).mono ?_
    rintro e w' ⟨rfl, rfl⟩
    exact ⟨_, rfl, rfl, Below.refl _ _⟩
  · simp at he

def nTrimRight : NatF := fun args h => match args with
  | [.str s, .str [c]] => if c.toNat < 128 ∧ s.length ≤ 9223372036854775807 then some (.str (Lib.trimRightB s c), h) else none
  | _ => none

theorem nTrimRight_ok (w0 : World) : NatOk Tryd.prog w0 34 nTrimRight := by
  refine NatOk.of_below ?_
  intro args h v h' he
  unfold nTrimRight at he
  split at he
  · rename_i s c
    split at he
    · rename_i hc
      simp only [Option.some.injEq, Prod.mk.injEq] at he
      obtain ⟨rfl, rfl⟩ := he
      refine ⟨rfl, ?_⟩
      intro μ w args' ha W
      obtain ⟨x', r, e, hx, y', r', e2, hy, rfl⟩ := ha
      cases hx; cases hy
      subst e2
      obtain rfl : args' = #[.string ⟨s.toArray⟩, .string ⟨#[c]⟩] := by apply Array.ext'; rw [e]
      refine (Tryd.strings_TrimRight_one ⟨s.toArray⟩ c hc.1 w hc.2).mono ?_
      rintro e w' ⟨rfl, rfl⟩
      exact ⟨_, rfl, rfl, Below.refl _ _⟩
    · simp at he
  · simp at he

/-- The functions that base's laws know by their contracts. -/
def baNats : FuncId → Option NatF
  | 16 => some nPut
  | 33 => some nIndexByte
  | 34 => some nTrimRight
  | _ => none

theorem baNats_ok (w0 : World) : FOkAt Tryd.prog w0 (tabNat Tryd.prog baNats) := by
  refine tabNat_ok ?_
  intro f g h
  unfold baNats at h
  split at h
  · cases h; exact ⟨⟨_, Tryd.func16, by kernel_rfl, by kernel_rfl⟩, nPut_ok w0⟩
  · cases h; exact ⟨⟨_, Tryd.func33, by kernel_rfl, by kernel_rfl⟩, nIndexByte_ok w0⟩
  · cases h; exact ⟨⟨_, Tryd.func34, by kernel_rfl, by kernel_rfl⟩, nTrimRight_ok w0⟩
  · simp at h

end Go.Det
