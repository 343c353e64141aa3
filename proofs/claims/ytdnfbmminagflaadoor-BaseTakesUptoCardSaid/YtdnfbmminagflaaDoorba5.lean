/- Base: texts read: the loop over the letters. -/
import Derived.Test.YtdnfbmminagflaaDoorba4
set_option linter.unusedVariables false
set_option linter.unusedSimpArgs false
set_option linter.unusedSectionVars false
namespace Go.Det
open Go.Proofs
attribute [local irreducible] Wp Wo Wd iop ev slots quiets wanted put

/-- What has been read: the bits at hand, how many signs, the bytes. -/
structure Got where
  n : Nat
  many : Nat
  out : List UInt8
/-- One sign more. -/
def Got.step (g : Got) (c : UInt8) : Option Got :=
  if Lib.indexByte Ba.table c < 0 then none
  else if (g.many + 1) % 4 = 0 then some ⟨0, g.many + 1, g.out ++ tri (g.n * 64 + (Lib.indexByte Ba.table c).toNat)⟩
  else some ⟨g.n * 64 + (Lib.indexByte Ba.table c).toNat, g.many + 1, g.out⟩
def Got.all : Got → List UInt8 → Option Got
  | g, [] => some g
  | g, c :: l => match g.step c with
    | some g' => g'.all l
    | none => none
/-- The bits at hand are no more than the signs give. -/
def Got.fit (g : Got) : Prop := g.n < 64 ^ (g.many % 4)

theorem index_lt (c : UInt8) : Lib.indexByte Ba.table c < 64 := by
  have : ∀ (l : List UInt8), Lib.indexByte l c < l.length ∨ Lib.indexByte l c = -1 := by
    intro l
    induction l with
    | nil => exact .inr rfl
    | cons b l ih =>
      simp only [Lib.indexByte]
      split
      · left; simp
      · split
        · exact .inr rfl
        · rename_i h
          rcases ih with ih | ih
          · left; simp; omega
          · simp [ih] at h
  have h2 : Ba.table.length = 64 := by decide
  rcases this Ba.table with h | h
  · rw [h2] at h; exact h
  · omega
theorem Got.fit_n {g : Got} (h : g.fit) : g.n < 262144 := by
  unfold Got.fit at h
  have : g.many % 4 = 0 ∨ g.many % 4 = 1 ∨ g.many % 4 = 2 ∨ g.many % 4 = 3 := by omega
  rcases this with e | e | e | e <;> rw [e] at h <;> omega
theorem Got.fit_step {g g' : Got} {c : UInt8} (h : g.fit) (hs : g.step c = some g') : g'.fit := by
  unfold Got.step at hs
  have hlt := index_lt c
  split at hs
  · simp at hs
  · rename_i h0
    split at hs
    · rename_i h4
      simp only [Option.some.injEq] at hs
      subst hs
      show 0 < 64 ^ ((g.many + 1) % 4)
      rw [h4]
      decide
    · rename_i h4
      simp only [Option.some.injEq] at hs
      subst hs
      show g.n * 64 + _ < 64 ^ ((g.many + 1) % 4)
      unfold Got.fit at h
      have : g.many % 4 = 0 ∨ g.many % 4 = 1 ∨ g.many % 4 = 2 := by omega
      rcases this with e | e | e
      · rw [show (g.many + 1) % 4 = 1 by omega]; rw [e] at h; omega
      · rw [show (g.many + 1) % 4 = 2 by omega]; rw [e] at h; omega
      · rw [show (g.many + 1) % 4 = 3 by omega]; rw [e] at h; omega

theorem Got.no {g : Got} {c : UInt8} {l : List UInt8} (h : Lib.indexByte Ba.table c < 0) : g.all (c :: l) = none := by
  simp only [Got.all, Got.step, if_pos h]
theorem Got.full {g : Got} {c : UInt8} {l : List UInt8} {k : Nat} (h : Lib.indexByte Ba.table c = (k : Int)) (h4 : (g.many + 1) % 4 = 0) : g.step c = some ⟨0, g.many + 1, g.out ++ tri (g.n * 64 + k)⟩ := by
  have h0 : ¬ Lib.indexByte Ba.table c < 0 := by omega
  simp only [Got.step]
  rw [if_neg h0, if_pos h4, h, Int.toNat_natCast]
theorem Got.part {g : Got} {c : UInt8} {l : List UInt8} {k : Nat} (h : Lib.indexByte Ba.table c = (k : Int)) (h4 : ¬ (g.many + 1) % 4 = 0) : g.step c = some ⟨g.n * 64 + k, g.many + 1, g.out⟩ := by
  have h0 : ¬ Lib.indexByte Ba.table c < 0 := by omega
  simp only [Got.step]
  rw [if_neg h0, if_neg h4, h, Int.toNat_natCast]
theorem Got.go {g g' : Got} {c : UInt8} {l : List UInt8} (h : g.step c = some g') : g.all (c :: l) = g'.all l := by simp only [Got.all, h]

/-- What stands of the closure's variables. -/
structure Vars (hb : H) (lo bn bm bo : Nat) (g : Got) (h : H) : Prop where
  n : Pt h bn (.cells 0 68 [.int .u32 g.n] 0 false)
  many : Pt h bm (.cells 0 3 [.int .i64 g.many] 0 false)
  out : ∃ v, Pt h bo (.cells 0 22 [v] 0 false) ∧ Ow lo h v g.out
  fit : g.fit
  ext : Ext hb h
  lo : lo ≤ h.n
  len : g.out.length = g.many / 4 * 3

/-- The closure's call. -/
theorem next_call {hb h : H} {lo bn bm bo : Nat} {g : Got} {c : UInt8} (V : Vars hb lo bn bm bo g h) (b1 : hb.n ≤ bn) (b2 : hb.n ≤ bm) (b3 : hb.n ≤ bo) (hd1 : bn ≠ bm) (hd2 : bn ≠ bo) (hd3 : bm ≠ bo) (hbn : bn < lo) (hbm : bm < lo) (hbo : bo < lo) (hm : g.many ≤ 199000000000000) :
    ∃ h', Runs TF 32 [.int .u8 c.toNat, .ptr ⟨bn, 0, 0⟩, .ptr ⟨bm, 0, 0⟩, .ptr ⟨bo, 0, 0⟩] h (.bool (g.step c).isSome) h' ∧ ∀ g', g.step c = some g' → Vars hb lo bn bm bo g' h' := by
  by_cases h0 : Lib.indexByte Ba.table c < 0
  · have e : g.step c = none := by simp only [Got.step, if_pos h0]
    exact ⟨h, by rw [e]; exact next_no h0, fun g' h' => by rw [e] at h'; cases h'⟩
  · obtain ⟨k, hk⟩ : ∃ k : Nat, Lib.indexByte Ba.table c = (k : Int) := ⟨(Lib.indexByte Ba.table c).toNat, by omega⟩
    have hk64 : k < 64 := by have := index_lt c; omega
    obtain ⟨v, po, ho⟩ := V.out
    by_cases h4 : (g.many + 1) % 4 = 0
    · have e := Got.full (l := []) hk h4
      obtain ⟨r, h', hr, rfl, v', a1, a2, a3, a4, a5⟩ := next_full V.n V.many po ho hd1 hd2 hd3 hbn hbm hbo V.lo (by have := V.len; omega) hk hk64 (Got.fit_n V.fit) (by omega) h4
      refine ⟨h', by rw [e]; exact hr, fun g' hg => ?_⟩
      have hf := Got.fit_step V.fit hg
      rw [e] at hg
      cases hg
      refine ⟨a1, a2, ⟨v', a3, a4⟩, hf, ⟨Nat.le_trans V.ext.1 a5.1, fun b hb1 => ?_⟩, Nat.le_trans V.lo a5.1, ?_⟩
      · rw [a5.2 b (Nat.lt_of_lt_of_le hb1 V.ext.1) (by rintro (q | q | q | q) <;> first | omega | (have := ho.bd; omega))]
        exact V.ext.2 b hb1
      · have := V.len
        show (g.out ++ tri _).length = (g.many + 1) / 4 * 3
        rw [List.length_append, this]
        simp only [tri, List.length_cons, List.length_nil]
        omega
    · have e := Got.part (l := []) hk h4
      obtain ⟨r, h', hr, rfl, a1, a2, a5⟩ := next_part (bo := bo) V.n V.many hd1 hk hk64 (Got.fit_n V.fit) (by omega) h4
      refine ⟨h', by rw [e]; exact hr, fun g' hg => ?_⟩
      have hf := Got.fit_step V.fit hg
      rw [e] at hg
      cases hg
      refine ⟨a1, a2, ⟨v, po.fr a5 (by rintro (q | q) <;> omega), ho.fr a5 (by rcases ho.bd.1 with q | q; exact .inl q; exact .inr (by rintro (q2 | q2) <;> omega))⟩, hf, ⟨Nat.le_trans V.ext.1 a5.1, fun b hb1 => ?_⟩, Nat.le_trans V.lo a5.1, ?_⟩
      · rw [a5.2 b (Nat.lt_of_lt_of_le hb1 V.ext.1) (by rintro (q | q) <;> omega)]
        exact V.ext.2 b hb1
      · have := V.len
        show g.out.length = (g.many + 1) / 4 * 3
        omega
end Go.Det
