/- How a state of the deterministic machine stands to a real world: values, blocks of memory, and what a step may change. -/
import Derived.Test.YtcobmomjdbmacaaDoorDetCore
import Derived.Below
set_option linter.unusedVariables false
set_option linter.unusedSimpArgs false
set_option linter.unusedSectionVars false
namespace Go.Det
open Go.RowKit

/-- A real block, and how many cells it has. -/
structure RB where
  r : Nat
  n : Nat

/-- Which real block a block (in one of its states) is. -/
abbrev Mu := Nat → Nat → Option RB

def Mu.le (μ μ' : Mu) : Prop := ∀ b g rb, μ b g = some rb → μ' b g = some rb

theorem Mu.le.refl (μ : Mu) : μ.le μ := fun _ _ _ h => h
theorem Mu.le.trans {μ μ' μ'' : Mu} (h : μ.le μ') (h' : μ'.le μ'') : μ.le μ'' := fun _ _ _ x => h' _ _ _ (h _ _ _ x)

mutual
def VRel (μ : Mu) : AV → Value → Prop
  | .bool b, v => v = .bool b
  | .int k n, v => v = .int k n
  | .str s, v => v = .string ⟨s.toArray⟩
  | .nilp, v => v = .pointer none
  | .ptr a, v => ∃ rb, μ a.b a.g = some rb ∧ v = .pointer (some ⟨rb.r, a.o, none⟩)
  | .nils, v => v = .slice none 0 0
  | .sl a n (.ex c), v => (∃ rb, μ a.b a.g = some rb ∧ v = .slice (some ⟨rb.r, a.o, none⟩) n c ∧ n ≤ c) ∨ (n = 0 ∧ c = 0 ∧ ∃ ad, v = .slice (some ad) 0 0)
  | .sl a n (.op e), v => ∃ rb o c, μ a.b a.g = some rb ∧ v = .slice (some ⟨rb.r, o, none⟩) n c ∧ n ≤ c ∧ c ≤ maxLen ∧ ((o = a.o ∧ a.o + c * e = rb.n) ∨ (c = 0 ∧ o ≤ a.o))
  | .nilm, v => v = .map none
  | .map r, v => ∃ rb, μ r 0 = some rb ∧ v = .map (some rb.r)
  | .nilf, v => v = .nilFunc
  | .fn f a b, v => ∃ x y, v = .func f x y ∧ VRels μ a x.toList ∧ VRels μ b y.toList
  | .nili, v => v = .nilIface
  | .ifc t x, v => ∃ y, v = .iface t y ∧ VRel μ x y
  | .agg cs, v => ∃ vs, v = .agg vs ∧ VRels μ cs vs.toList
  | .tup cs, v => ∃ vs, v = .tuple vs ∧ VRels μ cs vs.toList
  | .any, v => ∃ t x, v = .iface t x
def VRels (μ : Mu) : List AV → List Value → Prop
  | [], l => l = []
  | a :: x, l => ∃ v y, l = v :: y ∧ VRel μ a v ∧ VRels μ x y
end

mutual
theorem VRel.mono {μ μ' : Mu} (hm : μ.le μ') : ∀ (a : AV) (v : Value), VRel μ a v → VRel μ' a v
  | .bool _, _, h => h
  | .int _ _, _, h => h
  | .str _, _, h => h
  | .nilp, _, h => h
  | .ptr _, _, h => by obtain ⟨rb, h1, h2⟩ := h; exact ⟨rb, hm _ _ _ h1, h2⟩
  | .nils, _, h => h
  | .sl _ _ (.ex _), _, h => h.imp (fun ⟨rb, h1, h2⟩ => ⟨rb, hm _ _ _ h1, h2⟩) id
  | .sl _ _ (.op _), _, h => by obtain ⟨rb, o, c, h1, h2⟩ := h; exact ⟨rb, o, c, hm _ _ _ h1, h2⟩
  | .nilm, _, h => h
  | .map _, _, h => by obtain ⟨rb, h1, h2⟩ := h; exact ⟨rb, hm _ _ _ h1, h2⟩
  | .nilf, _, h => h
  | .fn _ a b, _, h => by obtain ⟨x, y, h1, h2, h3⟩ := h; exact ⟨x, y, h1, VRels.mono hm a _ h2, VRels.mono hm b _ h3⟩
  | .nili, _, h => h
  | .ifc _ x, _, h => by obtain ⟨y, h1, h2⟩ := h; exact ⟨y, h1, VRel.mono hm x _ h2⟩
  | .agg cs, _, h => by obtain ⟨y, h1, h2⟩ := h; exact ⟨y, h1, VRels.mono hm cs _ h2⟩
  | .tup cs, _, h => by obtain ⟨y, h1, h2⟩ := h; exact ⟨y, h1, VRels.mono hm cs _ h2⟩
  | .any, _, h => h
theorem VRels.mono {μ μ' : Mu} (hm : μ.le μ') : ∀ (a : List AV) (v : List Value), VRels μ a v → VRels μ' a v
  | [], _, h => h
  | a :: x, _, h => by obtain ⟨v, y, h1, h2, h3⟩ := h; exact ⟨v, y, h1, VRel.mono hm a _ h2, VRels.mono hm x _ h3⟩
end

section lists
variable {μ : Mu}

theorem VRels.nil : VRels μ [] [] := rfl
theorem VRels.cons {a : AV} {v : Value} {x : List AV} {y : List Value} (h : VRel μ a v) (hs : VRels μ x y) : VRels μ (a :: x) (v :: y) := ⟨v, y, rfl, h, hs⟩
theorem VRels.length {x : List AV} {y : List Value} (h : VRels μ x y) : x.length = y.length := by
  induction x generalizing y with
  | nil => cases h; rfl
  | cons a x ih => obtain ⟨v, y, rfl, _, h⟩ := h; simp [ih h]
theorem VRels.append {x x' : List AV} {y y' : List Value} (h : VRels μ x y) (h' : VRels μ x' y') : VRels μ (x ++ x') (y ++ y') := by
  induction x generalizing y with
  | nil => cases h; exact h'
  | cons a x ih => obtain ⟨v, y, rfl, hv, h⟩ := h; exact ⟨v, y ++ y', rfl, hv, ih h⟩
theorem VRels.get {x : List AV} {y : List Value} (h : VRels μ x y) {i : Nat} {a : AV} (hi : getL x i = some a) : ∃ v, y[i]? = some v ∧ VRel μ a v := by
  induction x generalizing y i with
  | nil => simp [getL] at hi
  | cons b x ih =>
    obtain ⟨v, y, rfl, hv, h⟩ := h
    cases i with
    | zero => simp only [getL, Option.some.injEq] at hi; subst hi; exact ⟨v, by simp, hv⟩
    | succ i => obtain ⟨u, h1, h2⟩ := ih h (by simpa [getL] using hi); exact ⟨u, by simpa using h1, h2⟩
theorem VRels.get_none {x : List AV} {y : List Value} (h : VRels μ x y) {i : Nat} (hi : getL x i = none) : y[i]? = none := by
  induction x generalizing y i with
  | nil => cases h; simp
  | cons b x ih =>
    obtain ⟨v, y, rfl, hv, h⟩ := h
    cases i with
    | zero => simp [getL] at hi
    | succ i => simpa using ih h (by simpa [getL] using hi)
theorem VRels.set {x : List AV} {y : List Value} (h : VRels μ x y) (i : Nat) {a : AV} {v : Value} (hv : VRel μ a v) : VRels μ (setL x i a) (y.set i v) := by
  induction x generalizing y i with
  | nil => cases h; simpa [setL] using VRels.nil
  | cons b x ih =>
    obtain ⟨u, y, rfl, hu, h⟩ := h
    cases i with
    | zero => exact ⟨v, y, rfl, hv, h⟩
    | succ i => exact ⟨u, y.set i v, rfl, hu, ih h i⟩
theorem VRels.take {x : List AV} {y : List Value} (h : VRels μ x y) (n : Nat) : VRels μ (x.take n) (y.take n) := by
  induction x generalizing y n with
  | nil => cases h; simpa using VRels.nil
  | cons a x ih =>
    obtain ⟨v, y, rfl, hv, h⟩ := h
    cases n with
    | zero => simpa using VRels.nil
    | succ n => exact ⟨v, y.take n, rfl, hv, ih h n⟩
theorem VRels.drop {x : List AV} {y : List Value} (h : VRels μ x y) (n : Nat) : VRels μ (x.drop n) (y.drop n) := by
  induction x generalizing y n with
  | nil => cases h; simpa using VRels.nil
  | cons a x ih =>
    obtain ⟨v, y, rfl, hv, h⟩ := h
    cases n with
    | zero => exact ⟨v, y, rfl, hv, h⟩
    | succ n => exact ih h n
theorem VRels.replicate {a : AV} {v : Value} (h : VRel μ a v) (n : Nat) : VRels μ (List.replicate n a) (List.replicate n v) := by
  induction n with
  | zero => exact VRels.nil
  | succ n ih => exact ⟨v, _, rfl, h, ih⟩
theorem VRels.putAt {x : List AV} {y : List Value} (h : VRels μ x y) {o : Nat} {a : List AV} {v : List Value} (hv : VRels μ a v) (hl : o + a.length ≤ x.length) :
    VRels μ (putAt x o a) (y.take o ++ v ++ y.drop (o + v.length)) := by
  induction o generalizing x y with
  | zero => 
    have e : Det.putAt x 0 a = a ++ x.drop a.length := by cases x <;> rfl
    rw [e]; simpa [hv.length] using hv.append (h.drop v.length)
  | succ o ih =>
    cases x with
    | nil => simp at hl
    | cons b x =>
      obtain ⟨u, y, rfl, hu, h⟩ := h
      have := ih h (by simp at hl; omega)
      refine ⟨u, y.take o ++ v ++ y.drop (o + v.length), ?_, hu, this⟩
      simp [Nat.add_right_comm o 1]

/-- So much of a row is known. -/
def VPre (μ : Mu) (c : List AV) (l : List Value) : Prop := ∃ l1 l2, l = l1 ++ l2 ∧ VRels μ c l1

theorem VPre.get {c : List AV} {l : List Value} (h : VPre μ c l) {i : Nat} {a : AV} (hi : getL c i = some a) : ∃ v, l[i]? = some v ∧ VRel μ a v := by
  obtain ⟨l1, l2, rfl, h⟩ := h
  obtain ⟨v, h1, h2⟩ := h.get hi
  have hlt : i < l1.length := (List.getElem?_eq_some_iff.1 h1).1
  exact ⟨v, by rw [List.getElem?_append_left hlt]; exact h1, h2⟩
theorem VPre.length {c : List AV} {l : List Value} (h : VPre μ c l) : c.length ≤ l.length := by
  obtain ⟨l1, l2, rfl, h⟩ := h
  simp [h.length]
theorem VPre.cut {c : List AV} {l : List Value} (h : VPre μ c l) {o n : Nat} {r : List AV} (hc : cut c o n = some r) :
    ∃ vs, vs.length = n ∧ VRels μ r vs ∧ ∀ j v, vs[j]? = some v → l[o + j]? = some v := by
  obtain ⟨l1, l2, rfl, h⟩ := h
  unfold Det.cut at hc
  simp only [] at hc
  split at hc
  · rename_i hn
    simp only [Option.some.injEq] at hc
    subst hc
    have hv := (h.drop o).take n
    refine ⟨_, ?_, hv, ?_⟩
    · rw [← hv.length]; simpa using hn
    · intro j v hj
      rw [List.getElem?_take] at hj
      split at hj
      · rw [List.getElem?_drop] at hj
        have hlt : o + j < l1.length := (List.getElem?_eq_some_iff.1 hj).1
        rw [List.getElem?_append_left hlt]; exact hj
      · simp at hj
  · simp at hc
theorem VPre.putAt {c : List AV} {l : List Value} (h : VPre μ c l) {o : Nat} {a : List AV} {v : List Value} (hv : VRels μ a v) (hl : o + a.length ≤ c.length) :
    VPre μ (putAt c o a) (l.take o ++ v ++ l.drop (o + v.length)) := by
  obtain ⟨l1, l2, rfl, h⟩ := h
  have e := hv.length
  have e' := h.length
  refine ⟨_, l2, ?_, h.putAt hv hl⟩
  rw [List.take_append_of_le_length (by omega), List.drop_append_of_le_length (by omega)]
  simp
theorem VPre.append {c : List AV} {l : List Value} {a : List AV} {v : List Value} (h : VPre μ c l) (hv : VRels μ a v) :
    VPre μ (c ++ a) (l.take c.length ++ v ++ l.drop (c.length + v.length)) := by
  obtain ⟨l1, l2, rfl, h⟩ := h
  have e' := h.length
  refine ⟨l1 ++ v, (l1 ++ l2).drop (c.length + v.length), ?_, h.append hv⟩
  rw [e', List.take_left]
theorem VPre.of {c : List AV} {l l' : List Value} (h : VRels μ c l) : VPre μ c (l ++ l') := ⟨l, l', rfl, h⟩
theorem VPre.mono {μ' : Mu} (hm : μ.le μ') {c : List AV} {l : List Value} (h : VPre μ c l) : VPre μ' c l := by
  obtain ⟨l1, l2, e, h⟩ := h; exact ⟨l1, l2, e, VRels.mono hm _ _ h⟩
end lists

/-! ### Blocks -/

def Blk.gen : Blk → Nat
  | .cells g _ _ _ _ => g
  | _ => 0

def Blk.ro : Blk → Bool
  | .cells _ _ _ _ ro => ro
  | _ => false

def ERels (μ : Mu) : List (AV × AV × Nat) → List MapEntry → Prop
  | [], l => l = []
  | (k, v, n) :: x, l => ∃ e y, l = e :: y ∧ VRel μ k e.key ∧ VRel μ v e.val ∧ e.born = n ∧ ERels μ x y

theorem ERels.mono {μ μ' : Mu} (hm : μ.le μ') : ∀ (a : List (AV × AV × Nat)) (v : List MapEntry), ERels μ a v → ERels μ' a v
  | [], _, h => h
  | (_, _, _) :: x, _, h => by obtain ⟨e, y, h1, h2, h3, h4, h5⟩ := h; exact ⟨e, y, h1, VRel.mono hm _ _ h2, VRel.mono hm _ _ h3, h4, ERels.mono hm x _ h5⟩

/-- What is known of a real object. -/
def ORel (μ : Mu) (n : Nat) : Blk → Obj → Prop
  | .cells _ e c fz _, o => ∃ c' lo hi, o = .cells c' e (lo, hi) ∧ c'.size = n ∧ VPre μ c c'.toList ∧ lo ≤ hi ∧ ∀ i, lo ≤ i → i < hi → i < fz ∨ n ≤ i
  | .map es clock, o => ∃ es', o = .map es' clock ∧ ERels μ es es'.toList
  | .iter s pos, o => o = .stringIter ⟨s.toArray⟩ pos

theorem ORel.mono {μ μ' : Mu} (hm : μ.le μ') {n : Nat} {B : Blk} {o : Obj} (h : ORel μ n B o) : ORel μ' n B o := by
  cases B with
  | cells g e c fz ro => obtain ⟨c', lo, hi, h1, h2, h3, h4⟩ := h; exact ⟨c', lo, hi, h1, h2, h3.mono hm, h4⟩
  | map es clock => obtain ⟨es', h1, h2⟩ := h; exact ⟨es', h1, ERels.mono hm _ _ h2⟩
  | iter s pos => exact h

/-- What is known of a real object that is only read: from its k-th cell on. -/
def RoRel (μ : Mu) : Blk → Obj → Prop
  | .cells _ e c k true, o => ∃ c' fz l', o = .cells c' e fz ∧ VPre μ c l' ∧ ∀ i, k ≤ i → l'[i]? = c'.toList[i]?
  | _, _ => False

theorem RoRel.mono {μ μ' : Mu} (hm : μ.le μ') {B : Blk} {o : Obj} (h : RoRel μ B o) : RoRel μ' B o := by
  unfold RoRel at h ⊢
  split at h
  · obtain ⟨c', fz, l', h1, h2, h3⟩ := h; exact ⟨c', fz, l', h1, h2.mono hm, h3⟩
  · exact h.elim

def BRel (μ : Mu) (B : Blk) (rb : RB) (w : World) : Prop := ∃ o, w.heap[rb.r]? = some o ∧ (ORel μ rb.n B o ∨ RoRel μ B o)

theorem BRel.own {μ : Mu} {B : Blk} {rb : RB} {w : World} (h : BRel μ B rb w) (hr : B.ro = false) : ∃ o, w.heap[rb.r]? = some o ∧ ORel μ rb.n B o := by
  obtain ⟨o, h1, h2 | h2⟩ := h
  · exact ⟨o, h1, h2⟩
  · exfalso
    unfold RoRel at h2
    split at h2
    · simp [Blk.ro] at hr
    · exact h2

structure WRel (μ : Mu) (w0 : World) (ng : Nat) (h : H) (w : World) : Prop where
  base : Below w0.heap.size w0 w
  glob : ∀ g, g < ng → ∃ n, μ g 0 = some ⟨g, n⟩
  dom : ∀ b g rb, μ b g = some rb → rb.r < w.heap.size ∧ b < h.n ∧ ∃ B, h.get b = some B ∧ g ≤ B.gen
  blk : ∀ b B rb, h.get b = some B → μ b B.gen = some rb → BRel μ B rb w ∧ (B.ro = false → w0.heap.size ≤ rb.r)
  inj : ∀ b B rb b' B' rb', h.get b = some B → h.get b' = some B' → μ b B.gen = some rb → μ b' B'.gen = some rb' → B.ro = false → rb.r = rb'.r → b = b'

/-- What a step may change. -/
structure Adv (μ : Mu) (h : H) (w : World) (μ' : Mu) (h' : H) (w' : World) : Prop where
  le : μ.le μ'
  size : w.heap.size ≤ w'.heap.size
  n : h.n ≤ h'.n
  keep : ∀ r, r < w.heap.size → (∀ b g rb, μ b g = some rb → rb.r ≠ r) → w'.heap[r]? = w.heap[r]?
  new : ∀ b g rb, μ' b g = some rb → (∃ g0 rb0, μ b g0 = some rb0 ∧ (rb0.r = rb.r ∨ w.heap.size ≤ rb.r)) ∨ (h.n ≤ b ∧ w.heap.size ≤ rb.r)
  own : ∀ b, b < h.n → (∀ g rb, μ b g ≠ some rb) → h'.get b = h.get b

theorem Adv.refl (μ : Mu) (h : H) (w : World) : Adv μ h w μ h w :=
  ⟨.refl μ, Nat.le_refl _, Nat.le_refl _, fun _ _ _ => rfl, fun _ g rb e => .inl ⟨g, rb, e, .inl rfl⟩, fun _ _ _ => rfl⟩

theorem Adv.trans {μ μ' μ'' : Mu} {h h' h'' : H} {w w' w'' : World} (a : Adv μ h w μ' h' w') (b : Adv μ' h' w' μ'' h'' w'') : Adv μ h w μ'' h'' w'' := by
  refine ⟨a.le.trans b.le, Nat.le_trans a.size b.size, Nat.le_trans a.n b.n, ?_, ?_, ?_⟩
  · intro r hr hn
    rw [b.keep r (Nat.lt_of_lt_of_le hr a.size), a.keep r hr hn]
    intro k g rb e
    rcases a.new k g rb e with ⟨g0, rb0, e0, h0 | h0⟩ | ⟨_, h0⟩
    · rw [← h0]; exact hn _ _ _ e0
    · omega
    · omega
  · intro k g rb e
    rcases b.new k g rb e with ⟨g0, rb0, e0, h0⟩ | ⟨h1, h2⟩
    · rcases a.new k g0 rb0 e0 with ⟨g1, rb1, e1, h1⟩ | ⟨h1, h2⟩
      · refine .inl ⟨g1, rb1, e1, ?_⟩
        have := a.size
        rcases h0 with h0 | h0
        · rw [← h0]; exact h1
        · exact .inr (by omega)
      · refine .inr ⟨h1, ?_⟩
        have := a.size
        rcases h0 with h0 | h0
        · omega
        · omega
    · exact .inr ⟨by have := a.n; omega, by have := a.size; omega⟩
  · intro k hk hno
    rw [b.own k (Nat.lt_of_lt_of_le hk a.n) (fun g rb e => by
      rcases a.new k g rb e with ⟨g0, rb0, e0, _⟩ | ⟨h1, _⟩
      · exact hno _ _ e0
      · omega), a.own k hk hno]

/-- The world w' is w with block r being o. -/
structure Chg (w w' : World) (r : Nat) (o : Obj) : Prop where
  os : w'.os = w.os
  tape : w'.tape = w.tape
  output : w'.output = w.output
  size : w.heap.size ≤ w'.heap.size
  here : w'.heap[r]? = some o
  there : ∀ k, k ≠ r → k < w.heap.size → w'.heap[k]? = w.heap[k]?

theorem getElem?_lt {α : Type} {a : Array α} {i : Nat} {x : α} (h : a[i]? = some x) : i < a.size := (Array.getElem?_eq_some_iff.1 h).1

theorem Chg.alloc (w : World) (o : Obj) : Chg w (w.alloc o) w.heap.size o :=
  ⟨rfl, rfl, rfl, by simp, by show (w.heap.push o)[w.heap.size]? = some o; simp, fun k _ hk => by
    show (w.heap.push o)[k]? = _
    rw [Array.getElem?_push, if_neg (by omega)]⟩

theorem Chg.drew {w w' : World} {r : Nat} {o : Obj} (h : Chg w w' r o) (w1 : World) (hw : w1.heap = w.heap) (h1 : w1.os = w.os) (h2 : w1.tape = w.tape) (h3 : w1.output = w.output) : Chg w1 w' r o :=
  ⟨h.os.trans h1.symm, h.tape.trans h2.symm, h.output.trans h3.symm, by rw [hw]; exact h.size, h.here, fun k hk hl => by rw [hw] at hl ⊢; exact h.there k hk hl⟩

def Mu.put (μ : Mu) (b g : Nat) (rb : RB) : Mu := fun b' g' => if b' = b ∧ g' = g then some rb else μ b' g'

/-- A block is written, made, or appended to. -/
theorem WRel.upd {μ : Mu} {w0 : World} {ng : Nat} {h h' : H} {w w' : World} (W : WRel μ w0 ng h w) (b : Nat) (B : Blk) (rb : RB) (o : Obj)
    (hget : h'.get b = some B) (hoth : ∀ k, k ≠ b → h'.get k = h.get k) (hn : h.n ≤ h'.n) (hbn : b < h'.n)
    (hc : Chg w w' rb.r o) (hsz : rb.r < w'.heap.size)
    (hro : B.ro = false)
    (hwhere : (rb.r = w.heap.size ∧ (h.n ≤ b ∨ ∃ B0 rb0, h.get b = some B0 ∧ μ b B0.gen = some rb0 ∧ B0.ro = false)) ∨ ∃ B0 rb0, h.get b = some B0 ∧ μ b B0.gen = some rb0 ∧ B0.ro = false ∧ rb0.r = rb.r)
    (hgen : ∀ g rb1, μ b g = some rb1 → g ≤ B.gen)
    (hsame : ∀ rb1, μ b B.gen = some rb1 → rb1 = rb)
    (ho : ORel (μ.put b B.gen rb) rb.n B o) :
    WRel (μ.put b B.gen rb) w0 ng h' w' ∧ Adv μ h w (μ.put b B.gen rb) h' w' := by
  have hle : μ.le (μ.put b B.gen rb) := by
    intro k g rb1 e
    unfold Mu.put
    split
    · rename_i hk; obtain ⟨rfl, rfl⟩ := hk; rw [hsame _ e]
    · exact e
  have hback : ∀ k g rb1, (μ.put b B.gen rb) k g = some rb1 → (k = b ∧ g = B.gen ∧ rb1 = rb) ∨ μ k g = some rb1 := by
    intro k g rb1 e
    unfold Mu.put at e
    split at e
    · rename_i hk; exact .inl ⟨hk.1, hk.2, by simpa using e.symm⟩
    · exact .inr e
  have hw0 : w0.heap.size ≤ rb.r := by
    rcases hwhere with ⟨e, _⟩ | ⟨B0, rb0, h1, h2, h3, h4⟩
    · rw [e]; exact W.base.size
    · rw [← h4]; exact (W.blk b B0 rb0 h1 h2).2 h3
  -- a block that is not b lies elsewhere
  have hfar : ∀ k Bk rbk, k ≠ b → h.get k = some Bk → μ k Bk.gen = some rbk → rbk.r ≠ rb.r := by
    intro k Bk rbk hk h1 h2 e
    rcases hwhere with ⟨e1, _⟩ | ⟨B0, rb0, h3, h4, h5, h6⟩
    · have := (W.dom k _ _ h2).1; omega
    · exact hk (W.inj b B0 rb0 k Bk rbk h3 h1 h4 h2 h5 (by omega)).symm
  constructor
  · refine ⟨?_, ?_, ?_, ?_, ?_⟩
    · refine ⟨hc.os.trans W.base.os, hc.tape.trans W.base.tape, hc.output.trans W.base.output, Nat.le_trans W.base.size hc.size, ?_⟩
      intro k hk
      rw [hc.there k (by omega) (Nat.lt_of_lt_of_le hk W.base.size)]
      exact W.base.block k hk
    · intro g hg
      obtain ⟨n, hn⟩ := W.glob g hg
      exact ⟨n, hle _ _ _ hn⟩
    · intro k g rb1 e
      rcases hback k g rb1 e with ⟨rfl, rfl, rfl⟩ | e2
      · exact ⟨hsz, hbn, B, hget, Nat.le_refl _⟩
      · obtain ⟨h1, h2, B1, h3, h4⟩ := W.dom k g rb1 e2
        refine ⟨Nat.lt_of_lt_of_le h1 hc.size, Nat.lt_of_lt_of_le h2 hn, ?_⟩
        by_cases hk : k = b
        · subst hk; exact ⟨B, hget, hgen _ _ e2⟩
        · exact ⟨B1, by rw [hoth k hk]; exact h3, h4⟩
    · intro k Bk rbk h1 h2
      by_cases hk : k = b
      · subst hk
        rw [hget] at h1
        cases h1
        have e : rbk = rb := by
          rcases hback _ _ _ h2 with ⟨_, _, e⟩ | e
          · exact e
          · exact hsame _ e
        subst e
        exact ⟨⟨o, hc.here, .inl ho⟩, fun _ => hw0⟩
      · rw [hoth k hk] at h1
        have e : μ k Bk.gen = some rbk := by
          rcases hback _ _ _ h2 with ⟨e, _, _⟩ | e
          · exact absurd e hk
          · exact e
        obtain ⟨⟨o', h3, h4⟩, h5⟩ := W.blk k Bk rbk h1 e
        refine ⟨⟨o', ?_, h4.imp (·.mono hle) (·.mono hle)⟩, h5⟩
        rw [hc.there _ (hfar k Bk rbk hk h1 e) (getElem?_lt h3)]
        exact h3
    · intro k Bk rbk k' Bk' rbk' h1 h2 h3 h4 h5 h6
      have es : ∀ k Bk rbk, h'.get k = some Bk → (μ.put b B.gen rb) k Bk.gen = some rbk → (k = b ∧ rbk = rb) ∨ (k ≠ b ∧ h.get k = some Bk ∧ μ k Bk.gen = some rbk) := by
        intro k Bk rbk h1 h2
        by_cases hk : k = b
        · subst hk
          rw [hget] at h1
          cases h1
          left
          rcases hback _ _ _ h2 with ⟨_, _, e⟩ | e
          · exact ⟨rfl, e⟩
          · exact ⟨rfl, hsame _ e⟩
        · right
          rw [hoth k hk] at h1
          rcases hback _ _ _ h2 with ⟨e, _, _⟩ | e
          · exact absurd e hk
          · exact ⟨hk, h1, e⟩
      rcases es k Bk rbk h1 h3 with ⟨rfl, rfl⟩ | ⟨n1, g1, m1⟩ <;> rcases es k' Bk' rbk' h2 h4 with ⟨rfl, rfl⟩ | ⟨n2, g2, m2⟩
      · rfl
      · exact absurd h6.symm (hfar _ _ _ n2 g2 m2)
      · exact absurd h6 (hfar _ _ _ n1 g1 m1)
      · exact W.inj _ _ _ _ _ _ g1 g2 m1 m2 h5 h6
  · refine ⟨hle, hc.size, hn, ?_, ?_, ?_⟩
    · intro r hr hnone
      refine hc.there r ?_ hr
      rcases hwhere with ⟨e, _⟩ | ⟨B0, rb0, h3, h4, h5, h6⟩
      · omega
      · intro e; exact hnone _ _ _ h4 (by omega)
    · intro k g rb1 e
      rcases hback k g rb1 e with ⟨rfl, rfl, rfl⟩ | e
      · rcases hwhere with ⟨e, hb | ⟨B0, rb0, h3, h4, h5⟩⟩ | ⟨B0, rb0, h3, h4, h5, h6⟩
        · exact .inr ⟨hb, by omega⟩
        · exact .inl ⟨_, rb0, h4, .inr (by omega)⟩
        · exact .inl ⟨_, rb0, h4, .inl h6⟩
      · exact .inl ⟨g, rb1, e, .inl rfl⟩
    · intro k hk hno
      refine hoth k ?_
      rintro rfl
      rcases hwhere with ⟨_, hb | ⟨B0, rb0, _, h4, _⟩⟩ | ⟨B0, rb0, _, h4, _, _⟩
      · omega
      · exact hno _ _ h4
      · exact hno _ _ h4

/-- A draw moves a count alone. -/
theorem WRel.drew {μ : Mu} {w0 : World} {ng : Nat} {h : H} {w w' : World} (W : WRel μ w0 ng h w) (hw : w'.heap = w.heap) (h1 : w'.os = w.os) (h2 : w'.tape = w.tape) (h3 : w'.output = w.output) :
    WRel μ w0 ng h w' :=
  ⟨⟨h1.trans W.base.os, h2.trans W.base.tape, h3.trans W.base.output, by rw [hw]; exact W.base.size, fun k hk => by rw [hw]; exact W.base.block k hk⟩, W.glob,
    fun b g rb e => by rw [hw]; exact W.dom b g rb e, fun b B rb e1 e2 => by unfold BRel; rw [hw]; exact W.blk b B rb e1 e2, W.inj⟩

/-! ### The tree of blocks -/

theorem Tr.get_setF : ∀ (f : Nat) (t : Tr) (i : Nat) (x : Blk), i < f → (Tr.setF f t i x).get i = some x
  | 0, _, _, _, h => absurd h (Nat.not_lt_zero _)
  | f + 1, t, i, x, h => by
    cases i with
    | zero => cases t <;> simp [Tr.setF, Tr.get]
    | succ j =>
      have hlt : j / 2 < f := by omega
      cases hj : (j % 2 == 0) <;> cases t <;> simp only [Tr.setF, hj, if_true, Tr.get, Bool.false_eq_true, if_false] <;> exact Tr.get_setF f _ _ x hlt

theorem Tr.get_setF_ne : ∀ (f : Nat) (t : Tr) (i k : Nat) (x : Blk), k ≠ i → (Tr.setF f t i x).get k = t.get k
  | 0, _, _, _, _, _ => rfl
  | f + 1, t, i, k, x, h => by
    have ev2 : ∀ a b : Nat, (a % 2 == 0) = true → (b % 2 == 0) = true → a ≠ b → a / 2 ≠ b / 2 := by intro a b; simp; omega
    have od2 : ∀ a b : Nat, (a % 2 == 0) = false → (b % 2 == 0) = false → a ≠ b → a / 2 ≠ b / 2 := by intro a b; simp; omega
    cases i with
    | zero =>
      cases k with
      | zero => exact absurd rfl h
      | succ k => cases t <;> simp [Tr.setF, Tr.get]
    | succ j =>
      cases hj : (j % 2 == 0) <;> cases k with
      | zero => cases t <;> simp [Tr.setF, hj, Tr.get]
      | succ k =>
        have hne : k ≠ j := fun e => h (by omega)
        cases hk : (k % 2 == 0) <;> cases t <;> simp only [Tr.setF, hj, hk, if_true, Tr.get, Bool.false_eq_true, if_false] <;>
          first
            | rfl
            | (rw [Tr.get_setF_ne f _ _ _ x (od2 _ _ hk hj hne)]; try rfl)
            | (rw [Tr.get_setF_ne f _ _ _ x (ev2 _ _ hk hj hne)]; try rfl)

theorem H.get_set (h : H) (b : Nat) (x : Blk) : (h.set b x).get b = some x := Tr.get_setF _ _ _ _ (by omega)
theorem H.get_set_ne (h : H) (b k : Nat) (x : Blk) (hk : k ≠ b) : (h.set b x).get k = h.get k := Tr.get_setF_ne _ _ _ _ _ hk
theorem H.get_new (h : H) (x : Blk) : (h.new x).get h.n = some x := Tr.get_setF _ _ _ _ (by omega)
theorem H.get_new_ne (h : H) (k : Nat) (x : Blk) (hk : k ≠ h.n) : (h.new x).get k = h.get k := Tr.get_setF_ne _ _ _ _ _ hk
@[simp] theorem H.n_set (h : H) (b : Nat) (x : Blk) : (h.set b x).n = h.n := rfl
@[simp] theorem H.n_new (h : H) (x : Blk) : (h.new x).n = h.n + 1 := rfl

theorem cut_pre {c : List AV} {o m k : Nat} {r : List AV} (hc : cut c o k = some r) : r.length = k := by
  unfold cut at hc
  simp only [] at hc
  split at hc
  · rename_i hn; simp only [Option.some.injEq] at hc; subst hc; simpa using hn
  · simp at hc
theorem WRel.same {μ : Mu} {w0 : World} {ng : Nat} {h h' : H} {w : World} (W : WRel μ w0 ng h w) (hg : ∀ q, h'.get q = h.get q) (hn : h'.n = h.n) : WRel μ w0 ng h' w :=
  ⟨W.base, W.glob, fun b g rb e => by rw [hn, hg]; exact W.dom b g rb e, fun b B rb e1 e2 => W.blk b B rb (by rw [← hg]; exact e1) e2, fun b B rb b' B' rb' e1 e2 => W.inj b B rb b' B' rb' (by rw [← hg]; exact e1) (by rw [← hg]; exact e2)⟩
theorem Adv.same {μ : Mu} {h h' : H} {w : World} (hg : ∀ q, h'.get q = h.get q) (hn : h'.n = h.n) : Adv μ h w μ h' w :=
  ⟨.refl μ, Nat.le_refl _, Nat.le_of_eq hn.symm, fun _ _ _ => rfl, fun _ g rb e => .inl ⟨g, rb, e, .inl rfl⟩, fun b _ _ => hg b⟩
theorem putAt_nil : ∀ (c : List AV) (o : Nat), putAt c o [] = c
  | [], o => by cases o <;> rfl
  | _ :: _, 0 => rfl
  | x :: c, o + 1 => by
    have := putAt_nil c o
    simp only [putAt, this]
theorem st_nil {h h' : H} {a : AA} (hs : h.st a [] = some h') : (∀ q, h'.get q = h.get q) ∧ h'.n = h.n := by
  unfold H.st at hs
  split at hs
  · rename_i g e c fz ro hg
    split at hs
    · simp only [Option.some.injEq] at hs
      subst hs
      refine ⟨fun q => ?_, rfl⟩
      rw [putAt_nil]
      by_cases hq : q = a.b
      · subst hq; rw [h.get_set, hg]
      · exact h.get_set_ne _ q _ hq
    · simp at hs
  · simp at hs
end Go.Det
