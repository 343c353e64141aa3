/- Lemmas of this session's own: rows of bytes that are written without asking what they said. -/
import Derived.Test.YtgjidpcddnapmaaMine
import Derived.Test.YtgjidpcddnapmaaWApart
namespace Go.Proofs.Ytgjidpcddnapmaa.Mine
open Go.RowKit Go.Proofs.YtgjidpcddnapmaaW.PrintWords Go.Proofs.YtgjidpcddnapmaaW.PrintLast Go.Proofs.YtgjidpcddnapmaaW.PrintMore
set_option linter.unusedVariables false

/-- A row of l bytes at or above block n: any bytes. -/
def Byt (t n : Nat) (w : World) (l : Nat) (v : Value) : Prop :=
  ∃ A c, v = .slice A l c ∧ (0 < l → ∃ (b : Nat) (C : Array Value), A = some ⟨b, 0, none⟩ ∧ n ≤ b ∧ w.heap[b]? = some (.cells C t (0, 0)) ∧ ∀ j, j < l → ∃ z, C[j]? = some (.int .u8 z))

theorem Byt_R {t n : Nat} {w : World} {ok : Nat → Prop} {v : Value} {xs : List Int} (h : Kd.R (Kd.int .u8) t w n ok v xs) : Byt t n w xs.length v := by
  obtain ⟨A, c, rfl⟩ := Kd.R_slice h
  refine ⟨A, c, rfl, fun hp => ?_⟩
  obtain ⟨g, cap, e, _⟩ := Kd.R_form h hp
  injection e with e1 e2 e3
  subst e1
  obtain ⟨g', cap', cur, e, hg, _, hh, k1, k2, k3, k4⟩ := R_block h ⟨g, rfl⟩
  injection e with e1 e2 e3
  injection e1 with e1
  injection e1 with e1
  subst e1
  refine ⟨g, cur.toArray, rfl, hg, hh, fun j hj => ⟨xs[j], ?_⟩⟩
  have : (cur.take xs.length)[j]? = (nums .u8 xs)[j]? := by rw [k4]
  rw [List.getElem?_take_of_lt hj] at this
  rw [List.getElem?_toArray, this]
  simp [nums, List.getElem?_eq_getElem hj]

theorem Byt_set {t n : Nat} {w : World} {l : Nat} {v : Value} (h : Byt t n w l v) (b j : Nat) (z : Int) : Byt t n (w.setCell ⟨b, j, none⟩ (.int .u8 z)) l v := by
  obtain ⟨A, c, rfl, hr⟩ := h
  refine ⟨A, c, rfl, fun hp => ?_⟩
  obtain ⟨b', C, rfl, hn, hh, hc⟩ := hr hp
  by_cases hb : b' = b
  · subst hb
    refine ⟨b', _, rfl, hn, blk_set hh j _, fun k hk => ?_⟩
    by_cases hkj : j = k
    · subst hkj
      obtain ⟨y, hy⟩ := hc j hk
      have hlt : j < C.size := by
        rcases Nat.lt_or_ge j C.size with q | q
        · exact q
        · rw [Array.getElem?_eq_none q] at hy; cases hy
      exact ⟨z, by rw [Array.getElem?_setIfInBounds]; simp [hlt]⟩
    · obtain ⟨y, hy⟩ := hc k hk
      exact ⟨y, by rw [Array.getElem?_setIfInBounds, if_neg hkj]; exact hy⟩
  · exact ⟨b', C, rfl, hn, blk_far hh hb _, hc⟩

theorem Byt_cell {t n : Nat} {w : World} {l c : Nat} {A : Option Addr} (h : Byt t n w l (.slice A l c)) {i : Nat} (hi : i < l) :
    ∃ b C z, A = some ⟨b, 0, none⟩ ∧ n ≤ b ∧ w.heap[b]? = some (.cells C t (0, 0)) ∧ w.cell? ⟨b, i, none⟩ = some (.int .u8 z) := by
  obtain ⟨A', c', e, hr⟩ := h
  injection e with e1 e2 e3
  subst e1
  obtain ⟨b, C, rfl, hn, hh, hc⟩ := hr (by omega)
  obtain ⟨z, hz⟩ := hc i hi
  exact ⟨b, C, z, rfl, hn, hh, (blk_cell hh i).trans hz⟩

/-- Rows of bytes, all at or above block n. -/
def Byts (t u n : Nat) (w : World) (ls : List (List Int)) (v : Value) : Prop :=
  ∃ A c, v = .slice A ls.length c ∧ (0 < ls.length → ∃ (g : Nat) (C : Array Value), A = some ⟨g, 0, none⟩ ∧ n ≤ g ∧ w.heap[g]? = some (.cells C u (0, 0)) ∧ ∀ (j : Nat) (x : List Int), ls[j]? = some x → ∃ y, C[j]? = some y ∧ Byt t n w x.length y)

theorem Byts_S {t u n : Nat} {w : World} {ok : Nat → Prop} {v : Value} {ls : List (List Int)} (h : Kd.S (Kd.slice t (Kd.int .u8)) u w n ok v ls) : Byts t u n w ls v := by
  have h := Kd.S_R h
  obtain ⟨A, c, rfl⟩ := Kd.R_slice h
  refine ⟨A, c, rfl, fun hp => ?_⟩
  obtain ⟨g, cap, e, _⟩ := Kd.R_form h hp
  injection e with e1 e2 e3
  subst e1
  obtain ⟨h0, inner, ⟨hl, ho⟩, hr⟩ := h
  rcases ho with ⟨e, _⟩ | ⟨g', cap', cur, e, hg, hh, h1, h2, h3, h4⟩
  · injection e with e; cases e
  · injection e with e1 e2 e3
    injection e1 with e1
    injection e1 with e1
    subst e1
    refine ⟨g, cur, rfl, hg, hh, fun j x hx => ?_⟩
    have hm := hr.2 j x hx
    have e1 : (Kd.slice t (Kd.int .u8)).sz = 1 := rfl
    rw [e1] at hm h4
    obtain ⟨y, hy, hR⟩ := hm
    refine ⟨y, ?_, Byt_R hR⟩
    have hj : j < ls.length := by
      rcases Nat.lt_or_ge j ls.length with q | q
      · exact q
      · rw [List.getElem?_eq_none q] at hx; cases hx
    have : ((inner.drop (j * 1)).take 1)[0]? = some y := by rw [hy]; rfl
    rw [List.getElem?_take_of_lt (by omega), List.getElem?_drop, Nat.mul_one, Nat.add_zero, ← h4, List.getElem?_take_of_lt (by omega)] at this
    rw [← this]
    simp

theorem blk_ne {w : World} {g b t t' : Nat} {C C' : Array Value} {fr fr' : Nat × Nat} (h : w.heap[g]? = some (.cells C t fr)) (h' : w.heap[b]? = some (.cells C' t' fr')) (ht : t ≠ t') : g ≠ b := by
  rintro rfl
  rw [h] at h'
  injection h' with h'
  injection h' with _ e
  exact ht e

theorem Byts_set {t u n : Nat} {w : World} {ls : List (List Int)} {v : Value} (h : Byts t u n w ls v) {b : Nat} {C : Array Value} (hb : w.heap[b]? = some (.cells C t (0, 0))) (htu : u ≠ t) (j : Nat) (z : Int) : Byts t u n (w.setCell ⟨b, j, none⟩ (.int .u8 z)) ls v := by
  obtain ⟨A, c, rfl, hr⟩ := h
  refine ⟨A, c, rfl, fun hp => ?_⟩
  obtain ⟨g, D, rfl, hn, hh, hc⟩ := hr hp
  refine ⟨g, D, rfl, hn, blk_far hh (blk_ne hh hb htu) _, fun k x hx => ?_⟩
  obtain ⟨y, hy, hB⟩ := hc k x hx
  exact ⟨y, hy, Byt_set hB b j z⟩

theorem Byts_cell {t u n : Nat} {w : World} {ls : List (List Int)} {c : Nat} {A : Option Addr} (h : Byts t u n w ls (.slice A ls.length c)) {i : Nat} {x : List Int} (hx : ls[i]? = some x) :
    ∃ g C Ai ci, A = some ⟨g, 0, none⟩ ∧ w.heap[g]? = some (.cells C u (0, 0)) ∧ w.cell? ⟨g, i, none⟩ = some (.slice Ai x.length ci) ∧ Byt t n w x.length (.slice Ai x.length ci) := by
  obtain ⟨A', c', e, hr⟩ := h
  injection e with e1 e2 e3
  subst e1
  have hi : i < ls.length := by
    rcases Nat.lt_or_ge i ls.length with q | q
    · exact q
    · rw [List.getElem?_eq_none q] at hx; cases hx
  obtain ⟨g, C, rfl, hn, hh, hc⟩ := hr (by omega)
  obtain ⟨y, hy, hB⟩ := hc i x hx
  obtain ⟨Ai, ci, rfl, _⟩ := id hB
  exact ⟨g, C, Ai, ci, rfl, hh, (blk_cell hh i).trans hy, hB⟩

theorem C_inner {t : Nat} {w : World} {A : Option Addr} {n : Nat} {ls : List (List Int)} (h : Kd.C (Kd.slice t (Kd.int .u8)) w A n ls) : ∀ x ∈ ls, x.length ≤ 9223372036854775807 := by
  intro x hx
  obtain ⟨j, hj, e⟩ := List.getElem_of_mem hx
  obtain ⟨h1, _, h3⟩ := h
  obtain ⟨ad, _, hc⟩ := h3 (by omega)
  obtain ⟨c, _, hk, _⟩ := hc j x (by rw [List.getElem?_eq_getElem hj, e])
  obtain ⟨A', c', _, _, hC⟩ := hk
  exact (C_len hC).2

/-- A copy x of d that is written all over: d's struct's block, the argument's, x's; x's rows; what stays. -/
structure Spoil (s t u : Nat) (w wX : World) (gD gA gX : Nat) (cD cA cX : Array Value) (vK : Value) (lK : Nat) (vR : Value) (ls : List (List Int)) (wr : World) : Prop where
  D : wr.heap[gD]? = some (.cells cD s (0, 0))
  A : wr.heap[gA]? = some (.cells cA s (0, 0))
  X : wr.heap[gX]? = some (.cells cX s (0, 0))
  K : Byt t wX.heap.size wr lK vK
  R : Byts t u wX.heap.size wr ls vR
  B : Below w.heap.size w wr
  BX : Below wX.heap.size wX wr

theorem Spoil.set {s t u : Nat} {w wX : World} {gD gA gX : Nat} {cD cA cX : Array Value} {vK : Value} {lK : Nat} {vR : Value} {ls : List (List Int)} {wr : World} (h : Spoil s t u w wX gD gA gX cD cA cX vK lK vR ls wr)
    (hs : s ≠ t) (hu : u ≠ t) (hw : w.heap.size ≤ wX.heap.size) {b : Nat} {C : Array Value} (hb : wr.heap[b]? = some (.cells C t (0, 0))) (hn : wX.heap.size ≤ b) (j : Nat) (z : Int) :
    Spoil s t u w wX gD gA gX cD cA cX vK lK vR ls (wr.setCell ⟨b, j, none⟩ (.int .u8 z)) :=
  ⟨blk_far h.D (blk_ne h.D hb hs) _, blk_far h.A (blk_ne h.A hb hs) _, blk_far h.X (blk_ne h.X hb hs) _, Byt_set h.K b j z, Byts_set h.R hb hu j z, below_set h.B (Nat.le_trans hw hn), below_set h.BX hn⟩

/-- The world of a call is named. -/
theorem keep {α β : Type} {d1 : Kd α} {d2 : Kd β} {cw w1 : World} (hb : Below cw.heap.size cw w1) {A1 A2 : Option Addr} {n1 n2 : Nat} {xs : List α} {ys : List β} (h1 : Kd.C d1 cw A1 n1 xs) (h2 : Kd.C d2 cw A2 n2 ys) :
    ∃ wX : World, cw = wX ∧ Aside0 (Below wX.heap.size wX w1) ∧ Aside0 (Kd.C d1 wX A1 n1 xs) ∧ Aside0 (Kd.C d2 wX A2 n2 ys) := ⟨cw, rfl, ⟨hb⟩, ⟨h1⟩, ⟨h2⟩⟩
theorem R_named {α : Type} {d : Kd α} {e : Nat} {w cw wX : World} {ok : Nat → Prop} {v : Value} {xs : List α} (h : Kd.R d e w cw.heap.size ok v xs) (q : cw = wX) : Kd.R d e w wX.heap.size ok v xs := q ▸ h
theorem S_named {α : Type} {d : Kd α} {e : Nat} {w cw wX : World} {ok : Nat → Prop} {v : Value} {xs : List α} (h : Kd.S d e w cw.heap.size ok v xs) (q : cw = wX) : Kd.S d e w wX.heap.size ok v xs := q ▸ h
theorem le_named {w cw wX : World} (h : Below w.heap.size w cw) (q : cw = wX) : w.heap.size ≤ wX.heap.size := q ▸ h.size
end Go.Proofs.Ytgjidpcddnapmaa.Mine
