/- Lemmas of this session's own over the printer's words: a block of bytes that a call makes and fills; what a slice of bytes reads as. -/
import Derived.Test.YtgjidpcddnapmaaWMore
import Derived.Test.YtgjidpcddnapmaaWShare
import Derived.Laws.CopyOwn
import Derived.Lib.SlBytesConst
namespace Go.Proofs.Ytgjidpcddnapmaa.Mine
open Go.RowKit Go.Proofs.YtgjidpcddnapmaaW.PrintWords Go.Proofs.YtgjidpcddnapmaaW.PrintLast Go.Proofs.YtgjidpcddnapmaaW.PrintMore
set_option linter.unusedVariables false

/-- What a slice of whole numbers reads as, cell by cell. -/
theorem C_cells {k : IntKind} {w : World} {A : Option Addr} {n : Nat} {xs : List Int} (h : Kd.C (Kd.int k) w A n xs) (hp : 0 < n) :
    ∃ ad, A = some ad ∧ ∀ j v, (nums k xs)[j]? = some v → w.cell? (ad.add j) = some v := by
  obtain ⟨_, _, h3⟩ := h
  obtain ⟨ad, rfl, hc⟩ := h3 hp
  refine ⟨ad, rfl, fun j v hv => ?_⟩
  simp only [nums, List.getElem?_map] at hv
  cases hx : xs[j]? with
  | none => simp [hx] at hv
  | some x =>
    simp only [hx, Option.map_some, Option.some.injEq] at hv
    subst hv
    obtain ⟨c, hl, hk, hcell⟩ := hc j x hx
    have e : c = [.int k x] := hk
    subst e
    have := hcell 0 (.int k x) rfl
    simpa [Kd.int, Kd.scalar] using this

theorem C_len {α : Type} {d : Kd α} {w : World} {A : Option Addr} {n : Nat} {xs : List α} (h : Kd.C d w A n xs) : xs.length = n ∧ n ≤ 9223372036854775807 := ⟨h.1, h.2.1⟩

/-- The block of a row that was just made. -/
theorem R_block {k : IntKind} {e : TypeId} {w : World} {base : Nat} {ok : Nat → Prop} {v : Value} {xs : List Int} (h : Kd.R (Kd.int k) e w base ok v xs) (hb : ∃ b, v.ownBlock = some b) :
    ∃ g cap cur, v = .slice (some ⟨g, 0, none⟩) xs.length cap ∧ base ≤ g ∧ ok g ∧ w.heap[g]? = some (.cells (List.toArray cur) e (0, 0)) ∧ xs.length ≤ cap ∧ cap ≤ maxLen ∧ cur.length = cap ∧ cur.take xs.length = nums k xs := by
  obtain ⟨h0, inner, ⟨hl, ho⟩, hr⟩ := h
  rcases ho with ⟨rfl, _⟩ | ⟨g, cap, cur, rfl, hg, hh, h1, h2, h3, h4⟩
  · obtain ⟨b, hb⟩ := hb
    simp [Value.ownBlock] at hb
  · have e1 : (Kd.int k).sz = 1 := rfl
    have hin : inner = nums k xs := by
      apply List.ext_getElem?
      intro j
      have hln : inner.length = xs.length := by rw [hl, e1, Nat.mul_one]
      rcases Nat.lt_or_ge j xs.length with hj | hj
      · have hx : xs[j]? = some xs[j] := List.getElem?_eq_getElem hj
        have hm := hr.2 j _ hx
        have hm' : (inner.drop (j * 1)).take 1 = [.int k xs[j]] := hm
        have : (inner.drop j).take 1 = [inner[j]'(by omega)] := by
          rw [List.drop_eq_getElem_cons (by omega), List.take_succ_cons, List.take_zero]
        rw [Nat.mul_one, this] at hm'
        injection hm' with hm'
        rw [List.getElem?_eq_getElem (by omega), hm']
        simp [nums, hx]
      · rw [List.getElem?_eq_none (by omega), List.getElem?_eq_none (by simp [nums]; omega)]
    refine ⟨g, cap, cur.toList, rfl, hg, h0 g rfl, by simpa using hh, h1, h2, by rw [Array.length_toList, h3, e1, Nat.mul_one], ?_⟩
    rw [e1, Nat.mul_one] at h4
    rw [h4, hin]

/-- A row of a block that stands. -/
theorem R_of_block {k : IntKind} {e : TypeId} {w : World} {base g cap : Nat} {ok : Nat → Prop} {cur : List Value} {xs : List Int} (hg : base ≤ g) (hok : ok g) (hh : w.heap[g]? = some (.cells cur.toArray e (0, 0))) (h1 : xs.length ≤ cap) (h2 : cap ≤ maxLen) (h3 : cur.length = cap) (h4 : cur.take xs.length = nums k xs) :
    Kd.R (Kd.int k) e w base ok (.slice (some ⟨g, 0, none⟩) xs.length cap) xs := by
  refine Kd.R_of_own (h1 := fun _ => rfl) (ok := ok) ⟨by simp [encs], .inr ⟨g, cap, cur.toArray, rfl, hg, hh, h1, h2, by simp [h3], ?_⟩⟩ (fun j hj => ?_)
  · simpa [nums, encs] using h4
  · have : g = j := by simpa [Value.ownBlock] using hj
    subst this
    exact hok

theorem nums_one (k : IntKind) (xs : List Int) : ∀ v ∈ nums k xs, v.oneCell' = true := by
  intro v hv
  simp only [nums, List.mem_map] at hv
  obtain ⟨x, _, rfl⟩ := hv
  rfl
theorem any_at {α : Type} (l : List α) (d : α) (p : α → Bool) (i : Nat) (hi : i < l.length) (h : p (l.getD i d) = true) : l.any p = true := by
  rw [List.any_eq_true]
  refine ⟨l[i], List.getElem_mem hi, ?_⟩
  rwa [List.getD_eq_getElem?_getD, List.getElem?_eq_getElem hi] at h
theorem any_step {α : Type} (l : List α) (d : α) (p : α → Bool) (i : Nat) (hi : i < l.length) (h0 : (l.take i).any p = false) (h : p (l.getD i d) = false) : (l.take (i + 1)).any p = false := by
  rw [List.take_succ_eq_append_getElem hi, List.any_append, h0]
  rw [List.getD_eq_getElem?_getD, List.getElem?_eq_getElem hi] at h
  simpa using h
theorem all_at {α : Type} (l : List α) (d : α) (p : α → Bool) (i : Nat) (hi : i < l.length) (h : p (l.getD i d) = false) : l.all p = false := by
  rw [List.all_eq_false]
  refine ⟨l[i], List.getElem_mem hi, ?_⟩
  rw [List.getD_eq_getElem?_getD, List.getElem?_eq_getElem hi] at h
  simpa using h
theorem all_step {α : Type} (l : List α) (d : α) (p : α → Bool) (i : Nat) (hi : i < l.length) (h0 : (l.take i).all p = true) (h : p (l.getD i d) = true) : (l.take (i + 1)).all p = true := by
  rw [List.take_succ_eq_append_getElem hi, List.all_append, h0]
  rw [List.getD_eq_getElem?_getD, List.getElem?_eq_getElem hi] at h
  simpa using h
theorem zip_getD {α : Type} (l m : List α) (d : α) (h : l.length = m.length) (i : Nat) (hi : i < l.length) : (List.zip l m).getD i (d, d) = (l.getD i d, m.getD i d) := by
  simp only [List.getD_eq_getElem?_getD]
  rw [List.getElem?_eq_getElem (by simp; omega), List.getElem?_eq_getElem hi, List.getElem?_eq_getElem (by omega)]
  simp
/-- '[]byte("..")' of a constant: the block is marked, the value goes on. -/
theorem conv_const_at {P : Program} (w : World) (t e : TypeId) (C : Array Value) (n c g : Nat) (hg : g = w.heap.size) (ht : P.underlying t = some (.slice e)) (he : P.underlying e = some (.int .u8)) :
    (convert t t (.slice (some ⟨g, 0, none⟩) n c)).run P (w.alloc (.cells C e)) = .ok (.slice (some ⟨g, 0, none⟩) n c) (w.alloc (.cells C e (C.size, C.size + 1))) := by
  subst hg
  exact Lib.run_convert_bytes_const w t e C n c ht he
/-- A block of bytes, whatever its mark: it reads so as long as it stands. -/
theorem V_const {w : World} {g c base : Nat} {t : TypeId} {fr : Nat × Nat} {e : Nat} {xs : List Int} {ok : Nat → Prop} (hh : w.heap[g]? = some (.cells (nums .u8 xs).toArray t fr)) (hc : xs.length ≤ c) (hok : ok g) (hm : xs.length ≤ 9223372036854775807) :
    Kd.V (Kd.int .u8) e w base ok (.slice (some ⟨g, 0, none⟩) xs.length c) xs := by
  refine Kd.V_mk hc (fun W' hW => ?_)
  have hlt : g < w.heap.size := (Array.getElem?_eq_some_iff.1 hh).1
  have hb := (hW g hok hlt).trans hh
  refine ⟨rfl, hm, fun _ => ⟨_, rfl, fun j p hp => ⟨[.int .u8 p], rfl, rfl, fun i u hu => ?_⟩⟩⟩
  cases i with
  | succ i => simp at hu
  | zero =>
    simp only [List.getElem?_cons_zero, Option.some.injEq] at hu
    subst hu
    have e1 : (Kd.int .u8).sz = 1 := rfl
    rw [e1, Nat.mul_one, Nat.add_zero, add_plain]
    simp [World.cell?, hb, nums, hp]
theorem alloc_here (w : World) (o : Obj) : (w.alloc o).heap[w.heap.size]? = some o := by
  show (w.heap.push o)[w.heap.size]? = _
  simp
theorem alloc_old (w : World) (o : Obj) {i : Nat} (h : i < w.heap.size) : (w.alloc o).heap[i]? = w.heap[i]? := by
  show (w.heap.push o)[i]? = _
  rw [Array.getElem?_push, if_neg (by omega)]
theorem alloc_size (w : World) (o : Obj) : (w.alloc o).heap.size = w.heap.size + 1 := by
  show (w.heap.push o).size = _
  simp
end Go.Proofs.Ytgjidpcddnapmaa.Mine
