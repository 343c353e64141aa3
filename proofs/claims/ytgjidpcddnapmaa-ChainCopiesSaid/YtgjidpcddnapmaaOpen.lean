/- How a law's argument, told as data, reads as the printer's words tell it: numbers, bools, strings, slices, structs, one in another; how long it is, by its weight and by its bulk. -/
import Derived.Test.YtgjidpcddnapmaaRows
import Derived.Test.YtgjidpcddnapmaaWMore
import Derived.ChangeSlices
import Derived.ChangeArms
import Derived.SizedLaws
import Derived.WideShapes
namespace Go.Proofs.Ytgjidpcddnapmaa.Open
open Go.RowKit Go.Proofs.YtgjidpcddnapmaaW.PrintWords Go.Proofs.YtgjidpcddnapmaaW.PrintLast Go.Proofs.YtgjidpcddnapmaaW.PrintMore Go.Proofs.Ytgjidpcddnapmaa.Rows
set_option linter.unusedVariables false
set_option linter.unusedSimpArgs false

/-- Data of type t read as kind d tells; wf: what its weights say; bk: no more than its bulk. -/
structure Opn (P : Program) (t : TypeId) {α : Type} (d : Kd α) (wf : α → Prop) (bk : α → Nat) : Prop where
  cells : P.cellsOf t = d.sz
  op : ∀ {H : Type} {enc : TypeId × Value → H} {w : World} {base : Nat} {spare : Nat → Bool} {held : Bool} {fuel : Nat} {cs : List Value} {x : DataW H × List MemPlace},
    DataW.trod enc P w base spare held fuel t cs = some x → ∃ v : α, d.K w v cs ∧ ((∀ n ∈ x.1.weights P t, n ≤ reachBytes) → wf v) ∧ bk v ≤ uptoBulk x.1

theorem int {P : Program} {t : TypeId} {k : IntKind} (ht : P.underlying t = some (.int k)) (hc : P.cellsOf t = 1) : Opn P t (Kd.int k) (fun n => (Lit.int k n).wf = true) (fun _ => 1) :=
  ⟨hc, fun h => by
    obtain ⟨n, rfl, rfl, hw⟩ := DataW.trod_int ht h
    exact ⟨n, rfl, fun _ => hw, by simp [uptoBulk]⟩⟩
theorem bool {P : Program} {t : TypeId} (ht : P.underlying t = some .bool) (hc : P.cellsOf t = 1) : Opn P t Kd.bool (fun _ => True) (fun _ => 1) :=
  ⟨hc, fun h => by
    obtain ⟨n, rfl, rfl⟩ := DataW.trod_bool ht h
    exact ⟨n, rfl, fun _ => trivial, by simp [uptoBulk]⟩⟩
theorem string {P : Program} {t : TypeId} (ht : P.underlying t = some .string) (hc : P.cellsOf t = 1) : Opn P t Kd.string (fun s => s.size ≤ 140737488351232) (fun s => s.size + 1) :=
  ⟨hc, fun h => by
    obtain ⟨s, rfl, rfl, hs⟩ := DataW.trod_string ht h
    refine ⟨s, rfl, fun hw => ?_, by simp [uptoBulk]⟩
    have := hw s.data.toList.length (by simp [DataW.weights])
    simpa [reachBytes] using this⟩

theorem weightsAll_mem {H : Type} {P : Program} {e : TypeId} : ∀ {ds : List (DataW H)} {d : DataW H}, d ∈ ds → ∀ n ∈ d.weights P e, n ∈ DataW.weightsAll P e ds
  | d0 :: ds, d, hd, n, hn => by
    simp only [DataW.weightsAll, List.mem_append]
    rcases List.mem_cons.1 hd with rfl | hd
    · exact .inl hn
    · exact .inr (weightsAll_mem hd n hn)
theorem bulkAll_append {H : Type} : ∀ (a b : List (DataW H)), uptoBulkAll (a ++ b) = uptoBulkAll a + uptoBulkAll b
  | [], b => by simp [uptoBulkAll]
  | d :: a, b => by simp only [List.cons_append, uptoBulkAll, bulkAll_append a b]; omega

/-- A list of data, each read: the list of what they read as. -/
theorem all {P : Program} {t : TypeId} {α : Type} {d : Kd α} {wf : α → Prop} {bk : α → Nat} (O : Opn P t d wf bk) {H : Type} {enc : TypeId × Value → H} {w : World} {base : Nat} {spare : Nat → Bool} {held : Bool} {fuel : Nat} {a : Addr} (sz : Nat) (hsz : P.cellsOf t = sz) :
    ∀ (ys : List (DataW H × List MemPlace)) (from_ : Nat), (∀ i, i < ys.length → (w.cells? base (a.add ((from_ + i) * sz)) sz).bind (DataW.trod enc P w base spare held fuel t) = ys[i]?) →
      ∃ vs : List α, vs.length = ys.length ∧ (∀ j p, vs[j]? = some p → ∃ c, c.length = sz ∧ d.K w p c ∧ ∀ i u, c[i]? = some u → w.cell? (a.add ((from_ + j) * sz + i)) = some u) ∧
        ((∀ y ∈ ys, ∀ n ∈ y.1.weights P t, n ≤ reachBytes) → ∀ v ∈ vs, wf v) ∧ (vs.map bk).sum ≤ uptoBulkAll (ys.map (·.1)) := by
  intro ys
  induction ys with
  | nil => intro f _; exact ⟨[], rfl, fun j p h => by simp at h, fun _ v hv => by simp at hv, by simp [uptoBulkAll]⟩
  | cons y ys ih =>
    intro f h
    have h0 := h 0 (by simp)
    simp only [List.getElem?_cons_zero, Nat.add_zero, Option.bind_eq_some_iff] at h0
    obtain ⟨cs, hcs, hy⟩ := h0
    obtain ⟨v, hK, hw, hb⟩ := O.op hy
    obtain ⟨vs, hl, hc, hws, hbs⟩ := ih (f + 1) (fun i hi => by
      have := h (i + 1) (by simp; omega)
      simpa [show f + (i + 1) = f + 1 + i by omega] using this)
    refine ⟨v :: vs, by simp [hl], ?_, ?_, by simp only [List.map_cons, List.sum_cons, uptoBulkAll]; omega⟩
    · intro j p hp
      cases j with
      | zero =>
        simp only [List.getElem?_cons_zero, Option.some.injEq] at hp
        subst hp
        have hs := World.cells?_some hcs
        refine ⟨cs, hs.2.1, hK, fun i u hu => ?_⟩
        have hi : i < sz := by rw [← hs.2.1]; exact (List.getElem?_eq_some_iff.1 hu).1
        have := hs.2.2 i hi
        rw [Addr.add_add] at this
        rw [Nat.add_zero]
        simpa [hu] using this
      | succ j =>
        simp only [List.getElem?_cons_succ] at hp
        obtain ⟨c, h1, h2, h3⟩ := hc j p hp
        exact ⟨c, h1, h2, fun i u hu => by have := h3 i u hu; rwa [show f + 1 + j = f + (j + 1) by omega] at this⟩
    · intro hwy v' hv'
      rcases List.mem_cons.1 hv' with rfl | hv'
      · exact hw (hwy y (by simp))
      · exact hws (fun y' hy' => hwy y' (by simp [hy'])) v' hv'

/-- What is told of a slice: its bytes, its elements. -/
def WfS {α : Type} (B : Nat) (wf : α → Prop) (xs : List α) : Prop := xs.length * B ≤ 140737488351232 ∧ ∀ x ∈ xs, wf x
def BkS {α : Type} (bk : α → Nat) (xs : List α) : Nat := (xs.map bk).sum + 1
theorem slice {P : Program} {t e : TypeId} {α : Type} {d : Kd α} {wf : α → Prop} {bk : α → Nat} (ht : P.underlying t = some (.slice e)) (hc : P.cellsOf t = 1) {B : Nat} (hB : P.bytesOf e = B) (O : Opn P e d wf bk) :
    Opn P t (Kd.slice e d) (WfS B wf) (BkS bk) :=
  ⟨hc, fun {H enc w base spare held fuel cs x} h => by
    rcases DataW.trod_slice ht h with ⟨rfl, rfl⟩ | ⟨a, len, cap, elems, rest, n, _, rfl, rfl, hb, hl, hm, hlen, hel, hsp, hns⟩
    · exact ⟨[], ⟨none, 0, rfl, Nat.le_refl _, Kd.C_nil _ _⟩, fun _ => ⟨by simp, fun x hx => by simp at hx⟩, by simp [BkS, uptoBulk]⟩
    · obtain ⟨vs, hvl, hvc, hvw, hvb⟩ := all O (a := a) d.sz O.cells elems 0 (fun i hi => by
        rw [Nat.zero_add]
        have := hel i (by omega)
        rwa [O.cells] at this)
      have hn : vs.length = len := by omega
      refine ⟨vs, ⟨some a, cap, by rw [hn], by omega, ⟨rfl, ?_, fun _ => ⟨a, rfl, fun j p hp => ?_⟩⟩⟩, fun hw => ⟨?_, hvw ?_⟩, ?_⟩
      · simp only [maxLen] at hm; omega
      · obtain ⟨c, h1, h2, h3⟩ := hvc j p hp
        exact ⟨c, h1, h2, fun i u hu => by have := h3 i u hu; rwa [Nat.zero_add] at this⟩
      · have h0 := hw (((elems.map (·.1)).length + (rest.map (·.1)).length) * P.bytesOf e) (by simp [DataW.weights, ht])
        rw [List.length_map, List.length_map, hB] at h0
        have h1 : vs.length * B ≤ (elems.length + rest.length) * B := Nat.mul_le_mul_right _ (by omega)
        have h2 : reachBytes = 140737488351232 := by decide
        omega
      · intro y hy n hn
        refine hw n ?_
        simp only [DataW.weights, ht, List.mem_cons, List.mem_append]
        exact .inr (.inl (weightsAll_mem (List.mem_map_of_mem hy) n hn))
      · simp only [BkS, uptoBulk]
        omega⟩

/-- A struct's fields from place o on. -/
structure OpnF (P : Program) (fs : List Field) (o : Nat) {α : Type} (d : Kd α) (wf : α → Prop) (bk : α → Nat) : Prop where
  op : ∀ {H : Type} {enc : TypeId × Value → H} {w : World} {base : Nat} {spare : Nat → Bool} {held : Bool} {n : Nat} {cs : List Value} {xs : List (DataW H × List MemPlace)},
    (∀ (i : Nat) (f : Field), fs[i]? = some f → DataW.trod enc P w base spare held n f.type ((cs.drop f.offset).take (P.cellsOf f.type)) = xs[i]?) → xs.length = fs.length → o + d.sz ≤ cs.length →
    ∃ v : α, d.K w v ((cs.drop o).take d.sz) ∧ ((∀ n ∈ DataW.weightsEach P (fs.map (·.type)) (xs.map (·.1)), n ≤ reachBytes) → wf v) ∧ bk v ≤ uptoBulkAll (xs.map (·.1))
theorem one {P : Program} {f : Field} {o : Nat} {α : Type} {d : Kd α} {wf : α → Prop} {bk : α → Nat} (O : Opn P f.type d wf bk) (ho : f.offset = o) : OpnF P [f] o d wf bk :=
  ⟨fun {H enc w base spare held n cs xs} h hl hc => by
    obtain ⟨x, rfl⟩ : ∃ x, xs = [x] := by
      cases xs with
      | nil => simp at hl
      | cons x xs => cases xs with
        | nil => exact ⟨x, rfl⟩
        | cons y ys => simp at hl
    have h0 := h 0 f rfl
    simp only [List.getElem?_cons_zero] at h0
    obtain ⟨v, hK, hw, hb⟩ := O.op h0
    rw [ho, O.cells] at hK
    exact ⟨v, hK, fun hh => hw (fun n hn => hh n (by simp only [List.map_cons, List.map_nil, DataW.weightsEach, List.mem_append]; exact .inl hn)), by simpa [uptoBulkAll] using hb⟩⟩
theorem more {P : Program} {f : Field} {fs : List Field} {o o' : Nat} {α β : Type} {d : Kd α} {wf : α → Prop} {bk : α → Nat} {d' : Kd β} {wf' : β → Prop} {bk' : β → Nat} (O : Opn P f.type d wf bk) (ho : f.offset = o) (ho' : o + d.sz = o') (F : OpnF P fs o' d' wf' bk') :
    OpnF P (f :: fs) o (Kd.pair d d') (fun p => wf p.1 ∧ wf' p.2) (fun p => bk p.1 + bk' p.2) :=
  ⟨fun {H enc w base spare held n cs xs} h hl hc => by
    obtain ⟨x, xs, rfl⟩ : ∃ x xs', xs = x :: xs' := by
      cases xs with
      | nil => simp at hl
      | cons x xs => exact ⟨x, xs, rfl⟩
    subst ho'
    have hsz : (Kd.pair d d').sz = d.sz + d'.sz := rfl
    rw [hsz] at hc ⊢
    have h0 := h 0 f rfl
    simp only [List.getElem?_cons_zero] at h0
    obtain ⟨v, hK, hw, hb⟩ := O.op h0
    rw [ho, O.cells] at hK
    obtain ⟨v', hK', hw', hb'⟩ := F.op (xs := xs) (cs := cs) (fun i g hg => by have := h (i + 1) g (by simpa using hg); simpa using this) (by simpa using hl) (by omega)
    refine ⟨(v, v'), ⟨_, _, ?_, hK, hK'⟩, fun hh => ⟨hw (fun n hn => hh n ?_), hw' (fun n hn => hh n ?_)⟩, ?_⟩
    · rw [List.take_add, List.drop_drop]
    · simp only [List.map_cons, DataW.weightsEach, List.mem_append]; exact .inl hn
    · simp only [List.map_cons, DataW.weightsEach, List.mem_append]; exact .inr hn
    · simp only [List.map_cons, uptoBulkAll]; omega⟩
theorem struct {P : Program} {t : TypeId} {fs : Array Field} {α : Type} {d : Kd α} {wf : α → Prop} {bk : α → Nat} (ht : P.underlying t = some (.struct fs)) (hc : P.cellsOf t = d.sz) (F : OpnF P fs.toList 0 d wf bk) : Opn P t d wf (fun v => bk v + 1) :=
  ⟨hc, fun {H enc w base spare held fuel cs x} h => by
    obtain ⟨xs, n, _, rfl, hl, hxl, hx⟩ := DataW.trod_struct ht h
    obtain ⟨v, hK, hw, hb⟩ := F.op (xs := xs) (cs := cs) (fun i f hf => hx i f (by simpa using hf)) (by simpa using hxl) (by omega)
    rw [List.drop_zero, List.take_of_length_le (by omega)] at hK
    exact ⟨v, hK, fun hh => hw (fun n hn => hh n (by simpa only [DataW.weights, ht] using hn)), by simp only [uptoBulk]; omega⟩⟩
theorem iso {P : Program} {t : TypeId} {α β : Type} {d : Kd α} {wf : α → Prop} {bk : α → Nat} (O : Opn P t d wf bk) (f : β → α) (g : α → β) (hfg : ∀ v, f (g v) = v) : Opn P t (Kd.iso d f) (fun x => wf (f x)) (fun x => bk (f x)) :=
  ⟨O.cells, fun h => by
    obtain ⟨v, hK, hw, hb⟩ := O.op h
    exact ⟨g v, by show d.K _ (f (g v)) _; rw [hfg]; exact hK, by rw [hfg]; exact hw, by rw [hfg]; exact hb⟩⟩

/-- An argument's data. -/
theorem arg {P : Program} {t : TypeId} {α : Type} {d : Kd α} {wf : α → Prop} {bk : α → Nat} (O : Opn P t d wf bk) {H : Type} {enc : TypeId × Value → H} {w : World} {base : Nat} {spare : Nat → Bool} {held : Bool} {v : Value} {x : DataW H} {ps : List MemPlace} {ts : List TypeId} {ds : List (DataW H)} {j : Nat}
    (hsz : (DataW.weightsEach P ts ds).all (· ≤ reachBytes) = true) (ht : ts[j]? = some t) (hd : ds[j]? = some x) (h : DataW.Trod enc P w base spare held t v x ps) :
    ∃ a : α, d.K w a v.cells.toList ∧ wf a ∧ bk a ≤ uptoBulk x := by
  obtain ⟨fuel, hf⟩ := h
  obtain ⟨a, hK, hw, hb⟩ := O.op hf
  exact ⟨a, hK, hw (fun n hn => by simpa using List.all_eq_true.1 hsz n (DataW.weights_mem_each ht hd n hn)), hb⟩
end Go.Proofs.Ytgjidpcddnapmaa.Open
