/- The deterministic machine's memory against the real one's: loads, stores, new blocks. -/
import Derived.Test.YtcobmomjdbmacaaDoorDetRel
import Derived.Laws.CopyRow
set_option linter.unusedVariables false
set_option linter.unusedSimpArgs false
set_option linter.unusedSectionVars false
namespace Go.Det
open Go.RowKit

theorem Mu.put_same {μ : Mu} {b g : Nat} {rb : RB} (h : μ b g = some rb) : μ.put b g rb = μ := by
  funext b' g'
  unfold Mu.put
  split
  · rename_i e; obtain ⟨rfl, rfl⟩ := e; exact h.symm
  · rfl

theorem Mu.put_at (μ : Mu) (b g : Nat) (rb : RB) : μ.put b g rb b g = some rb := by simp [Mu.put]

theorem addr_add (r o i : Nat) : (⟨r, o, none⟩ : Addr).add i = ⟨r, o + i, none⟩ := by unfold Addr.add; split <;> simp_all

theorem cell_at {w : World} {r o : Nat} {c : Array Value} {e : TypeId} {fz : Nat × Nat} {v : Value} (h : w.heap[r]? = some (.cells c e fz)) (hv : c.toList[o]? = some v) :
    w.cell? ⟨r, o, none⟩ = some v := by simp only [World.cell?, h]; simpa using hv

section
variable {μ : Mu} {w0 : World} {ng : Nat} {h : H} {w : World}

theorem WRel.row (W : WRel μ w0 ng h w) {a : AA} {c : List AV} (hr : h.row a = some c) {rb : RB} (hm : μ a.b a.g = some rb) :
    ∃ c' e fz l', w.heap[rb.r]? = some (.cells c' e fz) ∧ VPre μ c l' ∧ ∀ i, a.o ≤ i → l'[i]? = c'.toList[i]? := by
  unfold H.row at hr
  split at hr
  · rename_i g e c0 fz ro hg
    split at hr
    · rename_i hgen
      simp only [Option.some.injEq] at hr
      subst hr
      simp only [Bool.and_eq_true, Bool.or_eq_true, Bool.not_eq_true', decide_eq_true_eq, beq_iff_eq] at hgen
      obtain ⟨hgen, hro⟩ := hgen
      subst hgen
      obtain ⟨⟨o, h1, h2 | h2⟩, _⟩ := W.blk _ _ rb hg hm
      · obtain ⟨c', lo, hi, rfl, _, h4, _, _⟩ := h2
        exact ⟨c', e, (lo, hi), c'.toList, h1, h4, fun _ _ => rfl⟩
      · unfold RoRel at h2
        split at h2
        · rename_i g e c k heq
          obtain ⟨c', fz', l', rfl, h4, h5⟩ := h2
          simp only [Blk.cells.injEq] at heq
          obtain ⟨rfl, rfl, rfl, rfl, rfl⟩ := heq
          exact ⟨c', e, fz', l', h1, h4, fun i hi => h5 i (by have := hro.resolve_left (by simp); omega)⟩
        · exact h2.elim
    · simp at hr
  · simp at hr

theorem WRel.ld (W : WRel μ w0 ng h w) {a : AA} {v : AV} (hl : h.ld a = some v) {rb : RB} (hm : μ a.b a.g = some rb) :
    ∃ v', w.cell? ⟨rb.r, a.o, none⟩ = some v' ∧ VRel μ v v' := by
  unfold H.ld at hl
  split at hl
  · rename_i c hr
    obtain ⟨c', e, fz, l', h1, h2, h5⟩ := W.row hr hm
    obtain ⟨v', h3, h4⟩ := h2.get hl
    exact ⟨v', cell_at h1 (by rw [← h5 _ (Nat.le_refl _)]; exact h3), h4⟩
  · simp at hl

theorem run_loadCells_list' (P : Program) (a : Addr) : ∀ (cs : List Value) (i : Nat) (acc : Array Value), (∀ j v, cs[j]? = some v → w.cell? (a.add (i + j)) = some v) →
    (loadCellsFrom a i cs.length acc).run P w = .ok (acc ++ cs.toArray) w
  | [], i, acc, _ => by simp [loadCellsFrom]
  | v :: cs, i, acc, h => by
    have h0 : w.cell? (a.add i) = some v := by simpa using h 0 v (by simp)
    have ih := run_loadCells_list' P a cs (i + 1) (acc.push v) (fun j u hj => by have := h (j + 1) u (by simpa using hj); rw [← this]; congr 2; omega)
    simp only [List.length_cons, loadCellsFrom, Sem.run_bind, run_load, h0, Result.andThen_ok, ih]
    simp

theorem WRel.ldn (W : WRel μ w0 ng h w) (P : Program) {a : AA} {n : Nat} {r : List AV} (hl : h.ldn a n = some r) {rb : RB} (hm : μ a.b a.g = some rb) :
    ∃ vs : List Value, (loadCells ⟨rb.r, a.o, none⟩ n).run P w = .ok vs.toArray w ∧ vs.length = n ∧ VRels μ r vs := by
  unfold H.ldn at hl
  split at hl
  · rename_i c hr
    obtain ⟨c', e, fz, l', h1, h2, h6⟩ := W.row hr hm
    obtain ⟨vs, h3, h4, h5⟩ := h2.cut hl
    refine ⟨vs, ?_, h3, h4⟩
    have := run_loadCells_list' (w := w) P ⟨rb.r, a.o, none⟩ vs 0 #[] (fun j v hj => by
      rw [Nat.zero_add, addr_add]; exact cell_at h1 (by rw [← h6 _ (Nat.le_add_right _ _)]; exact h5 j v hj))
    rw [h3] at this
    simpa [loadCells] using this
  · simp at hl

/-! ### Stores -/

theorem Chg.refl {r : Nat} {o : Obj} (h : w.heap[r]? = some o) : Chg w w r o := ⟨rfl, rfl, rfl, Nat.le_refl _, h, fun _ _ _ => rfl⟩
theorem Chg.trans {w' w'' : World} {r : Nat} {o o' : Obj} (h : Chg w w' r o) (h' : Chg w' w'' r o') : Chg w w'' r o' :=
  ⟨h'.os.trans h.os, h'.tape.trans h.tape, h'.output.trans h.output, Nat.le_trans h.size h'.size, h'.here,
    fun k hk hl => (h'.there k hk (Nat.lt_of_lt_of_le hl h.size)).trans (h.there k hk hl)⟩

theorem Chg.setCell {r o : Nat} {c : Array Value} {e : TypeId} {fz : Nat × Nat} (h : w.heap[r]? = some (.cells c e fz)) (v : Value) :
    Chg w (w.setCell ⟨r, o, none⟩ v) r (.cells (c.setIfInBounds o v) e fz) := by
  refine ⟨rfl, rfl, rfl, by simp, ?_, ?_⟩
  · simp [World.setCell, Array.getElem?_modify, h]
  · intro k hk hl
    simp only [World.setCell, Array.getElem?_modify]
    rw [if_neg (by omega)]

theorem run_storeCells_fz (P : Program) (r o : Nat) (e : TypeId) (lo hi : Nat) : ∀ (vs : List Value) (i : Nat) (cur : Array Value) (w : World),
    w.heap[r]? = some (.cells cur e (lo, hi)) → o + i + vs.length ≤ cur.size → (∀ j, i ≤ j → j < i + vs.length → ¬ (lo ≤ o + j ∧ o + j < hi)) → (∀ v ∈ vs, v.oneCell' = true) →
    ∃ w', (storeCells ⟨r, o, none⟩ vs i).run P w = .ok () w' ∧ Chg w w' r (.cells (cur.toList.take (o + i) ++ vs ++ cur.toList.drop (o + i + vs.length)).toArray e (lo, hi)) ∧ w'.heap.size = w.heap.size
  | [], i, cur, w, hg, _, _, _ => by
    refine ⟨w, rfl, ?_, rfl⟩
    simp only [List.append_nil, List.length_nil, Nat.add_zero, List.take_append_drop, Array.toArray_toList]
    exact Chg.refl hg
  | v :: rest, i, cur, w, hg, hl, hf, h1 => by
    have hi' : o + i < cur.size := by simp at hl; omega
    have hcell : w.cell? ⟨r, o + i, none⟩ = some cur[o + i] := cell_at hg (by simp [hi'])
    have hfro : w.frozen? ⟨r, o + i, none⟩ = false := by
      have := hf i (Nat.le_refl _) (by simp)
      simp only [World.frozen?, hg]
      simp only [Bool.and_eq_false_iff, decide_eq_false_iff_not]
      omega
    have hst : (store ((⟨r, o, none⟩ : Addr).add i) v).run P w = .ok () (w.setCell ⟨r, o + i, none⟩ v) := by
      rw [addr_add, run_store P w _ v _ (h1 v (by simp)), hcell]
      simp [hfro]
    have hch := Chg.setCell (o := o + i) hg v
    obtain ⟨w', r1, r2, r3⟩ := run_storeCells_fz P r o e lo hi rest (i + 1) _ _ hch.here (by simp at hl ⊢; omega) (fun j hj hj' => hf j (by omega) (by simp; omega)) (fun x hx => h1 x (by simp [hx]))
    refine ⟨w', ?_, ?_, r3.trans (by simp)⟩
    · simp only [storeCells, Sem.run_bind, hst, Result.andThen_ok, r1]
    · have := hch.trans r2
      have e := list_seg_step cur.toList (o + i) v rest (by simp at hl ⊢; omega)
      have e' : ((cur.setIfInBounds (o + i) v).toList.take (o + (i + 1)) ++ rest ++ (cur.setIfInBounds (o + i) v).toList.drop (o + (i + 1) + rest.length)) =
          cur.toList.take (o + i) ++ v :: rest ++ cur.toList.drop (o + i + (v :: rest).length) := by
        simpa [Array.toList_setIfInBounds, Nat.add_assoc] using e
      rw [e'] at this
      exact this

theorem one_of {μ : Mu} {a : AV} {v : Value} (h : VRel μ a v) (h1 : a.one = true) : v.oneCell' = true := by
  cases a <;> try (cases h; rfl)
  · obtain ⟨rb, _, rfl⟩ := h; rfl
  · rename_i a n c
    cases c with
    | ex c => rcases h with ⟨rb, _, rfl, _⟩ | ⟨_, _, ad, rfl⟩ <;> rfl
    | op e => obtain ⟨rb, o, c, _, rfl, _⟩ := h; rfl
  · obtain ⟨rb, _, rfl⟩ := h; rfl
  · obtain ⟨x, y, rfl, _⟩ := h; rfl
  · obtain ⟨x, rfl, _⟩ := h; rfl
  · simp [AV.one] at h1
  · simp [AV.one] at h1
  · simp [AV.one] at h1

theorem ones_of {μ : Mu} : ∀ {a : List AV} {v : List Value}, VRels μ a v → a.all AV.one = true → ∀ x ∈ v, x.oneCell' = true
  | [], _, h, _ => by cases h; simp
  | a :: l, _, h, h1 => by
    obtain ⟨v, y, rfl, hv, h⟩ := h
    simp only [List.all_cons, Bool.and_eq_true] at h1
    intro x hx
    rcases List.mem_cons.1 hx with rfl | hx
    · exact one_of hv h1.1
    · exact ones_of h h1.2 x hx

theorem WRel.st (W : WRel μ w0 ng h w) (P : Program) {a : AA} {vs : List AV} {us : List Value} {h' : H} (hs : h.st a vs = some h') (hv : VRels μ vs us) {rb : RB} (hm : μ a.b a.g = some rb) :
    ∃ w', (storeCells ⟨rb.r, a.o, none⟩ us).run P w = .ok () w' ∧ WRel μ w0 ng h' w' ∧ Adv μ h w μ h' w' := by
  unfold H.st at hs
  split at hs
  · rename_i g e c fz ro hg
    split at hs
    · rename_i hcond
      simp only [Option.some.injEq] at hs
      subst hs
      simp only [Bool.and_eq_true, Bool.not_eq_true', decide_eq_true_eq, beq_iff_eq] at hcond
      obtain ⟨⟨⟨⟨rfl, hro⟩, hfz⟩, hlen⟩, hone⟩ := hcond
      obtain ⟨⟨o, h1, h2⟩, h3⟩ := (W.blk _ _ rb hg hm).imp (fun x => x.own hro) id
      obtain ⟨c', lo, hi, rfl, hsz, hpre, hlh, hfr⟩ := h2
      have e1 := hv.length
      have e2 := hpre.length
      simp only [Array.length_toList] at e2
      obtain ⟨w', r1, r2, r3⟩ := run_storeCells_fz P rb.r a.o e lo hi us 0 c' w h1 (by omega) (fun j _ hj hh => by rcases hfr _ hh.1 hh.2 with h | h <;> omega) (ones_of hv hone)
      have hlt := (W.dom _ _ _ hm).1
      have hB : ORel (μ.put a.b a.g rb) rb.n (.cells a.g e (Det.putAt c a.o vs) fz ro) (.cells (c'.toList.take (a.o + 0) ++ us ++ c'.toList.drop (a.o + 0 + us.length)).toArray e (lo, hi)) := by
        rw [Mu.put_same hm]
        refine ⟨_, lo, hi, rfl, ?_, ?_, hlh, hfr⟩
        · simp only [List.size_toArray, List.length_append, List.length_take, List.length_drop, Array.length_toList]; omega
        · simpa using hpre.putAt hv hlen
      have := W.upd a.b (.cells a.g e (Det.putAt c a.o vs) fz ro) rb _ (h.get_set a.b _) (fun k hk => h.get_set_ne a.b k _ hk) (Nat.le_refl _) (W.dom _ _ _ hm).2.1 r2 (by rw [r3]; exact hlt) hro
        (.inr ⟨_, rb, hg, hm, hro, rfl⟩) (fun g rb1 e1 => by obtain ⟨_, _, B, h5, h6⟩ := W.dom _ _ _ e1; rw [hg] at h5; cases h5; exact h6)
        (fun rb1 e1 => by rw [show (Blk.cells a.g e (Det.putAt c a.o vs) fz ro).gen = a.g from rfl, hm] at e1; exact (Option.some.inj e1).symm) hB
      rw [show (Blk.cells a.g e (Det.putAt c a.o vs) fz ro).gen = a.g from rfl, Mu.put_same hm] at this
      exact ⟨w', r1, this⟩
    · simp at hs
  · simp at hs

/-! ### New blocks -/

theorem WRel.fresh (W : WRel μ w0 ng h w) (g : Nat) : μ h.n g = none := by
  cases e : μ h.n g with
  | none => rfl
  | some rb => exact absurd (W.dom _ _ _ e).2.1 (Nat.lt_irrefl _)

theorem WRel.le_new (W : WRel μ w0 ng h w) (rb : RB) : μ.le (μ.put h.n 0 rb) := by
  intro b g rb1 e
  unfold Mu.put
  split
  · rename_i hk; obtain ⟨rfl, rfl⟩ := hk; rw [W.fresh] at e; simp at e
  · exact e

theorem WRel.new' (W : WRel μ w0 ng h w) {w' : World} (B : Blk) (o : Obj) (n : Nat) (hch : Chg w w' w.heap.size o) (hsz : w.heap.size < w'.heap.size) (hg : B.gen = 0) (hro : B.ro = false) (hB : ORel μ n B o) :
    WRel (μ.put h.n 0 ⟨w.heap.size, n⟩) w0 ng (h.new B) w' ∧ Adv μ h w (μ.put h.n 0 ⟨w.heap.size, n⟩) (h.new B) w' := by
  have := W.upd h.n B ⟨w.heap.size, n⟩ o (h.get_new B) (fun k hk => h.get_new_ne k B hk) (by simp) (by simp) hch hsz hro (.inl ⟨rfl, .inl (Nat.le_refl _)⟩)
    (fun g rb1 e => by rw [W.fresh] at e; simp at e) (fun rb1 e => by rw [W.fresh] at e; simp at e) (by rw [hg]; exact hB.mono (W.le_new _))
  rw [hg] at this
  exact this

/-- A new block: of a world that may have drawn. -/
theorem WRel.new (W : WRel μ w0 ng h w) (w1 : World) (hw : w1.heap = w.heap) (ho : w1.os = w.os) (ht : w1.tape = w.tape) (hu : w1.output = w.output) (B : Blk) (o : Obj) (n : Nat) (hg : B.gen = 0) (hro : B.ro = false) (hB : ORel μ n B o) :
    WRel (μ.put h.n 0 ⟨w.heap.size, n⟩) w0 ng (h.new B) (w1.alloc o) ∧ Adv μ h w (μ.put h.n 0 ⟨w.heap.size, n⟩) (h.new B) (w1.alloc o) := by
  have hch : Chg w (w1.alloc o) w.heap.size o := by
    have := (Chg.alloc w1 o).drew w hw.symm ho.symm ht.symm hu.symm
    rw [hw] at this
    exact this
  have := W.upd h.n B ⟨w.heap.size, n⟩ o (h.get_new B) (fun k hk => h.get_new_ne k B hk) (by simp) (by simp) hch (by simp [hw]) hro (.inl ⟨rfl, .inl (Nat.le_refl _)⟩)
    (fun g rb1 e => by rw [W.fresh] at e; simp at e) (fun rb1 e => by rw [W.fresh] at e; simp at e) (by rw [hg]; exact hB.mono (W.le_new _))
  rw [hg] at this
  exact this

end
end Go.Det
