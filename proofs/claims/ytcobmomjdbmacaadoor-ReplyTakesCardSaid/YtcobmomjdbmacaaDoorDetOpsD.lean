/- The deterministic machine's literals, makes, copies, slices, places, maps, each against the real one. -/
import Derived.Test.YtcobmomjdbmacaaDoorDetOpsC
set_option linter.unusedVariables false
set_option linter.unusedSimpArgs false
set_option linter.unusedSectionVars false
namespace Go.Det
open Go.RowKit

section
variable {P : Program} {μ : Mu} {w0 : World} {ng : Nat} {h : H} {w : World}

/-! ### Literals -/

theorem foldl_put : ∀ (vs : List Value) (o k : Nat) (cs : Array Value), o + k + vs.length ≤ cs.size →
    ((vs.zipIdx k).foldl (fun cs (p : Value × Nat) => cs.setIfInBounds (o + p.2) p.1) cs).toList = cs.toList.take (o + k) ++ vs ++ cs.toList.drop (o + k + vs.length)
  | [], o, k, cs, _ => by simp
  | v :: vs, o, k, cs, hl => by
    simp only [List.zipIdx_cons, List.foldl_cons]
    rw [foldl_put vs o (k + 1) _ (by simp at hl ⊢; omega)]
    have e := list_seg_step cs.toList (o + k) v vs (by simp at hl ⊢; omega)
    simpa [Array.toList_setIfInBounds, Nat.add_assoc] using e

theorem fill_rel {places : Nat → Option (Nat × Nat)} {ρA : IX → AV} {ρ : Operand → Value} :
    ∀ (ps : List (Nat × Operand)) (aps : List (Nat × Nat × IX)), (∀ p ∈ ps, ∀ X, ofOpd P p.2 = some X → VRel μ (ρA X) (ρ p.2)) → partsOf P places ps = some aps → ∀ (c c' : List AV) (cs : Array Value), VRels μ c cs.toList → fillL c (aps.map fun p => (p.1, p.2.1, ρA p.2.2)) = some c' →
      ∃ cs', Instr.fill places cs (ps.map fun p => (p.1, ρ p.2)) = some cs' ∧ VRels μ c' cs'.toList
  | [], aps, _, h, c, c', cs, hc, hf => by
    simp only [partsOf, Option.some.injEq] at h
    subst h
    simp only [List.map_nil, fillL, Option.some.injEq] at hf
    subst hf
    exact ⟨cs, rfl, hc⟩
  | (i, x) :: ps, aps, hρ, h, c, c', cs, hc, hf => by
    simp only [partsOf] at h
    split at h
    · rename_i off sz X r h1 h2 h3
      simp only [Option.some.injEq] at h
      subst h
      simp only [List.map_cons, fillL] at hf
      split at hf
      · rename_i hcond
        simp only [Bool.and_eq_true, beq_iff_eq, decide_eq_true_eq] at hcond
        have hv := cells_rel (hρ (i, x) (by simp) _ h2)
        have hvl : (ρA X).cells.length = (ρ x).cells.size := by simpa using hv.length
        have hcl : c.length = cs.size := by simpa using hc.length
        have hput := hc.putAt (o := off) hv (by omega)
        have hfold := foldl_put (ρ x).cells.toList off 0 cs (by simp; omega)
        simp only [Nat.add_zero] at hfold
        obtain ⟨cs', h4, h5⟩ := fill_rel ps r (fun p hp => hρ p (by simp [hp])) h3 _ c' ((((ρ x).cells.toList.zipIdx 0).foldl (fun cs (p : Value × Nat) => cs.setIfInBounds (off + p.2) p.1) cs)) (by rw [hfold]; exact hput) hf
        refine ⟨cs', ?_, h5⟩
        simp only [List.map_cons, Instr.fill, h1]
        rw [if_neg (by simp; omega)]
        rw [← h4]
        congr 1
        rw [← Array.foldl_toList]
        simp
      · simp at hf
    · simp at h

theorem range_flat {α : Type} [Inhabited α] (z : List α) : ∀ n, (List.range (n * z.length)).map (fun i => z[i % z.length]!) = (List.replicate n z).flatten
  | 0 => by simp
  | n + 1 => by
    have hr : List.range ((n + 1) * z.length) = List.range (n * z.length) ++ (List.range z.length).map (n * z.length + ·) := by
      rw [Nat.succ_mul, List.range_add]
    rw [hr, List.map_append, range_flat z n, List.replicate_succ', List.flatten_append]
    congr 1
    simp only [List.map_map, List.flatten_cons, List.flatten_nil, List.append_nil]
    apply List.ext_getElem
    · simp
    · intro i h1 h2
      simp only [List.length_map, List.length_range] at h1
      simp only [List.getElem_map, List.getElem_range, Function.comp]
      rw [Nat.mul_add_mod_self_right, Nat.mod_eq_of_lt h1, getElem!_pos z i h1]

theorem flat_rel {a : List AV} {v : List Value} (h : VRels μ a v) : ∀ n, VRels μ (List.replicate n a).flatten (List.replicate n v).flatten
  | 0 => by simpa using VRels.nil
  | n + 1 => by simpa [List.replicate_succ] using h.append (flat_rel h n)

theorem zero_row {z : Array Value} {n s : Nat} (hs : z.size = s) : ((Array.range (n * s)).map fun i => z[i % z.size]!).toList = (List.replicate n z.toList).flatten := by
  subst hs
  have := range_flat z.toList n
  simp only [Array.length_toList] at this
  rw [← this]
  simp
  intro a _
  rw [getElem!_def]
  cases z[a % z.size]? <;> rfl

theorem run_places (fs : List Field) (hf : fs.all (fun f => (sizeT P f.type).isSome) = true) :
    (fs.mapM fun f => (do pure (f.offset, ← sizeOf f.type) : Sem (Nat × Nat))).run P w = .ok (fs.map fun f => (f.offset, (sizeT P f.type).getD 0)) w := by
  induction fs with
  | nil => rfl
  | cons f fs ih =>
    simp only [List.all_cons, Bool.and_eq_true] at hf
    obtain ⟨s, hs⟩ := Option.isSome_iff_exists.1 hf.1
    simp only [List.mapM_cons, Sem.run_bind, run_size hs, Result.andThen_ok, Sem.run_pure, ih hf.2, List.map_cons, hs, Option.getD_some]

theorem build_rs {t : TypeId} {fs : Array Field} (ht : P.underlying t = some (.struct fs)) {z : AV} (hz : zeroT P t = some z) (hall : fs.toList.all (fun f => (sizeT P f.type).isSome) = true) {ps : Array (Nat × Operand)} {aps : List (Nat × Nat × IX)}
    (hp : partsOf P (fun i => match fs[i]? with | some f => (sizeT P f.type).map fun s => (f.offset, s) | none => none) ps.toList = some aps) {ρA : IX → AV} {ρ : Operand → Value} (hρ : ∀ p ∈ ps.toList, ∀ X, ofOpd P p.2 = some X → VRel μ (ρA X) (ρ p.2))
    {cs : List AV} (hf : fillL z.cells (aps.map fun p => (p.1, p.2.1, ρA p.2.2)) = some cs) : Pl P μ w (Instr.build t (ps.map fun (i, x) => (i, ρ x))) (.agg cs) := by
  obtain ⟨zv, hz1, hz2⟩ := zeroT_rel (P := P) (μ := μ) (w := w) hz
  obtain ⟨cs', h1, h2⟩ := fill_rel _ _ hρ hp _ _ zv.cells (cells_rel hz2) hf
  refine ⟨.agg cs', ?_, _, rfl, h2⟩
  have hm : (fs.mapM fun f => (do pure (f.offset, ← sizeOf f.type) : Sem (Nat × Nat))).run P w = .ok (fs.map fun f => (f.offset, (sizeT P f.type).getD 0)) w := by
    rw [Array.mapM_eq_mapM_toList]
    simp only [Sem.run_map, run_places fs.toList hall, Result.andThen_ok]
    congr 1
    apply Array.ext'
    simp
  have hpl : (fun (i : Nat) => (fs.map fun (f : Field) => (f.offset, (sizeT P f.type).getD 0))[i]?) = (fun (i : Nat) => match fs[i]? with | some f => (sizeT P f.type).map fun s => (f.offset, s) | none => none) := by
    funext i
    rw [Array.getElem?_map]
    cases e : fs[i]? with
    | none => rfl
    | some f =>
      have : (sizeT P f.type).isSome = true := List.all_eq_true.1 hall f (by rw [← Array.mem_def]; exact Array.mem_of_getElem? e)
      obtain ⟨s, hs⟩ := Option.isSome_iff_exists.1 this
      simp [hs]
  simp only [Instr.build, Sem.run_bind, hz1, Result.andThen_ok, run_underlying ht, hm, hpl]
  have : (ps.map fun (i, x) => (i, ρ x)).toList = ps.toList.map fun p => (p.1, ρ p.2) := by simp
  rw [this, h1]
  rfl

theorem buildA_rs {t e : TypeId} {len : Nat} (ht : P.underlying t = some (.array len e)) {z : AV} (hz : zeroT P t = some z) {s : Nat} (hs : sizeT P e = some s) {ps : Array (Nat × Operand)} {aps : List (Nat × Nat × IX)}
    (hp : partsOf P (fun i => some (i * s, s)) ps.toList = some aps) {ρA : IX → AV} {ρ : Operand → Value} (hρ : ∀ p ∈ ps.toList, ∀ X, ofOpd P p.2 = some X → VRel μ (ρA X) (ρ p.2))
    {cs : List AV} (hf : fillL z.cells (aps.map fun p => (p.1, p.2.1, ρA p.2.2)) = some cs) : Pl P μ w (Instr.build t (ps.map fun (i, x) => (i, ρ x))) (.agg cs) := by
  obtain ⟨zv, hz1, hz2⟩ := zeroT_rel (P := P) (μ := μ) (w := w) hz
  obtain ⟨cs', h1, h2⟩ := fill_rel _ _ hρ hp _ _ zv.cells (cells_rel hz2) hf
  refine ⟨.agg cs', ?_, _, rfl, h2⟩
  simp only [Instr.build, Sem.run_bind, hz1, Result.andThen_ok, run_underlying ht, run_size hs]
  have : (ps.map fun (i, x) => (i, ρ x)).toList = ps.toList.map fun p => (p.1, ρ p.2) := by simp
  rw [this, h1]
  rfl

theorem bsl_rs (W : WRel μ w0 ng h w) {t e : TypeId} (ht : P.underlying t = some (.slice e)) {s n : Nat} (hs : sizeT P e = some s) {z : AV} (hz : zeroT P e = some z) (hn : n * s ≤ 16777216) (hzl : z.cells.length = s) {ps : Array (Nat × Operand)} {aps : List (Nat × Nat × IX)}
    (hp : partsOf P (fun i => some (i * s, s)) ps.toList = some aps) {ρA : IX → AV} {ρ : Operand → Value} (hρ : ∀ p ∈ ps.toList, ∀ X, ofOpd P p.2 = some X → VRel μ (ρA X) (ρ p.2))
    {cs : List AV} (hf : fillL (List.replicate n z.cells).flatten (aps.map fun p => (p.1, p.2.1, ρA p.2.2)) = some cs) :
    Rs P μ w0 ng h w (Instr.buildSlice t n (ps.map fun (i, x) => (i, ρ x))) (.sl ⟨h.n, 0, 0⟩ n (.ex n)) (h.new (.cells 0 e cs 0 false)) := by
  obtain ⟨zv, hz1, hz2⟩ := zeroT_rel (P := P) (μ := μ) (w := w) hz
  have hzs : zv.cells.size = s := by rw [← hzl]; simpa using (cells_rel hz2).length.symm
  obtain ⟨zr, hzr1, hzr2⟩ : ∃ zr : Array Value, ((n * s = 0 ∧ zr = #[]) ∨ (n * s ≠ 0 ∧ zr = zv.cells)) ∧ ((Array.range (n * s)).map fun i => zr[i % zr.size]!).toList = (List.replicate n zv.cells.toList).flatten := by
    by_cases h0 : n * s = 0
    · refine ⟨#[], .inl ⟨h0, rfl⟩, ?_⟩
      rcases Nat.mul_eq_zero.1 h0 with rfl | rfl
      · simp
      · have : zv.cells.toList = [] := by rw [← Array.length_toList] at hzs; exact List.eq_nil_of_length_eq_zero hzs
        simp [this]
    · exact ⟨zv.cells, .inr ⟨h0, rfl⟩, zero_row hzs⟩
  obtain ⟨cs', h1, h2⟩ := fill_rel _ _ hρ hp _ _ ((Array.range (n * s)).map fun i => zr[i % zr.size]!) (by rw [hzr2]; exact flat_rel (cells_rel hz2) n) hf
  obtain ⟨μ', r, hm, _, hW⟩ := newRow_rs (P := P) W e h2
  refine ⟨.slice (some ⟨w.heap.size, 0, none⟩) n n, _, μ', ?_, .inl ⟨_, hm, rfl, Nat.le_refl _⟩, hW⟩
  have : (ps.map fun (i, x) => (i, ρ x)).toList = ps.toList.map fun p => (p.1, ρ p.2) := by simp
  simp only [Instr.buildSlice, Sem.run_bind, run_underlying ht, Result.andThen_ok, run_size hs]
  rw [if_neg (by omega)]
  rcases hzr1 with ⟨h0, rfl⟩ | ⟨h0, rfl⟩
  · rw [if_pos h0]
    simp only [Sem.run_bind, Sem.run_pure, Result.andThen_ok, this, h1, r]
  · rw [if_neg h0]
    simp only [Sem.run_bind, Sem.run_pure, hz1, Result.andThen_ok, this, h1, r]

theorem mkS_rs (W : WRel μ w0 ng h w) {t e : TypeId} (ht : P.underlying t = some (.slice e)) {i : TypeInfo} (hi : P.info? e = some i) {z : AV} (hz : zeroT P e = some z) (hzl : z.cells.length = i.size) (hz0 : 0 < i.size)
    {l c : AV} {ln cn : Int} (hl : asI l = some ln) (hc : asI c = some cn) (h0 : 0 ≤ ln) (h1 : ln ≤ cn) (h2 : i.bytes * cn ≤ maxRow) (h3 : cn ≤ 9223372036854775807) {l' c' : Value} (hl' : VRel μ l l') (hc' : VRel μ c c') :
    Rs P μ w0 ng h w (Instr.makeSlice t l' c') (.sl ⟨h.n, 0, 0⟩ ln.toNat (if ln == cn then .ex ln.toNat else .op z.cells.length)) (h.new (.cells 0 e ((List.replicate ln.toNat z.cells).flatten) 0 false)) := by
  obtain ⟨kl, rfl⟩ := asI_rel hl hl'
  obtain ⟨kc, rfl⟩ := asI_rel hc hc'
  obtain ⟨zv, hz1, hz2⟩ := zeroT_rel (P := P) (μ := μ) (w := w) hz
  have hzs : zv.cells.size = i.size := by rw [← hzl]; simpa using (cells_rel hz2).length.symm
  have hwl : IntKind.i64.wrap ln = ln := IntWalk.i64_in _ (by omega)
  have hwc : IntKind.i64.wrap cn = cn := IntWalk.i64_in _ (by omega)
  have hsize : (sizeOf e).run P w = .ok i.size w := by simp [sizeOf, run_info hi]
  obtain ⟨zr, hzr1, hzr2⟩ : ∃ zr : Array Value, ((cn.toNat * i.size = 0 ∧ zr = #[]) ∨ (cn.toNat * i.size ≠ 0 ∧ zr = zv.cells)) ∧ ((Array.range (cn.toNat * i.size)).map fun i => zr[i % zr.size]!).toList = (List.replicate cn.toNat zv.cells.toList).flatten := by
    by_cases h0 : cn.toNat * i.size = 0
    · refine ⟨#[], .inl ⟨h0, rfl⟩, ?_⟩
      have : cn.toNat = 0 := by rcases Nat.mul_eq_zero.1 h0 with h | h <;> omega
      simp [this]
    · exact ⟨zv.cells, .inr ⟨h0, rfl⟩, zero_row hzs⟩
  have hrep : (List.replicate cn.toNat zv.cells.toList).flatten = (List.replicate ln.toNat zv.cells.toList).flatten ++ (List.replicate (cn.toNat - ln.toNat) zv.cells.toList).flatten := by
    rw [← List.flatten_append, List.replicate_append_replicate]; congr 2; omega
  have hszr : ((Array.range (cn.toNat * i.size)).map fun i => zr[i % zr.size]!).size = cn.toNat * i.size := by simp
  have hW := W.new w rfl rfl rfl rfl (.cells 0 e ((List.replicate ln.toNat z.cells).flatten) 0 false) (.cells ((Array.range (cn.toNat * i.size)).map fun i => zr[i % zr.size]!) e) (cn.toNat * i.size) rfl rfl
    ⟨_, 0, 0, rfl, hszr, ⟨(List.replicate ln.toNat zv.cells.toList).flatten, (List.replicate (cn.toNat - ln.toNat) zv.cells.toList).flatten, by rw [hzr2, hrep], flat_rel (cells_rel hz2) _⟩, Nat.le_refl _, fun i _ h2 => absurd h2 (by omega)⟩
  have hmr : (maxRow : Int) = 200000000000000 := rfl
  refine ⟨.slice (some ⟨w.heap.size, 0, none⟩) ln.toNat cn.toNat, _, _, ?_, ?_, hW⟩
  · simp only [Instr.makeSlice, Sem.run_bind, run_underlying ht, Result.andThen_ok, asInt, asIntOf, Sem.run_pure, run_info hi, hwl, hwc]
    rw [if_neg (by simp; omega)]
    simp only [Sem.run_bind, run_askRoom, Result.andThen_ok, hsize]
    rcases hzr1 with ⟨h0, rfl⟩ | ⟨h0, rfl⟩
    · rw [if_pos h0]
      simp only [Sem.run_bind, Sem.run_pure, Result.andThen_ok, newRow, run_newObj, World.alloc_eq]
    · rw [if_neg h0]
      simp only [Sem.run_bind, Sem.run_pure, hz1, Result.andThen_ok, newRow, run_newObj, World.alloc_eq]
  · by_cases he : ln = cn
    · subst he
      simp only [BEq.rfl, if_true]
      exact .inl ⟨_, Mu.put_at _ _ _ _, rfl, Nat.le_refl _⟩
    · rw [if_neg (by simpa using he)]
      exact ⟨_, 0, cn.toNat, Mu.put_at _ _ _ _, rfl, by omega, by unfold maxLen; omega, .inl ⟨rfl, by simp [hzl]⟩⟩

end
end Go.Det
