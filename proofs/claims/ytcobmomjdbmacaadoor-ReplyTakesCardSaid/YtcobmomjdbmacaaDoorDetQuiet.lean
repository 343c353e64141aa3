/- Operations that are no acts: what touches no memory, what makes some, what reads some. -/
import Derived.Test.YtcobmomjdbmacaaDoorDetCode
set_option linter.unusedVariables false
set_option linter.unusedSimpArgs false
set_option linter.unusedSectionVars false
namespace Go.Det
open Go.RowKit

theorem pure_any {X : IOp} (hX : isPure X = true) {ρA : IX → AV} {h h' : H} {v : AV} (hi : iop X ρA h = some (.val v h')) : h' = h ∧ ∀ h2, iop X ρA h2 = some (.val v h2) := by
  cases X <;> simp only [isPure, Bool.false_eq_true] at hX
  all_goals
    simp only [iop] at hi ⊢
    repeat' split at hi
    all_goals first
      | (simp at hi; done)
      | (simp only [Option.some.injEq, Ans.val.injEq] at hi; obtain ⟨rfl, rfl⟩ := hi; refine ⟨rfl, fun h2 => ?_⟩; simp_all; done)
      | (simp only [Option.some.injEq, Ans.val.injEq] at hi; obtain ⟨rfl, rfl⟩ := hi; refine ⟨rfl, fun h2 => ?_⟩; simp_all; omega)
      | (simp only [Option.map_eq_some_iff, Ans.val.injEq] at hi; obtain ⟨x, h1, rfl, rfl⟩ := hi; refine ⟨rfl, fun h2 => ?_⟩; simp_all; done)

theorem rd_same {X r : IOp} {ts : List AV} (hr : rdOp (ev ts) X = some r) (h : H) : iop r (ev []) h = iop X (ev ts) h := by
  cases X <;> simp only [rdOp, Option.some.injEq, reduceCtorEq] at hr <;> subst hr <;> rfl

theorem rd_some {X : IOp} (hX : isRd X = true) (ts : List AV) : ∃ r, rdOp (ev ts) X = some r := by
  cases X <;> simp only [isRd, Bool.false_eq_true] at hX <;> exact ⟨_, rfl⟩

theorem rd_still {X : IOp} (hX : isRd X = true) {ρA : IX → AV} {h h' : H} {v : AV} (hi : iop X ρA h = some (.val v h')) : h' = h := by
  cases X <;> simp only [isRd, Bool.false_eq_true] at hX
  all_goals
    simp only [iop] at hi
    repeat' split at hi
    all_goals first
      | (simp at hi; done)
      | (simp only [Option.some.injEq, Ans.val.injEq] at hi; exact hi.2.symm)
      | (simp only [Option.map_eq_some_iff, Ans.val.injEq] at hi; obtain ⟨x, h1, rfl, rfl⟩ := hi; rfl)

mutual
theorem same_eq : ∀ (a b : AV), AV.same a b = true → a = b
  | .bool a, b, h => by cases b <;> simp_all [AV.same]
  | .int k a, b, h => by cases b <;> simp_all [AV.same]
  | .str a, b, h => by cases b <;> simp_all [AV.same]
  | .nilp, b, h => by cases b <;> simp_all [AV.same]
  | .ptr a, b, h => by cases b <;> simp_all [AV.same]
  | .nils, b, h => by cases b <;> simp_all [AV.same]
  | .sl a n c, b, h => by cases b <;> simp_all [AV.same]
  | .nilm, b, h => by cases b <;> simp_all [AV.same]
  | .map a, b, h => by cases b <;> simp_all [AV.same]
  | .nilf, b, h => by cases b <;> simp_all [AV.same]
  | .fn f a b, c, h => by
    cases c <;> simp only [AV.same, Bool.and_eq_true, Bool.false_eq_true, beq_iff_eq] at h
    obtain ⟨⟨rfl, h1⟩, h2⟩ := h
    rw [sames_eq a _ h1, sames_eq b _ h2]
  | .nili, b, h => by cases b <;> simp_all [AV.same]
  | .ifc t a, c, h => by
    cases c <;> simp only [AV.same, Bool.and_eq_true, Bool.false_eq_true, beq_iff_eq] at h
    obtain ⟨rfl, h1⟩ := h
    rw [same_eq a _ h1]
  | .agg a, c, h => by
    cases c <;> simp only [AV.same, Bool.false_eq_true] at h
    rw [sames_eq a _ h]
  | .tup a, c, h => by
    cases c <;> simp only [AV.same, Bool.false_eq_true] at h
    rw [sames_eq a _ h]
  | .any, c, h => by
    cases c <;> simp only [AV.same, Bool.false_eq_true] at h
    rfl
theorem sames_eq : ∀ (a b : List AV), sames a b = true → a = b
  | [], b, h => by cases b <;> simp_all [sames]
  | a :: x, b, h => by
    cases b with
    | nil => simp [sames] at h
    | cons c y =>
      simp only [sames, Bool.and_eq_true] at h
      rw [same_eq a c h.1, sames_eq x y h.2]
end

mutual
theorem same_refl : ∀ (a : AV), AV.same a a = true
  | .bool a => by simp [AV.same]
  | .int k a => by simp [AV.same]
  | .str a => by simp [AV.same]
  | .nilp => rfl
  | .ptr a => by simp [AV.same]
  | .nils => rfl
  | .sl a n c => by simp [AV.same]
  | .nilm => rfl
  | .map a => by simp [AV.same]
  | .nilf => rfl
  | .fn f a b => by simp [AV.same, sames_refl a, sames_refl b]
  | .nili => rfl
  | .ifc t a => by simp [AV.same, same_refl a]
  | .agg a => by simp [AV.same, sames_refl a]
  | .tup a => by simp [AV.same, sames_refl a]
  | .any => rfl
theorem sames_refl : ∀ (a : List AV), sames a a = true
  | [] => rfl
  | a :: x => by simp [sames, same_refl a, sames_refl x]
end

theorem reads_spec {X r : IOp} (hX : isRd X = true) {ts : List AV} (hr : rdOp (ev ts) X = some r) {v : AV} {h : H} (hh : readsAs r v h = true) : iop X (ev ts) h = some (.val v h) := by
  unfold readsAs at hh
  split at hh
  · rename_i u h' hi
    have := same_eq _ _ hh
    subst this
    rw [rd_same hr] at hi
    rw [hi, rd_still hX hi]
  · simp at hh

section
variable {P : Program} {μ : Mu} {w0 : World} {ng : Nat} {h : H} {w : World}

/-- An operation that makes a block: whatever place the block gets. -/
def Al (P : Program) (μ : Mu) (w : World) (s : Sem Value) (B : Blk) (V : Nat → AV) : Prop :=
  B.gen = 0 ∧ B.ro = false ∧ ∃ v' w' o n, s.run P w = .ok v' w' ∧ Chg w w' w.heap.size o ∧ w'.heap.size = w.heap.size + 1 ∧ ORel μ n B o ∧ ∀ (μ' : Mu) b, μ.le μ' → μ' b 0 = some ⟨w.heap.size, n⟩ → VRel μ' (V b) v'

theorem chg1 (w : World) (o : Obj) : Chg w (w.alloc o) w.heap.size o ∧ (w.alloc o).heap.size = w.heap.size + 1 := ⟨Chg.alloc w o, by simp⟩

theorem row_al (P : Program) (μ : Mu) (w : World) (e : TypeId) {cs : List AV} {vs : Array Value} (hc : VRels μ cs vs.toList) :
    ORel μ vs.size (.cells 0 e cs 0 false) (.cells vs e) := ⟨vs, 0, 0, rfl, rfl, ⟨vs.toList, [], by simp, hc⟩, Nat.le_refl _, fun i _ h2 => absurd h2 (by omega)⟩

theorem box_al (e : TypeId) {a : AV} {v : Value} (hv : VRel μ a v) : Al P μ w (Instr.box e v) (.cells 0 e a.cells 0 false) (fun b => .ptr ⟨b, 0, 0⟩) :=
  ⟨rfl, rfl, .pointer (some ⟨w.heap.size, 0, none⟩), w.alloc (.cells v.cells e), _, _, by simp [Instr.box, newVar, newRow], (chg1 w _).1, (chg1 w _).2, row_al P μ w e (cells_rel hv), fun μ' b _ hb => ⟨_, hb, rfl⟩⟩

theorem alloc_al {e : TypeId} {z : AV} (hz : zeroT P e = some z) : Al P μ w (Instr.alloc e true (.tuple #[])) (.cells 0 e z.cells 0 false) (fun b => .ptr ⟨b, 0, 0⟩) := by
  obtain ⟨v, hv, hr⟩ := zeroT_rel (P := P) (μ := μ) (w := w) hz
  exact ⟨rfl, rfl, .pointer (some ⟨w.heap.size, 0, none⟩), w.alloc (.cells v.cells e), _, _, by simp [Instr.alloc, hv, newVar, newRow], (chg1 w _).1, (chg1 w _).2, row_al P μ w e (cells_rel hr), fun μ' b _ hb => ⟨_, hb, rfl⟩⟩

theorem iter_al {t : TypeId} (ht : P.underlying t = some .string) {s : List UInt8} {x : Value} (hx : VRel μ (.str s) x) : Al P μ w (Instr.range t x) (.iter s 0) (fun b => .ptr ⟨b, 0, 0⟩) := by
  cases hx
  exact ⟨rfl, rfl, .pointer (some ⟨w.heap.size, 0, none⟩), w.alloc (.stringIter ⟨s.toArray⟩ 0), _, 0, by simp [Instr.range, run_underlying ht], (chg1 w _).1, (chg1 w _).2, rfl, fun μ' b _ hb => ⟨_, hb, rfl⟩⟩

theorem map_al (t : TypeId) : Al P μ w (Instr.makeMap t none) (.map [] 0) (fun b => .map b) :=
  ⟨rfl, rfl, .map (some w.heap.size), w.alloc (.map #[] 0), _, 0, by simp [Instr.makeMap], (chg1 w _).1, (chg1 w _).2, ⟨#[], rfl, rfl⟩, fun μ' b _ hb => ⟨_, hb, rfl⟩⟩

theorem cvSB_al {src dst e : TypeId} (hs : P.underlying src = some .string) (hd : P.underlying dst = some (.slice e)) (he : P.underlying e = some (.int .u8))
    {s : List UInt8} (hl : s.length ≤ maxRow) {x : Value} (hx : VRel μ (.str s) x) : Al P μ w (convert src dst x) (.cells 0 e (bytesAV s) 0 false) (fun b => .sl ⟨b, 0, 0⟩ s.length (.op 1)) := by
  cases hx
  have hl' : s.length ≤ maxLen := by unfold maxRow at hl; unfold maxLen; omega
  have hg1 := grownCap_ge w s.length 0 e
  have hg2 := grownCap_le_maxLen w s.length 0 e hl'
  obtain ⟨k, hk⟩ : ∃ k, k = grownCap w s.length 0 e := ⟨_, rfl⟩
  rw [← hk] at hg1 hg2
  let arr : Array Value := (s.map fun b => Value.int .u8 b.toNat).toArray ++ Array.replicate (k - s.length) (.int .u8 0)
  have hsz : arr.size = k := by simp [arr]; omega
  have hch : Chg w ((w.drew.alloc (.cells arr e)).freeze ⟨w.heap.size, arr.size, none⟩ 1) w.heap.size (.cells arr e (arr.size, arr.size + 1)) := (frozen_new w.drew arr e).drew w rfl rfl rfl rfl
  refine ⟨rfl, rfl, .slice (some ⟨w.heap.size, 0, none⟩) s.length k, _, _, k, ?_, hch, by simp [World.freeze], ⟨arr, arr.size, arr.size + 1, rfl, hsz, ⟨s.map fun b => Value.int .u8 b.toNat, List.replicate (k - s.length) (.int .u8 0), by simp [arr], bytesAV_rel s⟩, Nat.le_succ _, fun i h1 _ => .inr (by omega)⟩, ?_⟩
  · have hshape : (w.drew.alloc (.cells arr e)).shape? w.heap.size = some (e, arr.size) := by simp only [World.shape?]; rw [show w.heap.size = w.drew.heap.size from rfl, heap_alloc_new]
    simp only [convert, Sem.run_bind, run_underlying hs, run_underlying hd, run_underlying he, Result.andThen_ok, Conv.stringToBytes, run_choose, Question.forced, Bool.false_eq_true, if_false, newRow, run_newObj, Sem.run_pure, markStringish, run_shape, World.alloc_eq, World.drew_eq, World.size_drew]
    have earr : (Array.map (fun b => Value.int IntKind.u8 b.toNat) s.toArray ++ Array.replicate ((Question.appendCap s.length 0 e).cut (w.tape w.drawn (Question.appendCap s.length 0 e)) - s.length) (Value.int IntKind.u8 0)) = arr := by
      simp [arr, hk, grownCap]
    rw [show (⟨s.toArray⟩ : ByteArray).size = s.length from rfl, earr, hshape]
    simp [hk, grownCap]
  · intro μ' b _ hb
    exact ⟨_, 0, k, hb, rfl, hg1, hg2, .inl ⟨rfl, by simp⟩⟩

theorem bsl_al {t e : TypeId} (ht : P.underlying t = some (.slice e)) {s n : Nat} (hs : sizeT P e = some s) {z : AV} (hz : zeroT P e = some z) (hn : n * s ≤ 16777216) (hzl : z.cells.length = s) {ps : Array (Nat × Operand)} {aps : List (Nat × Nat × IX)}
    (hp : partsOf P (fun i => some (i * s, s)) ps.toList = some aps) {ρA : IX → AV} {ρ : Operand → Value} (hρ : ∀ p ∈ ps.toList, ∀ X, ofOpd P p.2 = some X → VRel μ (ρA X) (ρ p.2))
    {cs : List AV} (hf : fillL (List.replicate n z.cells).flatten (aps.map fun p => (p.1, p.2.1, ρA p.2.2)) = some cs) :
    Al P μ w (Instr.buildSlice t n (ps.map fun (i, x) => (i, ρ x))) (.cells 0 e cs 0 false) (fun b => .sl ⟨b, 0, 0⟩ n (.ex n)) := by
  obtain ⟨zv, hz1, hz2⟩ := zeroT_rel (P := P) (μ := μ) (w := w) hz
  have hzs : zv.cells.size = s := by rw [← hzl]; simpa using (cells_rel hz2).length.symm
  obtain ⟨zr, hzr1, hzr2⟩ : ∃ zr : Array Value, ((n * s = 0 ∧ zr = #[]) ∨ (n * s ≠ 0 ∧ zr = zv.cells)) ∧ ((Array.range (n * s)).map fun i => zr[i % zr.size]!).toList = (List.replicate n zv.cells.toList).flatten := by
    by_cases h0 : n * s = 0
    · refine ⟨#[], .inl ⟨h0, rfl⟩, ?_⟩
      rcases Nat.mul_eq_zero.1 h0 with rfl | rfl
      · simp
      · have : zv.cells.toList = [] := by rw [← Array.length_toList] at hzs; exact List.eq_nil_of_length_eq_zero hzs
        simp [this]
    · exact ⟨zv.cells, .inr ⟨h0, rfl⟩, zero_row hzs⟩
  obtain ⟨cs', h1, h2⟩ := fill_rel _ _ hρ hp _ _ ((Array.range (n * s)).map fun i => zr[i % zr.size]!) (by rw [hzr2]; exact flat_rel (cells_rel hz2) n) hf
  refine ⟨rfl, rfl, .slice (some ⟨w.heap.size, 0, none⟩) n n, w.alloc (.cells cs' e), _, _, ?_, (chg1 w _).1, (chg1 w _).2, row_al P μ w e h2, fun μ' b _ hb => .inl ⟨_, hb, rfl, Nat.le_refl _⟩⟩
  have : (ps.map fun (i, x) => (i, ρ x)).toList = ps.toList.map fun p => (p.1, ρ p.2) := by simp
  simp only [Instr.buildSlice, Sem.run_bind, run_underlying ht, Result.andThen_ok, run_size hs]
  rw [if_neg (by omega)]
  rcases hzr1 with ⟨h0, rfl⟩ | ⟨h0, rfl⟩
  · rw [if_pos h0]
    simp only [Sem.run_bind, Sem.run_pure, Result.andThen_ok, this, h1, newRow, run_newObj, World.alloc_eq]
  · rw [if_neg h0]
    simp only [Sem.run_bind, Sem.run_pure, hz1, Result.andThen_ok, this, h1, newRow, run_newObj, World.alloc_eq]

theorem mkS_al {t e : TypeId} (ht : P.underlying t = some (.slice e)) {i : TypeInfo} (hi : P.info? e = some i) {z : AV} (hz : zeroT P e = some z) (hzl : z.cells.length = i.size) (hz0 : 0 < i.size)
    {l c : AV} {ln cn : Int} (hl : asI l = some ln) (hc : asI c = some cn) (h0 : 0 ≤ ln) (h1 : ln ≤ cn) (h2 : i.bytes * cn ≤ maxRow) (h3 : cn ≤ 9223372036854775807) {l' c' : Value} (hl' : VRel μ l l') (hc' : VRel μ c c') :
    Al P μ w (Instr.makeSlice t l' c') (.cells 0 e ((List.replicate ln.toNat z.cells).flatten) 0 false) (fun b => .sl ⟨b, 0, 0⟩ ln.toNat (if ln == cn then .ex ln.toNat else .op z.cells.length)) := by
  obtain ⟨kl, rfl⟩ := asI_rel hl hl'
  obtain ⟨kc, rfl⟩ := asI_rel hc hc'
  obtain ⟨zv, hz1, hz2⟩ := zeroT_rel (P := P) (μ := μ) (w := w) hz
  have hzs : zv.cells.size = i.size := by rw [← hzl]; simpa using (cells_rel hz2).length.symm
  have hwl : IntKind.i64.wrap ln = ln := IntWalk.i64_in _ (by omega)
  have hwc : IntKind.i64.wrap cn = cn := IntWalk.i64_in _ (by omega)
  have hsize : (sizeOf e).run P w = .ok i.size w := by simp [sizeOf, run_info hi]
  obtain ⟨zr, hzr1, hzr2⟩ : ∃ zr : Array Value, ((cn.toNat * i.size = 0 ∧ zr = #[]) ∨ (cn.toNat * i.size ≠ 0 ∧ zr = zv.cells)) ∧ ((Array.range (cn.toNat * i.size)).map fun i => zr[i % zr.size]!).toList = (List.replicate cn.toNat zv.cells.toList).flatten := by
    by_cases h0 : cn.toNat * i.size = 0
    · refine ⟨#[], .inl ⟨h0, rfl⟩, ?_⟩
      have : cn.toNat = 0 := by rcases Nat.mul_eq_zero.1 h0 with h | h <;> omega
      simp [this]
    · exact ⟨zv.cells, .inr ⟨h0, rfl⟩, zero_row hzs⟩
  have hrep : (List.replicate cn.toNat zv.cells.toList).flatten = (List.replicate ln.toNat zv.cells.toList).flatten ++ (List.replicate (cn.toNat - ln.toNat) zv.cells.toList).flatten := by
    rw [← List.flatten_append, List.replicate_append_replicate]; congr 2; omega
  have hszr : ((Array.range (cn.toNat * i.size)).map fun i => zr[i % zr.size]!).size = cn.toNat * i.size := by simp
  have hmr : (maxRow : Int) = 200000000000000 := rfl
  refine ⟨rfl, rfl, .slice (some ⟨w.heap.size, 0, none⟩) ln.toNat cn.toNat, w.alloc (.cells ((Array.range (cn.toNat * i.size)).map fun i => zr[i % zr.size]!) e), _, cn.toNat * i.size, ?_, (chg1 w _).1, (chg1 w _).2,
    ⟨_, 0, 0, rfl, hszr, ⟨(List.replicate ln.toNat zv.cells.toList).flatten, (List.replicate (cn.toNat - ln.toNat) zv.cells.toList).flatten, by rw [hzr2, hrep], flat_rel (cells_rel hz2) _⟩, Nat.le_refl _, fun i _ h2 => absurd h2 (by omega)⟩, ?_⟩
  · simp only [Instr.makeSlice, Sem.run_bind, run_underlying ht, Result.andThen_ok, asInt, asIntOf, Sem.run_pure, run_info hi, hwl, hwc]
    rw [if_neg (by simp; omega)]
    simp only [Sem.run_bind, run_askRoom, Result.andThen_ok, hsize]
    rcases hzr1 with ⟨h0, rfl⟩ | ⟨h0, rfl⟩
    · rw [if_pos h0]
      simp only [Sem.run_bind, Sem.run_pure, Result.andThen_ok, newRow, run_newObj, World.alloc_eq]
    · rw [if_neg h0]
      simp only [Sem.run_bind, Sem.run_pure, hz1, Result.andThen_ok, newRow, run_newObj, World.alloc_eq]
  · intro μ' b _ hb
    by_cases he : ln = cn
    · subst he
      simp only [BEq.rfl, if_true]
      exact .inl ⟨_, hb, rfl, Nat.le_refl _⟩
    · rw [if_neg (by simpa using he)]
      exact ⟨_, 0, cn.toNat, hb, rfl, by omega, by unfold maxLen; omega, .inl ⟨rfl, by simp [hzl]⟩⟩

/-- What makes a block, as the machine has it. -/
theorem al_sound {op : Op} {ty : TypeId} {X : IOp} (hc : compOp P op ty = some X) (hX : isAl X = true) {ts : List AV} {h' : H} {v : AV} (hi : iop X (ev ts) h = some (.val v h')) (dst : Option Tmp) (pos : String) (after : Array Edge) (guard : Option (Nat × Bool)) :
    ∃ B V, h' = h.new B ∧ v = V h.n ∧ ∀ (μ : Mu) (w : World) (ρ : Operand → Value), (∀ x ∈ op.operands, ∀ X, ofOpd P x = some X → VRel μ (ev ts X) (ρ x)) → ∃ s : Sem Value, execOp ρ ⟨dst, op, ty, pos, after, guard⟩ = (do pure (.value (← s))) ∧ Al P μ w s B V := by
  cases op with
  | alloc e =>
    simp only [compOp, Option.map_eq_some_iff] at hc
    obtain ⟨z, hz, rfl⟩ := hc
    simp only [iop] at hi
    split at hi
    · simp only [Option.some.injEq, Ans.val.injEq] at hi
      obtain ⟨rfl, rfl⟩ := hi
      exact ⟨_, fun b => .ptr ⟨b, 0, 0⟩, rfl, rfl, fun μ w ρ hρ => ⟨_, rfl, alloc_al hz⟩⟩
    · simp at hi
  | box e x =>
    simp only [compOp, Option.bind_eq_some_iff, Option.some.injEq] at hc
    obtain ⟨x', hx, rfl⟩ := hc
    simp only [iop] at hi
    split at hi
    · simp only [Option.some.injEq, Ans.val.injEq] at hi
      obtain ⟨rfl, rfl⟩ := hi
      exact ⟨_, fun b => .ptr ⟨b, 0, 0⟩, rfl, rfl, fun μ w ρ hρ => ⟨_, rfl, box_al e (hρ _ (by simp [Op.operands]) _ hx)⟩⟩
    · simp at hi
  | buildSlice t n ps =>
    simp only [compOp] at hc
    split at hc
    · rename_i e ht
      split at hc
      · rename_i s z hs hz
        split at hc
        · rename_i hcond
          simp only [Bool.and_eq_true, decide_eq_true_eq, beq_iff_eq] at hcond
          obtain ⟨aps, hp, rfl⟩ := Option.map_eq_some_iff.1 hc
          simp only [iop] at hi
          split at hi
          · rename_i cs hf
            split at hi
            · simp only [Option.some.injEq, Ans.val.injEq] at hi
              obtain ⟨rfl, rfl⟩ := hi
              exact ⟨_, fun b => .sl ⟨b, 0, 0⟩ n (.ex n), rfl, rfl, fun μ w ρ hρ => ⟨_, rfl, bsl_al ht hs hz hcond.1 hcond.2 hp (fun p hp => hρ _ (mem_parts (t := 0) hp)) hf⟩⟩
            · simp at hi
          · simp at hi
        · simp at hc
      · simp at hc
    · simp at hc
  | makeSlice t l c =>
    simp only [compOp] at hc
    split at hc
    · rename_i e ht
      split at hc
      · rename_i i z hinfo hz
        split at hc
        · rename_i hcond
          simp only [Bool.and_eq_true, decide_eq_true_eq, beq_iff_eq] at hcond
          simp only [Option.bind_eq_some_iff, Option.some.injEq] at hc
          obtain ⟨l', hl, c', hc', rfl⟩ := hc
          simp only [iop] at hi
          split at hi
          · rename_i ln cn h1 h2
            split at hi
            · rename_i hb
              simp only [Bool.and_eq_true, decide_eq_true_eq] at hb
              obtain ⟨⟨⟨hb1, hb2⟩, hb3⟩, hb4⟩ := hb
              simp only [Option.some.injEq, Ans.val.injEq] at hi
              obtain ⟨rfl, rfl⟩ := hi
              exact ⟨_, fun b => .sl ⟨b, 0, 0⟩ ln.toNat (if ln == cn then .ex ln.toNat else .op z.cells.length), rfl, rfl, fun μ w ρ hρ => ⟨_, rfl, mkS_al ht hinfo hz hcond.1 hcond.2 h1 h2 hb1 hb2 hb3 hb4 (hρ _ (by simp [Op.operands]) _ hl) (hρ _ (by simp [Op.operands]) _ hc')⟩⟩
            · simp at hi
          · simp at hi
        · simp at hc
      · simp at hc
    · simp at hc
  | makeMap t r =>
    cases r with
    | some r => simp [compOp] at hc
    | none =>
      simp only [compOp, Option.some.injEq] at hc
      subst hc
      simp only [iop, Option.some.injEq, Ans.val.injEq] at hi
      obtain ⟨rfl, rfl⟩ := hi
      exact ⟨_, fun b => .map b, rfl, rfl, fun μ w ρ hρ => ⟨_, rfl, map_al t⟩⟩
  | range t x =>
    simp only [compOp] at hc
    split at hc
    · rename_i ht
      simp only [Option.bind_eq_some_iff, Option.some.injEq] at hc
      obtain ⟨x', hx, rfl⟩ := hc
      simp only [iop] at hi
      split at hi
      · rename_i s he
        simp only [Option.some.injEq, Ans.val.injEq] at hi
        obtain ⟨rfl, rfl⟩ := hi
        exact ⟨_, fun b => .ptr ⟨b, 0, 0⟩, rfl, rfl, fun μ w ρ hρ => ⟨_, rfl, iter_al ht (by rw [← he]; exact hρ _ (by simp [Op.operands]) _ hx)⟩⟩
      · simp at hi
    · simp at hc
  | convert s d x =>
    simp only [compOp] at hc
    split at hc
    · obtain ⟨_, _, rfl⟩ := Option.map_eq_some_iff.1 (by simpa [Option.bind_eq_some_iff] using hc : (ofOpd P x).map _ = some X); simp [isAl] at hX
    · obtain ⟨_, _, rfl⟩ := Option.map_eq_some_iff.1 (by simpa [Option.bind_eq_some_iff] using hc : (ofOpd P x).map _ = some X); simp [isAl] at hX
    · obtain ⟨_, _, rfl⟩ := Option.map_eq_some_iff.1 (by simpa [Option.bind_eq_some_iff] using hc : (ofOpd P x).map _ = some X); simp [isAl] at hX
    · rename_i e hs hd
      split at hc
      · rename_i he8
        simp only [Option.bind_eq_some_iff, Option.some.injEq] at hc
        obtain ⟨x', hx, rfl⟩ := hc
        simp only [iop] at hi
        split at hi
        · rename_i q he
          split at hi
          · rename_i hl
            simp only [Option.some.injEq, Ans.val.injEq] at hi
            obtain ⟨rfl, rfl⟩ := hi
            exact ⟨_, fun b => .sl ⟨b, 0, 0⟩ q.length (.op 1), rfl, rfl, fun μ w ρ hρ => ⟨_, rfl, cvSB_al hs hd he8 hl (by rw [← he]; exact hρ _ (by simp [Op.operands]) _ hx)⟩⟩
          · simp at hi
        · simp at hi
      · simp at hc
    · split at hc
      · obtain ⟨_, _, rfl⟩ := Option.map_eq_some_iff.1 (by simpa [Option.bind_eq_some_iff] using hc : (ofOpd P x).map _ = some X); simp [isAl] at hX
      · simp at hc
    · split at hc
      · split at hc
        · obtain ⟨_, _, rfl⟩ := Option.map_eq_some_iff.1 (by simpa [Option.bind_eq_some_iff] using hc : (ofOpd P x).map _ = some X); simp [isAl] at hX
        · simp at hc
      · simp at hc
    · simp at hc
  | next x is =>
    exfalso
    cases is with
    | false => simp [compOp] at hc
    | true =>
      simp only [compOp, Option.bind_eq_some_iff, Option.some.injEq] at hc
      obtain ⟨_, _, rfl⟩ := hc
      simp [isAl] at hX
  | _ =>
    exfalso
    cases X <;> simp only [isAl, Bool.false_eq_true] at hX
    all_goals
      simp only [compOp, compCall, extOf] at hc
      repeat' split at hc
      all_goals first | (simp [Option.bind_eq_some_iff] at hc; done) | (rename_i hq; cases hq; done)

end
end Go.Det
