/- Texts of the proof, one behind the other (DetQuiet, DetDraw, DetOrder, DetTake, DetFast, DetRun, DetWp, DetBytes, DetWalk, DetWd, DetDw, DetLaw, DetStart, DetFr, IR, IRE, Wire, Read, Same, Heads, Lays, Spoil, LaysR, RefL, RefR, Reads, ReadsR, Thing). -/
import Derived.Test.YthahfhdibhgboaaM0EntryOwn
import Derived.WideShapes
import Derived.OpenShut
import Derived.ChangeArms
import Derived.ChangeOld
import Derived.SizedLaws
import Derived.Test.YthahfhdibhgboaaProg
import Derived.KernelRfl
/- Operations that are no acts: what touches no memory, what makes some, what reads some. -/
set_option linter.unusedVariables false
set_option linter.unusedSimpArgs false
set_option linter.unusedSectionVars false
namespace Go.Det
open Go.RowKit

theorem pure_any {X : IOp} (hX : isPure X = true) {ρA : IX → AV} {h h' : H} {v : AV} (hi : iop X ρA h = some (.val v h')) : h' = h ∧ ∀ h2, iop X ρA h2 = some (.val v h2) := by
  cases X <;> simp only [isPure, Bool.false_eq_true] at hX
  all_goals
    simp only [iop] at hi ⊢
    repeat' split at hi
    all_goals first
      | (simp at hi; done)
      | (simp only [Option.some.injEq, Ans.val.injEq] at hi; obtain ⟨rfl, rfl⟩ := hi; refine ⟨rfl, fun h2 => ?_⟩; simp_all; done)
      | (simp only [Option.some.injEq, Ans.val.injEq] at hi; obtain ⟨rfl, rfl⟩ := hi; refine ⟨rfl, fun h2 => ?_⟩; simp_all; omega)
      | (simp only [Option.map_eq_some_iff, Ans.val.injEq] at hi; obtain ⟨x, h1, rfl, rfl⟩ := hi; refine ⟨rfl, fun h2 => ?_⟩; simp_all; done)

theorem rd_same {X r : IOp} {ts : List AV} (hr : rdOp (ev ts) X = some r) (h : H) : iop r (ev []) h = iop X (ev ts) h := by
  cases X <;> simp only [rdOp, Option.some.injEq, reduceCtorEq] at hr <;> subst hr <;> rfl

theorem rd_some {X : IOp} (hX : isRd X = true) (ts : List AV) : ∃ r, rdOp (ev ts) X = some r := by
  cases X <;> simp only [isRd, Bool.false_eq_true] at hX <;> exact ⟨_, rfl⟩

theorem rd_still {X : IOp} (hX : isRd X = true) {ρA : IX → AV} {h h' : H} {v : AV} (hi : iop X ρA h = some (.val v h')) : h' = h := by
  cases X <;> simp only [isRd, Bool.false_eq_true] at hX
  all_goals
    simp only [iop] at hi
    repeat' split at hi
    all_goals first
      | (simp at hi; done)
      | (simp only [Option.some.injEq, Ans.val.injEq] at hi; exact hi.2.symm)
      | (simp only [Option.map_eq_some_iff, Ans.val.injEq] at hi; obtain ⟨x, h1, rfl, rfl⟩ := hi; rfl)

mutual
theorem same_eq : ∀ (a b : AV), AV.same a b = true → a = b
  | .bool a, b, h => by cases b <;> simp_all [AV.same]
  | .int k a, b, h => by cases b <;> simp_all [AV.same]
  | .str a, b, h => by cases b <;> simp_all [AV.same]
  | .nilp, b, h => by cases b <;> simp_all [AV.same]
  | .ptr a, b, h => by cases b <;> simp_all [AV.same]
  | .nils, b, h => by cases b <;> simp_all [AV.same]
  | .sl a n c, b, h => by cases b <;> simp_all [AV.same]
  | .nilm, b, h => by cases b <;> simp_all [AV.same]
  | .map a, b, h => by cases b <;> simp_all [AV.same]
  | .nilf, b, h => by cases b <;> simp_all [AV.same]
  | .fn f a b, c, h => by
    cases c <;> simp only [AV.same, Bool.and_eq_true, Bool.false_eq_true, beq_iff_eq] at h
    obtain ⟨⟨rfl, h1⟩, h2⟩ := h
    rw [sames_eq a _ h1, sames_eq b _ h2]
  | .nili, b, h => by cases b <;> simp_all [AV.same]
  | .ifc t a, c, h => by
    cases c <;> simp only [AV.same, Bool.and_eq_true, Bool.false_eq_true, beq_iff_eq] at h
    obtain ⟨rfl, h1⟩ := h
    rw [same_eq a _ h1]
  | .agg a, c, h => by
    cases c <;> simp only [AV.same, Bool.false_eq_true] at h
    rw [sames_eq a _ h]
  | .tup a, c, h => by
    cases c <;> simp only [AV.same, Bool.false_eq_true] at h
    rw [sames_eq a _ h]
theorem sames_eq : ∀ (a b : List AV), sames a b = true → a = b
  | [], b, h => by cases b <;> simp_all [sames]
  | a :: x, b, h => by
    cases b with
    | nil => simp [sames] at h
    | cons c y =>
      simp only [sames, Bool.and_eq_true] at h
      rw [same_eq a c h.1, sames_eq x y h.2]
end

mutual
theorem same_refl : ∀ (a : AV), AV.same a a = true
  | .bool a => by simp [AV.same]
  | .int k a => by simp [AV.same]
  | .str a => by simp [AV.same]
  | .nilp => rfl
  | .ptr a => by simp [AV.same]
  | .nils => rfl
  | .sl a n c => by simp [AV.same]
  | .nilm => rfl
  | .map a => by simp [AV.same]
  | .nilf => rfl
  | .fn f a b => by simp [AV.same, sames_refl a, sames_refl b]
  | .nili => rfl
  | .ifc t a => by simp [AV.same, same_refl a]
  | .agg a => by simp [AV.same, sames_refl a]
  | .tup a => by simp [AV.same, sames_refl a]
theorem sames_refl : ∀ (a : List AV), sames a a = true
  | [] => rfl
  | a :: x => by simp [sames, same_refl a, sames_refl x]
end

theorem reads_spec {X r : IOp} (hX : isRd X = true) {ts : List AV} (hr : rdOp (ev ts) X = some r) {v : AV} {h : H} (hh : readsAs r v h = true) : iop X (ev ts) h = some (.val v h) := by
  unfold readsAs at hh
  split at hh
  · rename_i u h' hi
    have := same_eq _ _ hh
    subst this
    rw [rd_same hr] at hi
    rw [hi, rd_still hX hi]
  · simp at hh

section
variable {P : Program} {μ : Mu} {w0 : World} {ng : Nat} {h : H} {w : World}

/-- An operation that makes a block: whatever place the block gets. -/
def Al (P : Program) (μ : Mu) (w : World) (s : Sem Value) (B : Blk) (V : Nat → AV) : Prop :=
  B.gen = 0 ∧ B.ro = false ∧ ∃ v' w' o n, s.run P w = .ok v' w' ∧ Chg w w' w.heap.size o ∧ w'.heap.size = w.heap.size + 1 ∧ ORel μ n B o ∧ ∀ (μ' : Mu) b, μ.le μ' → μ' b 0 = some ⟨w.heap.size, n⟩ → VRel μ' (V b) v'

theorem chg1 (w : World) (o : Obj) : Chg w (w.alloc o) w.heap.size o ∧ (w.alloc o).heap.size = w.heap.size + 1 := ⟨Chg.alloc w o, by simp⟩

theorem row_al (P : Program) (μ : Mu) (w : World) (e : TypeId) {cs : List AV} {vs : Array Value} (hc : VRels μ cs vs.toList) :
    ORel μ vs.size (.cells 0 e cs 0 false) (.cells vs e) := ⟨vs, 0, 0, rfl, rfl, ⟨vs.toList, [], by simp, hc⟩, Nat.le_refl _, fun i _ h2 => absurd h2 (by omega)⟩

theorem box_al (e : TypeId) {a : AV} {v : Value} (hv : VRel μ a v) : Al P μ w (Instr.box e v) (.cells 0 e a.cells 0 false) (fun b => .ptr ⟨b, 0, 0⟩) :=
  ⟨rfl, rfl, .pointer (some ⟨w.heap.size, 0, none⟩), w.alloc (.cells v.cells e), _, _, by simp [Instr.box, newVar, newRow], (chg1 w _).1, (chg1 w _).2, row_al P μ w e (cells_rel hv), fun μ' b _ hb => ⟨_, hb, rfl⟩⟩

theorem alloc_al {e : TypeId} {z : AV} (hz : zeroT P e = some z) : Al P μ w (Instr.alloc e true (.tuple #[])) (.cells 0 e z.cells 0 false) (fun b => .ptr ⟨b, 0, 0⟩) := by
  obtain ⟨v, hv, hr⟩ := zeroT_rel (P := P) (μ := μ) (w := w) hz
  exact ⟨rfl, rfl, .pointer (some ⟨w.heap.size, 0, none⟩), w.alloc (.cells v.cells e), _, _, by simp [Instr.alloc, hv, newVar, newRow], (chg1 w _).1, (chg1 w _).2, row_al P μ w e (cells_rel hr), fun μ' b _ hb => ⟨_, hb, rfl⟩⟩

theorem iter_al {t : TypeId} (ht : P.underlying t = some .string) {s : List UInt8} {x : Value} (hx : VRel μ (.str s) x) : Al P μ w (Instr.range t x) (.iter s 0) (fun b => .ptr ⟨b, 0, 0⟩) := by
  cases hx
  exact ⟨rfl, rfl, .pointer (some ⟨w.heap.size, 0, none⟩), w.alloc (.stringIter ⟨s.toArray⟩ 0), _, 0, by simp [Instr.range, run_underlying ht], (chg1 w _).1, (chg1 w _).2, rfl, fun μ' b _ hb => ⟨_, hb, rfl⟩⟩

theorem map_al (t : TypeId) : Al P μ w (Instr.makeMap t none) (.map [] 0) (fun b => .map b) :=
  ⟨rfl, rfl, .map (some w.heap.size), w.alloc (.map #[] 0), _, 0, by simp [Instr.makeMap], (chg1 w _).1, (chg1 w _).2, ⟨#[], rfl, rfl⟩, fun μ' b _ hb => ⟨_, hb, rfl⟩⟩

theorem cvSB_al {src dst e : TypeId} (hs : P.underlying src = some .string) (hd : P.underlying dst = some (.slice e)) (he : P.underlying e = some (.int .u8))
    {s : List UInt8} (hl : s.length ≤ maxRow) {x : Value} (hx : VRel μ (.str s) x) : Al P μ w (convert src dst x) (.cells 0 e (bytesAV s) 0 false) (fun b => .sl ⟨b, 0, 0⟩ s.length (.op 1)) := by
  cases hx
  have hl' : s.length ≤ maxLen := by unfold maxRow at hl; unfold maxLen; omega
  have hg1 := grownCap_ge w s.length 0 e
  have hg2 := grownCap_le_maxLen w s.length 0 e hl'
  obtain ⟨k, hk⟩ : ∃ k, k = grownCap w s.length 0 e := ⟨_, rfl⟩
  rw [← hk] at hg1 hg2
  let arr : Array Value := (s.map fun b => Value.int .u8 b.toNat).toArray ++ Array.replicate (k - s.length) (.int .u8 0)
  have hsz : arr.size = k := by simp [arr]; omega
  have hch : Chg w ((w.drew.alloc (.cells arr e)).freeze ⟨w.heap.size, arr.size, none⟩ 1) w.heap.size (.cells arr e (arr.size, arr.size + 1)) := (frozen_new w.drew arr e).drew w rfl rfl rfl rfl
  refine ⟨rfl, rfl, .slice (some ⟨w.heap.size, 0, none⟩) s.length k, _, _, k, ?_, hch, by simp [World.freeze], ⟨arr, arr.size, arr.size + 1, rfl, hsz, ⟨s.map fun b => Value.int .u8 b.toNat, List.replicate (k - s.length) (.int .u8 0), by simp [arr], bytesAV_rel s⟩, Nat.le_succ _, fun i h1 _ => .inr (by omega)⟩, ?_⟩
  · have hshape : (w.drew.alloc (.cells arr e)).shape? w.heap.size = some (e, arr.size) := by simp only [World.shape?]; rw [show w.heap.size = w.drew.heap.size from rfl, heap_alloc_new]
    simp only [convert, Sem.run_bind, run_underlying hs, run_underlying hd, run_underlying he, Result.andThen_ok, Conv.stringToBytes, run_choose, Question.forced, Bool.false_eq_true, if_false, newRow, run_newObj, Sem.run_pure, markStringish, run_shape, World.alloc_eq, World.drew_eq, World.size_drew]
    have earr : (Array.map (fun b => Value.int IntKind.u8 b.toNat) s.toArray ++ Array.replicate ((Question.appendCap s.length 0 e).cut (w.tape w.drawn (Question.appendCap s.length 0 e)) - s.length) (Value.int IntKind.u8 0)) = arr := by
      simp [arr, hk, grownCap]
    rw [show (⟨s.toArray⟩ : ByteArray).size = s.length from rfl, earr, hshape]
    simp [hk, grownCap]
  · intro μ' b _ hb
    exact ⟨_, 0, k, hb, rfl, hg1, hg2, .inl ⟨rfl, by simp⟩⟩

theorem bsl_al {t e : TypeId} (ht : P.underlying t = some (.slice e)) {s n : Nat} (hs : sizeT P e = some s) {z : AV} (hz : zeroT P e = some z) (hn : n * s ≤ 16777216) (hzl : z.cells.length = s) {ps : Array (Nat × Operand)} {aps : List (Nat × Nat × IX)}
    (hp : partsOf P (fun i => some (i * s, s)) ps.toList = some aps) {ρA : IX → AV} {ρ : Operand → Value} (hρ : ∀ p ∈ ps.toList, ∀ X, ofOpd P p.2 = some X → VRel μ (ρA X) (ρ p.2))
    {cs : List AV} (hf : fillL (List.replicate n z.cells).flatten (aps.map fun p => (p.1, p.2.1, ρA p.2.2)) = some cs) :
    Al P μ w (Instr.buildSlice t n (ps.map fun (i, x) => (i, ρ x))) (.cells 0 e cs 0 false) (fun b => .sl ⟨b, 0, 0⟩ n (.ex n)) := by
  obtain ⟨zv, hz1, hz2⟩ := zeroT_rel (P := P) (μ := μ) (w := w) hz
  have hzs : zv.cells.size = s := by rw [← hzl]; simpa using (cells_rel hz2).length.symm
  obtain ⟨zr, hzr1, hzr2⟩ : ∃ zr : Array Value, ((n * s = 0 ∧ zr = #[]) ∨ (n * s ≠ 0 ∧ zr = zv.cells)) ∧ ((Array.range (n * s)).map fun i => zr[i % zr.size]!).toList = (List.replicate n zv.cells.toList).flatten := by
    by_cases h0 : n * s = 0
    · refine ⟨#[], .inl ⟨h0, rfl⟩, ?_⟩
      rcases Nat.mul_eq_zero.1 h0 with rfl | rfl
      · simp
      · have : zv.cells.toList = [] := by rw [← Array.length_toList] at hzs; exact List.eq_nil_of_length_eq_zero hzs
        simp [this]
    · exact ⟨zv.cells, .inr ⟨h0, rfl⟩, zero_row hzs⟩
  obtain ⟨cs', h1, h2⟩ := fill_rel _ _ hρ hp _ _ ((Array.range (n * s)).map fun i => zr[i % zr.size]!) (by rw [hzr2]; exact flat_rel (cells_rel hz2) n) hf
  refine ⟨rfl, rfl, .slice (some ⟨w.heap.size, 0, none⟩) n n, w.alloc (.cells cs' e), _, _, ?_, (chg1 w _).1, (chg1 w _).2, row_al P μ w e h2, fun μ' b _ hb => .inl ⟨_, hb, rfl, Nat.le_refl _⟩⟩
  have : (ps.map fun (i, x) => (i, ρ x)).toList = ps.toList.map fun p => (p.1, ρ p.2) := by simp
  simp only [Instr.buildSlice, Sem.run_bind, run_underlying ht, Result.andThen_ok, run_size hs]
  rw [if_neg (by omega)]
  rcases hzr1 with ⟨h0, rfl⟩ | ⟨h0, rfl⟩
  · rw [if_pos h0]
    simp only [Sem.run_bind, Sem.run_pure, Result.andThen_ok, this, h1, newRow, run_newObj, World.alloc_eq]
  · rw [if_neg h0]
    simp only [Sem.run_bind, Sem.run_pure, hz1, Result.andThen_ok, this, h1, newRow, run_newObj, World.alloc_eq]

theorem mkS_al {t e : TypeId} (ht : P.underlying t = some (.slice e)) {i : TypeInfo} (hi : P.info? e = some i) {z : AV} (hz : zeroT P e = some z) (hzl : z.cells.length = i.size) (hz0 : 0 < i.size)
    {l c : AV} {ln cn : Int} (hl : asI l = some ln) (hc : asI c = some cn) (h0 : 0 ≤ ln) (h1 : ln ≤ cn) (h2 : i.bytes * cn ≤ maxRow) (h3 : cn ≤ 9223372036854775807) {l' c' : Value} (hl' : VRel μ l l') (hc' : VRel μ c c') :
    Al P μ w (Instr.makeSlice t l' c') (.cells 0 e ((List.replicate ln.toNat z.cells).flatten) 0 false) (fun b => .sl ⟨b, 0, 0⟩ ln.toNat (if ln == cn then .ex ln.toNat else .op z.cells.length)) := by
  obtain ⟨kl, rfl⟩ := asI_rel hl hl'
  obtain ⟨kc, rfl⟩ := asI_rel hc hc'
  obtain ⟨zv, hz1, hz2⟩ := zeroT_rel (P := P) (μ := μ) (w := w) hz
  have hzs : zv.cells.size = i.size := by rw [← hzl]; simpa using (cells_rel hz2).length.symm
  have hwl : IntKind.i64.wrap ln = ln := IntWalk.i64_in _ (by omega)
  have hwc : IntKind.i64.wrap cn = cn := IntWalk.i64_in _ (by omega)
  have hsize : (sizeOf e).run P w = .ok i.size w := by simp [sizeOf, run_info hi]
  obtain ⟨zr, hzr1, hzr2⟩ : ∃ zr : Array Value, ((cn.toNat * i.size = 0 ∧ zr = #[]) ∨ (cn.toNat * i.size ≠ 0 ∧ zr = zv.cells)) ∧ ((Array.range (cn.toNat * i.size)).map fun i => zr[i % zr.size]!).toList = (List.replicate cn.toNat zv.cells.toList).flatten := by
    by_cases h0 : cn.toNat * i.size = 0
    · refine ⟨#[], .inl ⟨h0, rfl⟩, ?_⟩
      have : cn.toNat = 0 := by rcases Nat.mul_eq_zero.1 h0 with h | h <;> omega
      simp [this]
    · exact ⟨zv.cells, .inr ⟨h0, rfl⟩, zero_row hzs⟩
  have hrep : (List.replicate cn.toNat zv.cells.toList).flatten = (List.replicate ln.toNat zv.cells.toList).flatten ++ (List.replicate (cn.toNat - ln.toNat) zv.cells.toList).flatten := by
    rw [← List.flatten_append, List.replicate_append_replicate]; congr 2; omega
  have hszr : ((Array.range (cn.toNat * i.size)).map fun i => zr[i % zr.size]!).size = cn.toNat * i.size := by simp
  have hmr : (maxRow : Int) = 200000000000000 := rfl
  refine ⟨rfl, rfl, .slice (some ⟨w.heap.size, 0, none⟩) ln.toNat cn.toNat, w.alloc (.cells ((Array.range (cn.toNat * i.size)).map fun i => zr[i % zr.size]!) e), _, cn.toNat * i.size, ?_, (chg1 w _).1, (chg1 w _).2,
    ⟨_, 0, 0, rfl, hszr, ⟨(List.replicate ln.toNat zv.cells.toList).flatten, (List.replicate (cn.toNat - ln.toNat) zv.cells.toList).flatten, by rw [hzr2, hrep], flat_rel (cells_rel hz2) _⟩, Nat.le_refl _, fun i _ h2 => absurd h2 (by omega)⟩, ?_⟩
  · simp only [Instr.makeSlice, Sem.run_bind, run_underlying ht, Result.andThen_ok, asInt, asIntOf, Sem.run_pure, run_info hi, hwl, hwc]
    rw [if_neg (by simp; omega)]
    simp only [Sem.run_bind, run_askRoom, Result.andThen_ok, hsize]
    rcases hzr1 with ⟨h0, rfl⟩ | ⟨h0, rfl⟩
    · rw [if_pos h0]
      simp only [Sem.run_bind, Sem.run_pure, Result.andThen_ok, newRow, run_newObj, World.alloc_eq]
    · rw [if_neg h0]
      simp only [Sem.run_bind, Sem.run_pure, hz1, Result.andThen_ok, newRow, run_newObj, World.alloc_eq]
  · intro μ' b _ hb
    by_cases he : ln = cn
    · subst he
      simp only [BEq.rfl, if_true]
      exact .inl ⟨_, hb, rfl, Nat.le_refl _⟩
    · rw [if_neg (by simpa using he)]
      exact ⟨_, 0, cn.toNat, hb, rfl, by omega, by unfold maxLen; omega, .inl ⟨rfl, by simp [hzl]⟩⟩

/-- What makes a block, as the machine has it. -/
theorem al_sound {op : Op} {ty : TypeId} {X : IOp} (hc : compOp P op ty = some X) (hX : isAl X = true) {ts : List AV} {h' : H} {v : AV} (hi : iop X (ev ts) h = some (.val v h')) (dst : Option Tmp) (pos : String) (after : Array Edge) (guard : Option (Nat × Bool)) :
    ∃ B V, h' = h.new B ∧ v = V h.n ∧ ∀ (μ : Mu) (w : World) (ρ : Operand → Value), (∀ x ∈ op.operands, ∀ X, ofOpd P x = some X → VRel μ (ev ts X) (ρ x)) → ∃ s : Sem Value, execOp ρ ⟨dst, op, ty, pos, after, guard⟩ = (do pure (.value (← s))) ∧ Al P μ w s B V := by
  cases op with
  | alloc e =>
    simp only [compOp, Option.map_eq_some_iff] at hc
    obtain ⟨z, hz, rfl⟩ := hc
    simp only [iop] at hi
    split at hi
    · simp only [Option.some.injEq, Ans.val.injEq] at hi
      obtain ⟨rfl, rfl⟩ := hi
      exact ⟨_, fun b => .ptr ⟨b, 0, 0⟩, rfl, rfl, fun μ w ρ hρ => ⟨_, rfl, alloc_al hz⟩⟩
    · simp at hi
  | box e x =>
    simp only [compOp, Option.bind_eq_some_iff, Option.some.injEq] at hc
    obtain ⟨x', hx, rfl⟩ := hc
    simp only [iop] at hi
    split at hi
    · simp only [Option.some.injEq, Ans.val.injEq] at hi
      obtain ⟨rfl, rfl⟩ := hi
      exact ⟨_, fun b => .ptr ⟨b, 0, 0⟩, rfl, rfl, fun μ w ρ hρ => ⟨_, rfl, box_al e (hρ _ (by simp [Op.operands]) _ hx)⟩⟩
    · simp at hi
  | buildSlice t n ps =>
    simp only [compOp] at hc
    split at hc
    · rename_i e ht
      split at hc
      · rename_i s z hs hz
        split at hc
        · rename_i hcond
          simp only [Bool.and_eq_true, decide_eq_true_eq, beq_iff_eq] at hcond
          obtain ⟨aps, hp, rfl⟩ := Option.map_eq_some_iff.1 hc
          simp only [iop] at hi
          split at hi
          · rename_i cs hf
            split at hi
            · simp only [Option.some.injEq, Ans.val.injEq] at hi
              obtain ⟨rfl, rfl⟩ := hi
              exact ⟨_, fun b => .sl ⟨b, 0, 0⟩ n (.ex n), rfl, rfl, fun μ w ρ hρ => ⟨_, rfl, bsl_al ht hs hz hcond.1 hcond.2 hp (fun p hp => hρ _ (mem_parts (t := 0) hp)) hf⟩⟩
            · simp at hi
          · simp at hi
        · simp at hc
      · simp at hc
    · simp at hc
  | makeSlice t l c =>
    simp only [compOp] at hc
    split at hc
    · rename_i e ht
      split at hc
      · rename_i i z hinfo hz
        split at hc
        · rename_i hcond
          simp only [Bool.and_eq_true, decide_eq_true_eq, beq_iff_eq] at hcond
          simp only [Option.bind_eq_some_iff, Option.some.injEq] at hc
          obtain ⟨l', hl, c', hc', rfl⟩ := hc
          simp only [iop] at hi
          split at hi
          · rename_i ln cn h1 h2
            split at hi
            · rename_i hb
              simp only [Bool.and_eq_true, decide_eq_true_eq] at hb
              obtain ⟨⟨⟨hb1, hb2⟩, hb3⟩, hb4⟩ := hb
              simp only [Option.some.injEq, Ans.val.injEq] at hi
              obtain ⟨rfl, rfl⟩ := hi
              exact ⟨_, fun b => .sl ⟨b, 0, 0⟩ ln.toNat (if ln == cn then .ex ln.toNat else .op z.cells.length), rfl, rfl, fun μ w ρ hρ => ⟨_, rfl, mkS_al ht hinfo hz hcond.1 hcond.2 h1 h2 hb1 hb2 hb3 hb4 (hρ _ (by simp [Op.operands]) _ hl) (hρ _ (by simp [Op.operands]) _ hc')⟩⟩
            · simp at hi
          · simp at hi
        · simp at hc
      · simp at hc
    · simp at hc
  | makeMap t r =>
    cases r with
    | some r => simp [compOp] at hc
    | none =>
      simp only [compOp, Option.some.injEq] at hc
      subst hc
      simp only [iop, Option.some.injEq, Ans.val.injEq] at hi
      obtain ⟨rfl, rfl⟩ := hi
      exact ⟨_, fun b => .map b, rfl, rfl, fun μ w ρ hρ => ⟨_, rfl, map_al t⟩⟩
  | range t x =>
    simp only [compOp] at hc
    split at hc
    · rename_i ht
      simp only [Option.bind_eq_some_iff, Option.some.injEq] at hc
      obtain ⟨x', hx, rfl⟩ := hc
      simp only [iop] at hi
      split at hi
      · rename_i s he
        simp only [Option.some.injEq, Ans.val.injEq] at hi
        obtain ⟨rfl, rfl⟩ := hi
        exact ⟨_, fun b => .ptr ⟨b, 0, 0⟩, rfl, rfl, fun μ w ρ hρ => ⟨_, rfl, iter_al ht (by rw [← he]; exact hρ _ (by simp [Op.operands]) _ hx)⟩⟩
      · simp at hi
    · simp at hc
  | convert s d x =>
    simp only [compOp] at hc
    split at hc
    · obtain ⟨_, _, rfl⟩ := Option.map_eq_some_iff.1 (by simpa [Option.bind_eq_some_iff] using hc : (ofOpd P x).map _ = some X); simp [isAl] at hX
    · obtain ⟨_, _, rfl⟩ := Option.map_eq_some_iff.1 (by simpa [Option.bind_eq_some_iff] using hc : (ofOpd P x).map _ = some X); simp [isAl] at hX
    · obtain ⟨_, _, rfl⟩ := Option.map_eq_some_iff.1 (by simpa [Option.bind_eq_some_iff] using hc : (ofOpd P x).map _ = some X); simp [isAl] at hX
    · rename_i e hs hd
      split at hc
      · rename_i he8
        simp only [Option.bind_eq_some_iff, Option.some.injEq] at hc
        obtain ⟨x', hx, rfl⟩ := hc
        simp only [iop] at hi
        split at hi
        · rename_i q he
          split at hi
          · rename_i hl
            simp only [Option.some.injEq, Ans.val.injEq] at hi
            obtain ⟨rfl, rfl⟩ := hi
            exact ⟨_, fun b => .sl ⟨b, 0, 0⟩ q.length (.op 1), rfl, rfl, fun μ w ρ hρ => ⟨_, rfl, cvSB_al hs hd he8 hl (by rw [← he]; exact hρ _ (by simp [Op.operands]) _ hx)⟩⟩
          · simp at hi
        · simp at hi
      · simp at hc
    · split at hc
      · obtain ⟨_, _, rfl⟩ := Option.map_eq_some_iff.1 (by simpa [Option.bind_eq_some_iff] using hc : (ofOpd P x).map _ = some X); simp [isAl] at hX
      · simp at hc
    · split at hc
      · split at hc
        · obtain ⟨_, _, rfl⟩ := Option.map_eq_some_iff.1 (by simpa [Option.bind_eq_some_iff] using hc : (ofOpd P x).map _ = some X); simp [isAl] at hX
        · simp at hc
      · simp at hc
    · simp at hc
  | next x is =>
    exfalso
    cases is with
    | false => simp [compOp] at hc
    | true =>
      simp only [compOp, Option.bind_eq_some_iff, Option.some.injEq] at hc
      obtain ⟨_, _, rfl⟩ := hc
      simp [isAl] at hX
  | _ =>
    exfalso
    cases X <;> simp only [isAl, Bool.false_eq_true] at hX
    all_goals
      simp only [compOp, compCall] at hc
      repeat' split at hc
      all_goals first | (simp [Option.bind_eq_some_iff] at hc; done) | (rename_i hq; cases hq; done)

end
end Go.Det

/- A region whose order is drawn: in whatever order the real machine takes its operations, it comes to what the deterministic machine comes to in one order. -/
set_option linter.unusedVariables false
set_option linter.unusedSimpArgs false
set_option linter.unusedSectionVars false
namespace Go.Det
open Go.RowKit

/-! ### The run in one order, place by place -/

def StepD (cf : CallF) (o : DOper) (ts : List AV) (h : H) (pe : Pend) (v : AV) (ts' : List AV) (h' : H) (pe' : Pend) : Prop :=
  ts' = put ts o.dst v ∧ (o.act = true → pe.holds h = true ∧ pe' = pe.filter fun p => !o.mask.testBit p.2.2) ∧
  (wanted o.guard ts = true → oneOp cf o.op ts h = some (v, h')) ∧ (wanted o.guard ts = false → v = .undef ∧ h' = h) ∧
  (o.act = false → pe' = if wanted o.guard ts then pe.add ts o v else pe)

theorem runDraw_trace {cf : CallF} : ∀ (dl : List DOper) (ts : List AV) (h : H) (pe : Pend) (s' : St), runDraw cf dl ts h pe = some s' →
    ∃ (T : Nat → List AV) (Hh : Nat → H) (Pp : Nat → Pend) (V : Nat → AV), T 0 = ts ∧ Hh 0 = h ∧ Pp 0 = pe ∧ (T dl.length, Hh dl.length) = s' ∧ (Pp dl.length).holds (Hh dl.length) = true ∧
      ∀ p o, dl[p]? = some o → StepD cf o (T p) (Hh p) (Pp p) (V p) (T (p + 1)) (Hh (p + 1)) (Pp (p + 1))
  | [], ts, h, pe, s', hr => by
    simp only [runDraw] at hr
    split at hr
    · rename_i hp
      simp only [Option.some.injEq] at hr
      exact ⟨fun _ => ts, fun _ => h, fun _ => pe, fun _ => .undef, rfl, rfl, rfl, hr, hp, by simp⟩
    · simp at hr
  | o :: os, ts, h, pe, s', hr => by
    have key : ∀ (v : AV) (h' : H) (pe' : Pend), runDraw cf os (put ts o.dst v) h' pe' = some s' → StepD cf o ts h pe v (put ts o.dst v) h' pe' → ∃ (T : Nat → List AV) (Hh : Nat → H) (Pp : Nat → Pend) (V : Nat → AV), T 0 = ts ∧ Hh 0 = h ∧ Pp 0 = pe ∧ (T (o :: os).length, Hh (o :: os).length) = s' ∧ (Pp (o :: os).length).holds (Hh (o :: os).length) = true ∧
      ∀ p q, (o :: os)[p]? = some q → StepD cf q (T p) (Hh p) (Pp p) (V p) (T (p + 1)) (Hh (p + 1)) (Pp (p + 1)) := by
      intro v h' pe' hrun hst
      obtain ⟨T, Hh, Pp, V, h1, h2, h3, h4, h5, h6⟩ := runDraw_trace os _ _ _ s' hrun
      refine ⟨fun | 0 => ts | p + 1 => T p, fun | 0 => h | p + 1 => Hh p, fun | 0 => pe | p + 1 => Pp p, fun | 0 => v | p + 1 => V p, rfl, rfl, rfl, h4, h5, ?_⟩
      intro p q hq
      cases p with
      | zero =>
        simp only [List.getElem?_cons_zero, Option.some.injEq] at hq
        subst hq
        simp only [h1, h2, h3]
        exact hst
      | succ p => exact h6 p q (by simpa using hq)
    simp only [runDraw] at hr
    split at hr
    · rename_i hact
      split at hr
      · rename_i hp
        split at hr
        · rename_i hw
          split at hr
          · rename_i v h' ho
            exact key v h' _ hr ⟨rfl, fun _ => ⟨hp, rfl⟩, fun _ => ho, fun e => by simp [hw] at e, fun e => by simp [hact] at e⟩
          · simp at hr
        · rename_i hw
          exact key .undef h _ hr ⟨rfl, fun _ => ⟨hp, rfl⟩, fun e => absurd e hw, fun _ => ⟨rfl, rfl⟩, fun e => by simp [hact] at e⟩
      · simp at hr
    · rename_i hact
      split at hr
      · rename_i hw
        split at hr
        · rename_i v h' ho
          exact key v h' _ hr ⟨rfl, fun e => absurd e hact, fun _ => ho, fun e => by simp [hw] at e, fun _ => by rw [if_pos hw]⟩
        · simp at hr
      · rename_i hw
        exact key .undef h _ hr ⟨rfl, fun e => absurd e hact, fun e => absurd e hw, fun _ => ⟨rfl, rfl⟩, fun _ => by rw [if_neg hw]⟩

/-! ### What the checks say -/

structure Env (P : Program) (ops : Array Oper) (dl : List DOper) : Prop where
  len : dl.length = ops.size
  comp : ∀ (p : Nat) (x : DOper), dl[p]? = some x → ∃ O, ops[x.id]? = some O ∧ compOper P ops O = some x.toIOper ∧ x.act = isAct x.op
  surj : ∀ j, j < ops.size → ∃ (p : Nat) (x : DOper), dl[p]? = some x ∧ x.id = j
  inj : ∀ (p q : Nat) (x y : DOper), dl[p]? = some x → dl[q]? = some y → x.id = y.id → p = q
  slots : ∀ (p q : Nat) (x y : DOper), p ≠ q → dl[p]? = some x → dl[q]? = some y → ∀ d O, x.dst = some d → ops[y.id]? = some O → (y.dst = some d ∨ d ∈ namesOf ops O) → y.mask.testBit x.id = true ∨ x.mask.testBit y.id = true
  topo : ∀ (p q : Nat) (x y : DOper), p ≤ q → dl[p]? = some x → dl[q]? = some y → x.mask.testBit y.id = false
  bar : ∀ (p q : Nat) (x y : DOper), p < q → dl[p]? = some x → dl[q]? = some y → x.act = true → y.mask.testBit x.id = true
  clos : ∀ (D : Nat → Bool), (∀ (j : Nat) (O : Oper), ops[j]? = some O → D j = true → ∀ e ∈ O.after, Region.binds .any e = true → D e.on = true) → ∀ (p : Nat) (x : DOper), dl[p]? = some x → D x.id = true → ∀ A, x.mask.testBit A = true → D A = true
  edge : ∀ (p : Nat) (x : DOper) (O : Oper), dl[p]? = some x → ops[x.id]? = some O → ∀ e ∈ O.after, Region.binds .any e = true → e.on < ops.size ∧ x.mask.testBit e.on = true

theorem maskOf_spec (acc : List Nat) (A : Nat) : ∀ (es : List Edge), (maskOf acc es).testBit A = true ↔ ∃ e ∈ es, Region.binds .any e = true ∧ (A = e.on ∨ (acc.getD e.on 0).testBit A = true) := by
  have key : ∀ (es : List Edge) (s : Nat), (es.foldl (fun s e => if Region.binds .any e then s ||| 2 ^ e.on ||| acc.getD e.on 0 else s) s).testBit A = true ↔ s.testBit A = true ∨ ∃ e ∈ es, Region.binds .any e = true ∧ (A = e.on ∨ (acc.getD e.on 0).testBit A = true) := by
    intro es
    induction es with
    | nil => intro s; simp
    | cons e es ih =>
      intro s
      rw [List.foldl_cons, ih]
      by_cases hb : Region.binds .any e = true
      · rw [if_pos hb, Nat.testBit_or, Nat.testBit_or, Nat.testBit_two_pow]
        simp only [Bool.or_eq_true, decide_eq_true_eq, List.mem_cons]
        constructor
        · rintro (((h | h) | h) | ⟨e', h1, h2⟩)
          · exact .inl h
          · exact .inr ⟨e, .inl rfl, hb, .inl h.symm⟩
          · exact .inr ⟨e, .inl rfl, hb, .inr h⟩
          · exact .inr ⟨e', .inr h1, h2⟩
        · rintro (h | ⟨e', rfl | h1, h2, h3⟩)
          · exact .inl (.inl (.inl h))
          · rcases h3 with h3 | h3
            · exact .inl (.inl (.inr h3.symm))
            · exact .inl (.inr h3)
          · exact .inr ⟨e', h1, h2, h3⟩
      · rw [if_neg hb]
        simp only [List.mem_cons]
        constructor
        · rintro (h | ⟨e', h1, h2⟩)
          · exact .inl h
          · exact .inr ⟨e', .inr h1, h2⟩
        · rintro (h | ⟨e', rfl | h1, h2, h3⟩)
          · exact .inl h
          · exact absurd h2 hb
          · exact .inr ⟨e', h1, h2, h3⟩
  intro es
  have := key es 0
  simpa [maskOf] using this

theorem befL_spec : ∀ (l : List Oper) (acc : List Nat), (∀ (k m : Nat), acc[k]? = some m → (befL l acc)[k]? = some m) ∧
    ∀ (i : Nat) (o : Oper), l[i]? = some o → ∃ acc' : List Nat, acc'.length = acc.length + i ∧ (befL l acc)[acc.length + i]? = some (maskOf acc' o.after.toList) ∧ ∀ (k m : Nat), acc'[k]? = some m → (befL l acc)[k]? = some m
  | [], acc => ⟨fun _ _ h => h, by simp⟩
  | o :: l, acc => by
    obtain ⟨h1, h2⟩ := befL_spec l (acc ++ [maskOf acc o.after.toList])
    simp only [befL]
    have hk : ∀ (k m : Nat), acc[k]? = some m → (befL l (acc ++ [maskOf acc o.after.toList]))[k]? = some m := by
      intro k m hkm
      have hlt := (List.getElem?_eq_some_iff.1 hkm).1
      exact h1 k m (by rw [List.getElem?_append_left hlt]; exact hkm)
    refine ⟨hk, ?_⟩
    intro i q hq
    cases i with
    | zero =>
      simp only [List.getElem?_cons_zero, Option.some.injEq] at hq
      subst hq
      exact ⟨acc, rfl, h1 _ _ (by simp), hk⟩
    | succ i =>
      obtain ⟨acc', h3, h4, h5⟩ := h2 i q (by simpa using hq)
      refine ⟨acc', by simp at h3; omega, ?_, h5⟩
      have : acc.length + (i + 1) = (acc ++ [maskOf acc o.after.toList]).length + i := by simp; omega
      rw [this]
      exact h4

theorem compOpers_spec {P : Program} {ops : Array Oper} : ∀ (lst : List Oper) (l : List IOper), compOpers P ops lst = some l → l.length = lst.length ∧ ∀ (j : Nat) (o : Oper), lst[j]? = some o → ∃ O, l[j]? = some O ∧ compOper P ops o = some O
  | [], l, h => by simp only [compOpers, Option.some.injEq] at h; subst h; exact ⟨rfl, by simp⟩
  | o :: lst, l, h => by
    simp only [compOpers] at h
    split at h
    · rename_i a r h1 h2
      simp only [Option.some.injEq] at h
      subst h
      obtain ⟨h3, h4⟩ := compOpers_spec lst r h2
      refine ⟨by simp [h3], ?_⟩
      intro j q hq
      cases j with
      | zero => simp only [List.getElem?_cons_zero, Option.some.injEq] at hq; subst hq; exact ⟨a, by simp, h1⟩
      | succ j => obtain ⟨O, h5, h6⟩ := h4 j q (by simpa using hq); exact ⟨O, by simpa using h5, h6⟩
    · simp at h

theorem env_of {P : Program} {ops : Array Oper} {dl : List DOper} (hc : compDraw P ops = some dl) : Env P ops dl := by
  unfold compDraw at hc
  split at hc
  · simp at hc
  · rename_i l hl
    simp only [] at hc
    split at hc
    · rename_i hcond
      generalize hord : greedy ((ops.toList.zip l).map fun (o, x) => (0, isAct x.op, directOf o)) ops.size (List.range ops.size) 0 = ord at *
      simp only [Option.some.injEq] at hc
      subst hc
      simp only [Bool.and_eq_true, beq_iff_eq] at hcond
      obtain ⟨⟨⟨⟨hlen, hrng⟩, hcont⟩, hedge⟩, hpairs⟩ := hcond
      obtain ⟨hl1, hl2⟩ := compOpers_spec _ _ hl
      have hspec := (befL_spec ops.toList []).2
      simp only [List.length_nil, Nat.zero_add] at hspec
      generalize befL ops.toList [] = masks at *
      have hget : ∀ (p : Nat) (x : DOper), (ord.map (mkD l masks))[p]? = some x → ∃ j, ord[p]? = some j ∧ j < ops.size ∧ x = mkD l masks j := by
        intro p x h
        rw [List.getElem?_map] at h
        obtain ⟨j, h1, h2⟩ := Option.map_eq_some_iff.1 h
        exact ⟨j, h1, by simpa using List.all_eq_true.1 hrng j (List.mem_of_getElem? h1), h2.symm⟩
      have hop : ∀ (j : Nat), j < ops.size → ∃ o, ops[j]? = some o := fun j hj => ⟨ops[j], by simp [hj]⟩
      have hmask : ∀ (j : Nat) (o : Oper), ops[j]? = some o → ∃ acc' : List Nat, acc'.length = j ∧ masks.getD j 0 = maskOf acc' o.after.toList ∧ ∀ (k m : Nat), acc'[k]? = some m → masks[k]? = some m := by
        intro j o ho
        obtain ⟨acc', h1, h2, h3⟩ := hspec j o (by simpa using ho)
        exact ⟨acc', h1, by rw [List.getD_eq_getElem?_getD, h2]; rfl, h3⟩
      have hpair : ∀ (p q : Nat) (x y : DOper), (ord.map (mkD l masks))[p]? = some x → (ord.map (mkD l masks))[q]? = some y →
          (p = q ∨ x.id ≠ y.id) ∧ (p = q ∨ ∀ d, x.dst = some d → (y.dst = some d ∨ (∀ O, ops[y.id]? = some O → d ∈ namesOf ops O)) → y.mask.testBit x.id = true ∨ x.mask.testBit y.id = true) ∧ (p ≤ q → x.mask.testBit y.id = false) ∧ (p < q → x.act = true → y.mask.testBit x.id = true) := by
        intro p q x y hx hy
        have h1 := List.all_eq_true.1 hpairs (x, p) (List.mem_zipIdx_iff_getElem?.2 hx)
        have h2 := List.all_eq_true.1 h1 (y, q) (List.mem_zipIdx_iff_getElem?.2 hy)
        simp only [Bool.and_eq_true] at h2
        obtain ⟨⟨⟨a1, a2⟩, a3⟩, a4⟩ := h2
        refine ⟨?_, ?_, ?_, ?_⟩
        · simpa using a1
        · simp only [Bool.or_eq_true, beq_iff_eq] at a2
          rcases a2 with a2 | a2
          · exact .inl a2
          · right
            intro d hd hn
            simp only [hd, Bool.or_eq_true, Bool.not_eq_true', Bool.or_eq_false_iff] at a2
            rcases a2 with (⟨b1, b2⟩ | b1) | b1
            · exfalso
              rcases hn with hn | hn
              · simp [hn] at b1
              · split at b2
                · rename_i O hO
                  have := hn O hO
                  simp [this] at b2
                · simp at b2
            · exact .inl b1
            · exact .inr b1
        · intro hle
          simpa [hle] using a3
        · intro hlt hact
          simpa [hlt, hact] using a4
      refine ⟨by simp [hlen], ?_, ?_, ?_, ?_, ?_, ?_, ?_, ?_⟩
      · intro p x hx
        obtain ⟨j, h1, h2, rfl⟩ := hget p x hx
        obtain ⟨o, ho⟩ := hop j h2
        obtain ⟨O, h3, h4⟩ := hl2 j o (by simpa using ho)
        have hO : l.getD j default = O := by rw [List.getD_eq_getElem?_getD, h3]; rfl
        exact ⟨o, ho, by simp only [mkD, hO]; exact h4, rfl⟩
      · intro j hj
        have hm := List.all_eq_true.1 hcont j (by simpa using hj)
        have hm : j ∈ ord := by simpa using hm
        obtain ⟨p, hp⟩ := List.getElem?_of_mem hm
        exact ⟨p, mkD l masks j, by rw [List.getElem?_map, hp]; rfl, rfl⟩
      · intro p q x y hx hy he
        rcases (hpair p q x y hx hy).1 with h | h
        · exact h
        · exact absurd he h
      · intro p q x y hne hx hy d O hd hO hn
        rcases (hpair p q x y hx hy).2.1 with h | h
        · exact absurd h hne
        · refine h d hd ?_
          rcases hn with hn | hn
          · exact .inl hn
          · exact .inr fun O' hO' => by rw [hO] at hO'; cases hO'; exact hn
      · intro p q x y hle hx hy; exact (hpair p q x y hx hy).2.2.1 hle
      · intro p q x y hlt hx hy; exact (hpair p q x y hx hy).2.2.2 hlt
      · intro D hD p x hx hDx A hA
        obtain ⟨j, h1, h2, rfl⟩ := hget p x hx
        have key : ∀ (n j : Nat), j < n → j < ops.size → D j = true → ∀ A, (masks.getD j 0).testBit A = true → D A = true := by
          intro n
          induction n with
          | zero => intro j hj; omega
          | succ n ih =>
            intro j hj hjs hDj A hA
            obtain ⟨o, ho⟩ := hop j hjs
            obtain ⟨acc', g1, g2, g3⟩ := hmask j o ho
            rw [g2] at hA
            obtain ⟨e, he, hb, hA⟩ := (maskOf_spec acc' A _).1 hA
            have hDe := hD j o ho hDj e (Array.mem_def.2 he) hb
            rcases hA with rfl | hA
            · exact hDe
            · cases hk : acc'[e.on]? with
              | none => rw [List.getD_eq_getElem?_getD, hk] at hA; simp at hA
              | some m =>
                have hlt := (List.getElem?_eq_some_iff.1 hk).1
                refine ih e.on (by omega) (by omega) hDe A ?_
                rw [List.getD_eq_getElem?_getD, g3 _ _ hk]
                rw [List.getD_eq_getElem?_getD, hk] at hA
                exact hA
        exact key (j + 1) j (by omega) h2 hDx A hA
      · intro p x O hx hO e he hb
        obtain ⟨j, h1, h2, rfl⟩ := hget p x hx
        have hO' : ops[j]? = some O := hO
        refine ⟨?_, ?_⟩
        · have := List.all_eq_true.1 hedge O (by rw [← Array.mem_def]; exact Array.mem_of_getElem? hO')
          have := Array.all_eq_true_iff_forall_mem.1 this e he
          simpa [hb] using this
        · obtain ⟨acc', g1, g2, g3⟩ := hmask j O hO'
          show (masks.getD j 0).testBit e.on = true
          rw [g2]
          exact (maskOf_spec acc' _ _).2 ⟨e, by simpa using he, hb, .inl rfl⟩
    · simp at hc

end Go.Det

/- A region whose order is drawn, the proof: whatever is taken next, the state stays that of the run in one order. -/
set_option linter.unusedVariables false
set_option linter.unusedSimpArgs false
set_option linter.unusedSectionVars false
namespace Go.Det
open Go.RowKit

theorem WRel.ext {μ : Mu} {w0 : World} {ng : Nat} {h h2 : H} {w : World} (W : WRel μ w0 ng h w) (hn : h.n ≤ h2.n) (hg : ∀ b, b < h.n → h2.get b = h.get b) : WRel μ w0 ng h2 w ∧ Adv μ h w μ h2 w := by
  have back : ∀ b g rb, μ b g = some rb → h2.get b = h.get b := fun b g rb e => hg b (W.dom b g rb e).2.1
  refine ⟨⟨W.base, W.glob, ?_, ?_, ?_⟩, ⟨Mu.le.refl μ, Nat.le_refl _, hn, fun _ _ _ => rfl, fun _ g rb e => .inl ⟨g, rb, e, .inl rfl⟩, fun b hb _ => hg b hb⟩⟩
  · intro b g rb e
    obtain ⟨h1, h2', B, h3, h4⟩ := W.dom b g rb e
    exact ⟨h1, Nat.lt_of_lt_of_le h2' hn, B, by rw [back b g rb e]; exact h3, h4⟩
  · intro b B rb h1 h2'
    exact W.blk b B rb (by rw [← back _ _ _ h2']; exact h1) h2'
  · intro b B rb b' B' rb' h1 h2' h3 h4
    exact W.inj b B rb b' B' rb' (by rw [← back _ _ _ h3]; exact h1) (by rw [← back _ _ _ h4]; exact h2') h3 h4

section
variable {P : Program} {w0 : World} {cf : CallF} {ops : Array Oper} {dl : List DOper} (E : Env P ops dl)
  {T : Nat → List AV} {Hh : Nat → H} {Pp : Nat → Pend} {V : Nat → AV}
  (step : ∀ (p : Nat) (o : DOper), dl[p]? = some o → StepD cf o (T p) (Hh p) (Pp p) (V p) (T (p + 1)) (Hh (p + 1)) (Pp (p + 1)))

theorem comp_of {O : Oper} {o : IOper} (h : compOper P ops O = some o) : compOp P O.op O.type = some o.op ∧ O.dst = o.dst ∧ (O.guard = none → o.guard = none) ∧ ∀ j w, O.guard = some (j, w) → ∃ d, (ops[j]?).bind (·.dst) = some d ∧ o.guard = some (d, w) := by
  unfold compOper at h
  split at h
  · simp at h
  · rename_i X hX
    split at h
    · rename_i hg
      simp only [Option.some.injEq] at h
      subst h
      exact ⟨hX, rfl, fun _ => rfl, fun j w e => by rw [hg] at e; simp at e⟩
    · rename_i j wt hg
      split at h
      · rename_i d hd
        simp only [Option.some.injEq] at h
        subst h
        exact ⟨hX, rfl, fun e => by rw [hg] at e; simp at e, fun j' w' e => by rw [hg] at e; simp only [Option.some.injEq, Prod.mk.injEq] at e; obtain ⟨rfl, rfl⟩ := e; exact ⟨d, hd, rfl⟩⟩
      · simp at h

/-- An operation that is no act answers by itself. -/
theorem quiet_one {X : IOp} (hq : isAct X = false) {ts : List AV} {h h' : H} {v : AV} (ho : oneOp cf X ts h = some (v, h')) : iop X (ev ts) h = some (.val v h') := by
  unfold oneOp at ho
  split at ho
  · rename_i v1 h1 hi
    simp only [Option.some.injEq, Prod.mk.injEq] at ho
    obtain ⟨rfl, rfl⟩ := ho
    exact hi
  · rename_i f args hi
    exfalso
    rcases iop_is_call hi with ⟨as1, rfl, _⟩ | ⟨g, as1, _, _, rfl, _⟩ <;> simp [isAct, isPure, isAl, isRd] at hq
  · simp at ho

include E step in
theorem quiet_step {p : Nat} {x : DOper} (hx : dl[p]? = some x) (hq : x.act = false) : Hh (p + 1) = Hh p ∨ (isAl x.op = true ∧ wanted x.guard (T p) = true ∧ ∃ B, Hh (p + 1) = (Hh p).new B) := by
  obtain ⟨O, hO, hc, hact⟩ := E.comp p x hx
  obtain ⟨s1, s2, s3, s4, s5⟩ := step p x hx
  rw [hact] at hq
  by_cases hw : wanted x.guard (T p) = true
  · have hi := quiet_one hq (s3 hw)
    have hcls : isPure x.op = true ∨ isAl x.op = true ∨ isRd x.op = true := by
      simp only [isAct, Bool.not_eq_false', Bool.or_eq_true] at hq
      rcases hq with (h | h) | h
      · exact .inl h
      · exact .inr (.inl h)
      · exact .inr (.inr h)
    rcases hcls with h | h | h
    · exact .inl (pure_any h hi).1
    · obtain ⟨B, Vb, h1, _⟩ := al_sound (comp_of hc).1 h hi none "" #[] none
      exact .inr ⟨h, hw, B, h1⟩
    · exact .inl (rd_still h hi)
  · exact .inl (s4 (by simpa using hw)).2

include E step in
theorem seg {s e : Nat} (hse : s ≤ e) (hq : ∀ (q : Nat) (x : DOper), s ≤ q → q < e → dl[q]? = some x → x.act = false) (hl : e ≤ dl.length) : (Hh s).n ≤ (Hh e).n ∧ (∀ b, b < (Hh s).n → (Hh e).get b = (Hh s).get b) ∧ ∀ z, z ∈ Pp s → z ∈ Pp e := by
  induction e with
  | zero => have : s = 0 := by omega
            subst this; exact ⟨Nat.le_refl _, fun _ _ => rfl, fun _ h => h⟩
  | succ e ih =>
    by_cases hs : s = e + 1
    · subst hs; exact ⟨Nat.le_refl _, fun _ _ => rfl, fun _ h => h⟩
    · obtain ⟨h1, h2, h3⟩ := ih (by omega) (fun q x a b c => hq q x a (by omega) c) (by omega)
      have hx : dl[e]? = some dl[e] := by simp
      have hact := hq e _ (by omega) (by omega) hx
      obtain ⟨s1, s2, s3, s4, s5⟩ := step e _ hx
      have hpend : ∀ z, z ∈ Pp s → z ∈ Pp (e + 1) := by
        intro z hz
        rw [s5 hact]
        split
        · unfold Pend.add; split
          · exact List.mem_cons_of_mem _ (h3 z hz)
          · exact h3 z hz
        · exact h3 z hz
      rcases quiet_step E step hx hact with he | ⟨_, _, B, he⟩
      · rw [he]; exact ⟨h1, h2, hpend⟩
      · rw [he]
        exact ⟨by simp; omega, fun b hb => by rw [(Hh e).get_new_ne b B (by omega)]; exact h2 b hb, hpend⟩

theorem next_act (dl : List DOper) (s : Nat) (hs : s ≤ dl.length) : ∃ c, s ≤ c ∧ c ≤ dl.length ∧ (c = dl.length ∨ ∃ x, dl[c]? = some x ∧ x.act = true) ∧ ∀ (q : Nat) (x : DOper), s ≤ q → q < c → dl[q]? = some x → x.act = false := by
  obtain ⟨k, hk⟩ : ∃ k, k = dl.length - s := ⟨_, rfl⟩
  induction k generalizing s with
  | zero => exact ⟨s, Nat.le_refl _, hs, .inl (by omega), fun q x a b => by omega⟩
  | succ k ih =>
    have hx : dl[s]? = some dl[s] := by simp
    cases ha : dl[s].act with
    | true => exact ⟨s, Nat.le_refl _, hs, .inr ⟨_, hx, ha⟩, fun q x a b => by omega⟩
    | false =>
      obtain ⟨c, h1, h2, h3, h4⟩ := ih (s + 1) (by omega) (by omega)
      refine ⟨c, by omega, h2, h3, ?_⟩
      intro q x a b hq
      by_cases e : q = s
      · subst e; rw [hx] at hq; cases hq; exact ha
      · exact h4 q x (by omega) b hq

/-! ### The slots -/

/-- A slot's value, when just the operations of D have been taken. -/
def vD (dl : List DOper) (V : Nat → AV) (ts0 : List AV) (D : Nat → Bool) : Nat → Nat → Option AV
  | 0, t => getL ts0 t
  | q + 1, t => match dl[q]? with
    | some x => if D x.id = true ∧ x.dst = some t ∧ t < ts0.length then some (V q) else vD dl V ts0 D q t
    | none => vD dl V ts0 D q t

theorem getL_setL {α : Type} : ∀ (l : List α) (i : Nat) (v : α) (t : Nat), getL (setL l i v) t = if t = i ∧ t < l.length then some v else getL l t
  | [], i, v, t => by simp [setL, getL]
  | x :: l, 0, v, 0 => by simp [setL, getL]
  | x :: l, 0, v, t + 1 => by simp [setL, getL]
  | x :: l, i + 1, v, 0 => by simp [setL, getL]
  | x :: l, i + 1, v, t + 1 => by simp [setL, getL, getL_setL l i v t]

theorem length_setL {α : Type} : ∀ (l : List α) (i : Nat) (v : α), (setL l i v).length = l.length
  | [], _, _ => rfl
  | _ :: _, 0, _ => rfl
  | _ :: l, i + 1, v => by simp [setL, length_setL l i v]

include step in
theorem T_len {n0 : Nat} (h0 : (T 0).length = n0) : ∀ p, p ≤ dl.length → (T p).length = n0
  | 0, _ => h0
  | p + 1, hp => by
    have hx : dl[p]? = some dl[p] := by simp
    rw [(step p _ hx).1]
    unfold Det.put
    split
    · exact T_len h0 p (by omega)
    · rw [length_setL]; exact T_len h0 p (by omega)

include step in
theorem T_is : ∀ p, p ≤ dl.length → ∀ t, getL (T p) t = vD dl V (T 0) (fun _ => true) p t
  | 0, _, t => rfl
  | p + 1, hp, t => by
    have hx : dl[p]? = some dl[p] := by simp
    have ih := T_is p (by omega) t
    have hlen := T_len (dl := dl) (T := T) step rfl p (by omega)
    rw [(step p _ hx).1]
    simp only [vD, hx, true_and]
    unfold Det.put
    cases hd : dl[p].dst with
    | none => simp [ih]
    | some d =>
      simp only [getL_setL, hlen, ih, Option.some.injEq]
      by_cases e : t = d
      · subst e; by_cases hl : t < (T 0).length <;> simp [hl]
      · simp [e, Ne.symm e]

/-- Until p: where all that write the slot have been taken. -/
theorem vD_all {ts0 : List AV} {D : Nat → Bool} {t : Nat} : ∀ q, (∀ (q' : Nat) (x : DOper), q' < q → dl[q']? = some x → x.dst = some t → D x.id = true) → vD dl V ts0 D q t = vD dl V ts0 (fun _ => true) q t
  | 0, _ => rfl
  | q + 1, h => by
    have ih := vD_all (ts0 := ts0) q (fun q' x a b c => h q' x (by omega) b c)
    simp only [vD]
    split
    · rename_i x hx
      by_cases hd : x.dst = some t
      · simp [h q x (by omega) hx hd, hd, ih]
      · simp [hd, ih]
    · exact ih

/-- Between: where none that writes the slot has been taken. -/
theorem vD_none {ts0 : List AV} {D : Nat → Bool} {t : Nat} {p : Nat} : ∀ q, p ≤ q → (∀ (q' : Nat) (x : DOper), p ≤ q' → q' < q → dl[q']? = some x → x.dst = some t → D x.id = false) → vD dl V ts0 D q t = vD dl V ts0 D p t
  | 0, hp, _ => by have : p = 0 := by omega
                   subst this; rfl
  | q + 1, hp, h => by
    by_cases e : p = q + 1
    · subst e; rfl
    · have ih := vD_none (ts0 := ts0) q (by omega) (fun q' x a b c d => h q' x a (by omega) c d)
      simp only [vD]
      split
      · rename_i x hx
        by_cases hd : x.dst = some t
        · simp [h q x (by omega) (by omega) hx hd, ih]
        · simp [hd, ih]
      · exact ih

/-- D, and one more. -/
def more (D : Nat → Bool) (i : Nat) : Nat → Bool := fun j => D j || j == i

include E in
/-- One more is taken: its own slot is its own value. -/
theorem vD_more {ts0 : List AV} {D : Nat → Bool} (hclos : ∀ (p : Nat) (x : DOper), dl[p]? = some x → D x.id = true → ∀ A, x.mask.testBit A = true → D A = true) {p : Nat} {x : DOper} (hx : dl[p]? = some x) (hp : D x.id = false) (t : Nat) :
    vD dl V ts0 (more D x.id) dl.length t = if x.dst = some t ∧ t < ts0.length then some (V p) else vD dl V ts0 D dl.length t := by
  have hlt : p < dl.length := (List.getElem?_eq_some_iff.1 hx).1
  -- behind p no writer of its slot has been taken
  have hbehind : x.dst = some t → ∀ (q : Nat) (y : DOper), p + 1 ≤ q → q < dl.length → dl[q]? = some y → y.dst = some t → more D x.id y.id = false := by
    intro hd q y h1 h2 hy hyd
    obtain ⟨O, hO, _, _⟩ := E.comp q y hy
    have hne : p ≠ q := by omega
    have hid : y.id ≠ x.id := fun e => hne (E.inj p q x y hx hy e.symm)
    cases hDy : D y.id with
    | false => simp [more, hDy, hid]
    | true =>
      exfalso
      rcases E.slots p q x y hne hx hy t O hd hO (.inl hyd) with h | h
      · have := hclos q y hy hDy _ h; rw [hp] at this; simp at this
      · rw [E.topo p q x y (by omega) hx hy] at h; simp at h
  have hother : ∀ q, q ≤ dl.length → ¬ (x.dst = some t ∧ t < ts0.length) → vD dl V ts0 (more D x.id) q t = vD dl V ts0 D q t := by
    intro q
    induction q with
    | zero => intro _ _; rfl
    | succ q ih =>
      intro hq hn
      have ih := ih (by omega) hn
      simp only [vD]
      split
      · rename_i y hy
        by_cases hyx : y.id = x.id
        · have := E.inj q p y x hy hx hyx
          subst this
          rw [hx] at hy; cases hy
          rw [if_neg (fun h => hn h.2), if_neg (fun h => hn h.2), ih]
        · have : more D x.id y.id = D y.id := by simp [more, hyx]
          rw [this, ih]
      · exact ih
  by_cases hd : x.dst = some t ∧ t < ts0.length
  · rw [if_pos hd, vD_none dl.length (by omega : p + 1 ≤ dl.length) (hbehind hd.1)]
    simp [vD, hx, more, hd]
  · rw [if_neg hd]
    exact hother dl.length (Nat.le_refl _) hd

include E step in
/-- What an operation that is to be taken reads is what it reads in the one order. -/
theorem vD_reads {D : Nat → Bool} (hclos : ∀ (p : Nat) (x : DOper), dl[p]? = some x → D x.id = true → ∀ A, x.mask.testBit A = true → D A = true) {p : Nat} {x : DOper} (hx : dl[p]? = some x) (hp : D x.id = false) (hpre : ∀ A, x.mask.testBit A = true → D A = true)
    {O : Oper} (hO : ops[x.id]? = some O) {t : Nat} (ht : t ∈ namesOf ops O) : vD dl V (T 0) D dl.length t = getL (T p) t := by
  have hlt : p < dl.length := (List.getElem?_eq_some_iff.1 hx).1
  rw [T_is step p (by omega) t]
  have key : ∀ (q : Nat) (y : DOper), q ≠ p → dl[q]? = some y → y.dst = some t → x.mask.testBit y.id = true ∨ y.mask.testBit x.id = true := fun q y hne hy hd => E.slots q p y x hne hy hx t O hd hO (.inr ht)
  rw [vD_none (p := p) dl.length (by omega)]
  · refine vD_all p ?_
    intro q y hq hy hd
    rcases key q y (by omega) hy hd with h | h
    · exact hpre _ h
    · rw [E.topo q p y x (by omega) hy hx] at h; simp at h
  · intro q y h1 h2 hy hd
    by_cases e : q = p
    · subst e; rw [hx] at hy; cases hy; exact hp
    · rcases key q y e hy hd with h | h
      · rw [E.topo p q x y (by omega) hx hy] at h; simp at h
      · cases hDy : D y.id with
        | false => rfl
        | true => have := hclos q y hy hDy _ h; rw [hp] at this; simp at this

/-! ### The state, wherever the real machine stands -/

structure Inv (P : Program) (w0 : World) (ops : Array Oper) (dl : List DOper) (T : Nat → List AV) (Hh : Nat → H) (Pp : Nat → Pend) (V : Nat → AV) (μ0 : Mu) (wi : World) (D : Nat → Bool) (c : Nat) (μ : Mu) (a : Act) (w : World) : Prop where
  down : ∀ (j : Nat) (O : Oper), ops[j]? = some O → D j = true → ∀ e ∈ O.after, Region.binds .any e = true → D e.on = true
  cle : c ≤ dl.length
  lt : ∀ (p : Nat) (x : DOper), dl[p]? = some x → D x.id = true → p < c
  acts : ∀ (p : Nat) (x : DOper), dl[p]? = some x → p < c → x.act = true → D x.id = true
  sz : a.tmps.size = (T 0).length
  tm : ∀ t v, vD dl V (T 0) D dl.length t = some v → ∃ v', a.tmps[t]? = some v' ∧ VRel μ v v'
  df : a.defers = []
  W : WRel μ w0 P.globals.size (Hh c) w
  A : Adv μ0 (Hh 0) wi μ (Hh c) w
  mono : ∀ p q, p ≤ q → q ≤ c → (Hh p).n ≤ (Hh q).n
  al : ∀ (p : Nat) (x : DOper) (B : Blk), dl[p]? = some x → p < c → D x.id = false → isAl x.op = true → wanted x.guard (T p) = true → Hh (p + 1) = (Hh p).new B → (Hh c).get (Hh p).n = some B ∧ ∀ g rb, μ (Hh p).n g ≠ some rb
  rd : ∀ (p : Nat) (x : DOper) (r : IOp), dl[p]? = some x → p < c → D x.id = false → x.act = false → wanted x.guard (T p) = true → rdOp (ev (T p)) x.op = some r → (r, V p, x.id) ∈ Pp c

include E in
theorem Inv.clos {μ0 : Mu} {wi : World} {D : Nat → Bool} {c : Nat} {μ : Mu} {a : Act} {w : World} (I : Inv P w0 ops dl T Hh Pp V μ0 wi D c μ a w) : ∀ (p : Nat) (x : DOper), dl[p]? = some x → D x.id = true → ∀ A, x.mask.testBit A = true → D A = true :=
  E.clos D I.down

include E step in
/-- The operands of an operation that is to be taken. -/
theorem Inv.opd {μ0 : Mu} {wi : World} {D : Nat → Bool} {c : Nat} {μ : Mu} {a : Act} {w : World} (I : Inv P w0 ops dl T Hh Pp V μ0 wi D c μ a w) {p : Nat} {x : DOper} (hx : dl[p]? = some x) (hp : D x.id = false) (hpre : ∀ A, x.mask.testBit A = true → D A = true) {O : Oper} (hO : ops[x.id]? = some O) :
    (∀ t ∈ namesOf ops O, match getL (T p) t with | none => a.tmps[t]? = none | some v => ∃ v', a.tmps[t]? = some v' ∧ VRel μ v v') := by
  intro t ht
  have hlt : p < dl.length := (List.getElem?_eq_some_iff.1 hx).1
  have hr := vD_reads E step (I.clos E) hx hp hpre hO ht
  cases hg : getL (T p) t with
  | none =>
    have hlen : (T p).length = (T 0).length := T_len (dl := dl) (T := T) step rfl p (by omega)
    have hge : (T 0).length ≤ t := by
      rw [getL_eq, List.getElem?_eq_none_iff, hlen] at hg
      exact hg
    exact Array.getElem?_eq_none (by rw [I.sz]; exact hge)
  | some v => exact I.tm t v (hr.trans hg)

include E step in
theorem Inv.hρ {μ0 : Mu} {wi : World} {D : Nat → Bool} {c : Nat} {μ : Mu} {a : Act} {w : World} (I : Inv P w0 ops dl T Hh Pp V μ0 wi D c μ a w) {p : Nat} {x : DOper} (hx : dl[p]? = some x) (hp : D x.id = false) (hpre : ∀ A, x.mask.testBit A = true → D A = true) {O : Oper} (hO : ops[x.id]? = some O) :
    ∀ y ∈ O.op.operands, ∀ X, ofOpd P y = some X → VRel μ (ev (T p) X) (a.eval y) := by
  intro y hy X hX
  have hn := I.opd E step hx hp hpre hO
  cases y with
  | tmp t =>
    have ht : t ∈ namesOf ops O := by
      unfold namesOf
      refine List.mem_append_right _ (List.mem_filterMap.2 ⟨.tmp t, by simpa using hy, rfl⟩)
    have := hn t ht
    simp only [ofOpd, Option.some.injEq] at hX
    subst hX
    simp only [ev, Act.eval]
    cases e : getL (T p) t with
    | none =>
      rw [e] at this
      simp only [] at this
      simp only [Option.getD_none, Array.getD_eq_getD_getElem?, this]
      exact ⟨_, rfl, rfl⟩
    | some v =>
      rw [e] at this
      obtain ⟨v', h3, h4⟩ := this
      simpa only [Option.getD_some, Array.getD_eq_getD_getElem?, h3] using h4
  | const v =>
    have h := ev_rel I.W rfl (ts := []) (a := ⟨#[], []⟩) rfl (.const v) X hX
    simp only [ofOpd, Option.map_eq_some_iff] at hX
    obtain ⟨z, _, rfl⟩ := hX
    exact h
  | global g =>
    have h := ev_rel I.W rfl (ts := []) (a := ⟨#[], []⟩) rfl (.global g) X hX
    simp only [ofOpd] at hX
    split at hX
    · simp only [Option.some.injEq] at hX
      subst hX
      exact h
    · simp at hX
  | func f =>
    have h := ev_rel I.W rfl (ts := []) (a := ⟨#[], []⟩) rfl (.func f) X hX
    simp only [ofOpd, Option.some.injEq] at hX
    subst hX
    exact h

include E step in
theorem Inv.want {μ0 : Mu} {wi : World} {D : Nat → Bool} {c : Nat} {μ : Mu} {a : Act} {w : World} (I : Inv P w0 ops dl T Hh Pp V μ0 wi D c μ a w) {p : Nat} {x : DOper} (hx : dl[p]? = some x) (hp : D x.id = false) (hpre : ∀ A, x.mask.testBit A = true → D A = true) {O : Oper} (hO : ops[x.id]? = some O) (hc : compOper P ops O = some x.toIOper) :
    Region.wanted O (yielded ops a.tmps) = wanted x.guard (T p) := by
  obtain ⟨_, _, h1, h2⟩ := comp_of hc
  cases hg : O.guard with
  | none => rw [h1 hg]; simp [Region.wanted, hg, Det.wanted]
  | some jw =>
    obtain ⟨j, wt⟩ := jw
    obtain ⟨d, hd, hgd⟩ := h2 j wt hg
    rw [hgd]
    have ht : d ∈ namesOf ops O := by
      unfold namesOf
      simp only [hg]
      exact List.mem_append_left _ (by simp [hd])
    have hn := I.opd E step hx hp hpre hO d ht
    simp only [Region.wanted, hg, Det.wanted, yielded, hd, Option.bind_some]
    cases e : getL (T p) d with
    | none => rw [e] at hn; simp only [] at hn; simp [hn]
    | some v =>
      rw [e] at hn
      obtain ⟨v', h3, h4⟩ := hn
      simp only [h3]
      cases v <;> first
        | (cases h4; rfl)
        | (cases h4; simp; done)
        | (obtain ⟨_, _, rfl⟩ := h4; rfl)
        | (obtain ⟨_, _, rfl, _⟩ := h4; rfl)
        | (obtain ⟨_, rfl, _⟩ := h4; rfl)
        | (obtain ⟨_, _, rfl⟩ := sl_of h4; rfl)

end
end Go.Det

/- A region whose order is drawn: each operation that may be taken next keeps the state, so the whole region does what the run in one order does. -/
set_option linter.unusedVariables false
set_option linter.unusedSimpArgs false
set_option linter.unusedSectionVars false
namespace Go.Det
open Go.RowKit

/-- A block that was made before is only now given its place. -/
theorem WRel.late {μ : Mu} {w0 : World} {ng : Nat} {h : H} {w w' : World} (W : WRel μ w0 ng h w) (b : Nat) (B : Blk) (rb : RB) (o : Obj)
    (hget : h.get b = some B) (hbn : b < h.n) (hno : ∀ g rb, μ b g ≠ some rb) (hc : Chg w w' w.heap.size o) (hsz : w'.heap.size = w.heap.size + 1) (hr : rb.r = w.heap.size) (hro : B.ro = false) (ho : ORel μ rb.n B o) :
    μ.le (μ.put b B.gen rb) ∧ WRel (μ.put b B.gen rb) w0 ng h w' := by
  have hle : μ.le (μ.put b B.gen rb) := by
    intro k g rb1 e
    unfold Mu.put
    split
    · rename_i hk; obtain ⟨rfl, rfl⟩ := hk; exact absurd e (hno _ _)
    · exact e
  have hback : ∀ k g rb1, (μ.put b B.gen rb) k g = some rb1 → (k = b ∧ g = B.gen ∧ rb1 = rb) ∨ μ k g = some rb1 := by
    intro k g rb1 e
    unfold Mu.put at e
    split at e
    · rename_i hk; exact .inl ⟨hk.1, hk.2, by simpa using e.symm⟩
    · exact .inr e
  have hw0 : w0.heap.size ≤ rb.r := by rw [hr]; exact W.base.size
  have hfar : ∀ k g rbk, μ k g = some rbk → rbk.r < w.heap.size := fun k g rbk e => (W.dom k g rbk e).1
  have es : ∀ k Bk rbk, h.get k = some Bk → (μ.put b B.gen rb) k Bk.gen = some rbk → (k = b ∧ Bk = B ∧ rbk = rb) ∨ (k ≠ b ∧ μ k Bk.gen = some rbk) := by
    intro k Bk rbk h1 h2
    by_cases hk : k = b
    · subst hk
      rw [hget] at h1
      cases h1
      rcases hback _ _ _ h2 with ⟨_, _, e⟩ | e
      · exact .inl ⟨rfl, rfl, e⟩
      · exact absurd e (hno _ _)
    · rcases hback _ _ _ h2 with ⟨e, _, _⟩ | e
      · exact absurd e hk
      · exact .inr ⟨hk, e⟩
  refine ⟨hle, ?_, ?_, ?_, ?_, ?_⟩
  · refine ⟨hc.os.trans W.base.os, hc.tape.trans W.base.tape, hc.output.trans W.base.output, Nat.le_trans W.base.size hc.size, ?_⟩
    intro k hk
    have := W.base.size
    rw [hc.there k (by omega) (by omega)]
    exact W.base.block k hk
  · intro g hg
    obtain ⟨n, hn⟩ := W.glob g hg
    exact ⟨n, hle _ _ _ hn⟩
  · intro k g rb1 e
    rcases hback k g rb1 e with ⟨rfl, rfl, rfl⟩ | e2
    · exact ⟨by omega, hbn, B, hget, Nat.le_refl _⟩
    · obtain ⟨h1, h2, B1, h3, h4⟩ := W.dom k g rb1 e2
      exact ⟨by omega, h2, B1, h3, h4⟩
  · intro k Bk rbk h1 h2
    rcases es k Bk rbk h1 h2 with ⟨rfl, rfl, rfl⟩ | ⟨hk, e⟩
    · exact ⟨⟨o, by rw [hr]; exact hc.here, .inl (ho.mono hle)⟩, fun _ => hw0⟩
    · obtain ⟨⟨o', h3, h4⟩, h5⟩ := W.blk k Bk rbk h1 e
      refine ⟨⟨o', ?_, h4.imp (·.mono hle) (·.mono hle)⟩, h5⟩
      have := hfar _ _ _ e
      rw [hc.there _ (by omega) this]
      exact h3
  · intro k Bk rbk k' Bk' rbk' h1 h2 h3 h4 h5 h6
    rcases es k Bk rbk h1 h3 with ⟨rfl, rfl, rfl⟩ | ⟨n1, m1⟩ <;> rcases es k' Bk' rbk' h2 h4 with ⟨rfl, rfl, rfl⟩ | ⟨n2, m2⟩
    · rfl
    · have := hfar _ _ _ m2; omega
    · have := hfar _ _ _ m1; omega
    · exact W.inj _ _ _ _ _ _ h1 h2 m1 m2 h5 h6

theorem rels_of {μ : Mu} : ∀ (l : List AV) (v : List Value), l.length = v.length → (∀ t x, getL l t = some x → ∃ y, v[t]? = some y ∧ VRel μ x y) → VRels μ l v
  | [], [], _, _ => rfl
  | a :: l, y :: v, hl, h => by
    obtain ⟨y', h1, h2⟩ := h 0 a rfl
    simp only [List.getElem?_cons_zero, Option.some.injEq] at h1
    subst h1
    refine ⟨y, v, rfl, h2, rels_of l v (by simpa using hl) ?_⟩
    intro t x hx
    obtain ⟨z, h3, h4⟩ := h (t + 1) x hx
    exact ⟨z, by simpa using h3, h4⟩

section
variable {P : Program} {w0 : World} {cf : CallF} {ops : Array Oper} {dl : List DOper} (E : Env P ops dl)
  {T : Nat → List AV} {Hh : Nat → H} {Pp : Nat → Pend} {V : Nat → AV}
  (step : ∀ (p : Nat) (o : DOper), dl[p]? = some o → StepD cf o (T p) (Hh p) (Pp p) (V p) (T (p + 1)) (Hh (p + 1)) (Pp (p + 1)))

omit E in
include step in
theorem add_mem {p : Nat} {x : DOper} {r : IOp} (hx : dl[p]? = some x) (hq : x.act = false) (hw : wanted x.guard (T p) = true) (hr : rdOp (ev (T p)) x.op = some r) : (r, V p, x.id) ∈ Pp (p + 1) := by
  obtain ⟨s1, s2, s3, s4, s5⟩ := step p x hx
  rw [s5 hq, if_pos hw]
  unfold Pend.add
  rw [hr]
  exact List.mem_cons_self

include E step in
/-- The acts that stand next are awaited; what is no act is passed. -/
theorem Inv.on {μ0 : Mu} {wi : World} {D : Nat → Bool} {s : Nat} {μ : Mu} {a : Act} {w : World} (I : Inv P w0 ops dl T Hh Pp V μ0 wi D s μ a w) : ∃ c, Inv P w0 ops dl T Hh Pp V μ0 wi D c μ a w ∧ (c = dl.length ∨ ∃ x, dl[c]? = some x ∧ x.act = true) := by
  obtain ⟨c, h1, h2, h3, h4⟩ := next_act dl s I.cle
  have sg : ∀ q e, s ≤ q → q ≤ e → e ≤ c → (Hh q).n ≤ (Hh e).n ∧ (∀ b, b < (Hh q).n → (Hh e).get b = (Hh q).get b) ∧ ∀ z, z ∈ Pp q → z ∈ Pp e :=
    fun q e a b d => seg E step b (fun k x k1 k2 hk => h4 k x (by omega) (by omega) hk) (by omega)
  obtain ⟨g1, g2, g3⟩ := sg s c (Nat.le_refl _) h1 (Nat.le_refl _)
  obtain ⟨W', A'⟩ := I.W.ext g1 g2
  refine ⟨c, ⟨I.down, h2, fun p x hx hD => Nat.lt_of_lt_of_le (I.lt p x hx hD) h1, ?_, I.sz, I.tm, I.df, W', I.A.trans A', ?_, ?_, ?_⟩, h3⟩
  · intro p x hx hp hact
    by_cases hs : p < s
    · exact I.acts p x hx hs hact
    · have := h4 p x (by omega) hp hx
      rw [hact] at this; simp at this
  · intro p q hpq hq
    by_cases hs : q ≤ s
    · exact I.mono p q hpq hs
    · have e2 := (sg s q (Nat.le_refl _) (by omega) hq).1
      by_cases hs' : p ≤ s
      · exact Nat.le_trans (I.mono p s hs' (Nat.le_refl _)) e2
      · exact (sg p q (by omega) hpq hq).1
  · intro p x B hx hp hD hal hw hn
    by_cases hs : p < s
    · obtain ⟨e1, e2⟩ := I.al p x B hx hs hD hal hw hn
      refine ⟨?_, e2⟩
      rw [g2 _ ?_]
      · exact e1
      · have := I.mono (p + 1) s (by omega) (Nat.le_refl _)
        rw [hn] at this
        simp at this
        omega
    · obtain ⟨e1, e2, _⟩ := sg (p + 1) c (by omega) (by omega) (Nat.le_refl _)
      refine ⟨?_, ?_⟩
      · rw [e2 _ (by rw [hn]; simp), hn]
        exact (Hh p).get_new B
      · intro g rb e
        have := (I.W.dom _ _ _ e).2.1
        have := (sg s p (Nat.le_refl _) (by omega) (by omega)).1
        omega
  · intro p x r hx hp hD hact hw hr
    by_cases hs : p < s
    · exact g3 _ (I.rd p x r hx hs hD hact hw hr)
    · exact (sg (p + 1) c (by omega) (by omega) (Nat.le_refl _)).2.2 _ (add_mem step hx hact hw hr)

include E in
/-- The slots, when one more is taken. -/
theorem Inv.slots {μ0 : Mu} {wi : World} {D : Nat → Bool} {c : Nat} {μ : Mu} {a : Act} {w : World} (I : Inv P w0 ops dl T Hh Pp V μ0 wi D c μ a w) {p : Nat} {x : DOper} (hx : dl[p]? = some x) (hD : D x.id = false) {μ' : Mu} (hm : μ.le μ') {v' : Value} (hv : VRel μ' (V p) v') :
    (a.put x.dst v').tmps.size = (T 0).length ∧ (∀ t v, vD dl V (T 0) (more D x.id) dl.length t = some v → ∃ u, (a.put x.dst v').tmps[t]? = some u ∧ VRel μ' v u) ∧ (a.put x.dst v').defers = [] := by
  have hsz := I.sz
  refine ⟨?_, ?_, ?_⟩
  · unfold Act.put; split <;> simp [hsz]
  · intro t v hvt
    rw [vD_more E (I.clos E) hx hD t] at hvt
    split at hvt
    · rename_i hc
      simp only [Option.some.injEq] at hvt
      subst hvt
      refine ⟨v', ?_, hv⟩
      unfold Act.put
      rw [hc.1]
      simp [hsz, hc.2]
    · rename_i hc
      obtain ⟨u, h1, h2⟩ := I.tm t v hvt
      refine ⟨u, ?_, VRel.mono hm _ _ h2⟩
      have hlt : t < (T 0).length := by rw [← hsz]; exact (Array.getElem?_eq_some_iff.1 h1).1
      unfold Act.put
      cases hd : x.dst with
      | none => exact h1
      | some d =>
        have : d ≠ t := fun e => hc ⟨by rw [hd, e], hlt⟩
        simp only [Array.getElem?_setIfInBounds_ne this]
        exact h1
  · unfold Act.put; split <;> exact I.df

theorem more_false {D : Nat → Bool} {i j : Nat} (h : more D i j = false) : D j = false ∧ j ≠ i := by
  simp only [more, Bool.or_eq_false_iff, beq_eq_false_iff_ne] at h; exact h

theorem more_true {D : Nat → Bool} {i j : Nat} (h : more D i j = true) : D j = true ∨ j = i := by
  simpa [more] using h

include E in
/-- One that is no act is taken, and the heap stands where it stood. -/
theorem Inv.still {μ0 : Mu} {wi : World} {D : Nat → Bool} {c : Nat} {μ : Mu} {a : Act} {w : World} (I : Inv P w0 ops dl T Hh Pp V μ0 wi D c μ a w) {p : Nat} {x : DOper} (hx : dl[p]? = some x) (hD : D x.id = false) (hp : p < c)
    (hdown : ∀ (j : Nat) (O : Oper), ops[j]? = some O → more D x.id j = true → ∀ e ∈ O.after, Region.binds .any e = true → more D x.id e.on = true)
    {μ' : Mu} {w' : World} {v' : Value} (hv : VRel μ' (V p) v') (W' : WRel μ' w0 P.globals.size (Hh c) w') (A' : Adv μ (Hh c) w μ' (Hh c) w') :
    Inv P w0 ops dl T Hh Pp V μ0 wi (more D x.id) c μ' (a.put x.dst v') w' := by
  obtain ⟨b1, b2, b3⟩ := I.slots E hx hD A'.le hv
  refine ⟨hdown, I.cle, ?_, fun q y hy hq hact => by simp [more, I.acts q y hy hq hact], b1, b2, b3, W', I.A.trans A', I.mono, ?_, ?_⟩
  · intro q y hy hDy
    rcases more_true hDy with h | h
    · exact I.lt q y hy h
    · rw [E.inj q p y x hy hx h]; exact hp
  · intro q y B hy hq hDy hal hw hn
    obtain ⟨e1, e2⟩ := I.al q y B hy hq (more_false hDy).1 hal hw hn
    refine ⟨e1, ?_⟩
    intro g rb e
    have := I.mono (q + 1) c (by omega) (Nat.le_refl _)
    rw [hn] at this
    simp at this
    rcases A'.new _ _ _ e with ⟨g0, rb0, e0, _⟩ | ⟨h1, _⟩
    · exact e2 _ _ e0
    · omega
  · intro q y r hy hq hDy hact hw hr
    exact I.rd q y r hy hq (more_false hDy).1 hact hw hr

include E step in
/-- An act is taken. -/
theorem Inv.acted {μ0 : Mu} {wi : World} {D : Nat → Bool} {c : Nat} {μ : Mu} {a : Act} {w : World} (I : Inv P w0 ops dl T Hh Pp V μ0 wi D c μ a w) {x : DOper} (hx : dl[c]? = some x) (hD : D x.id = false) (hact : x.act = true) (hpre : ∀ A, x.mask.testBit A = true → D A = true)
    (hdown : ∀ (j : Nat) (O : Oper), ops[j]? = some O → more D x.id j = true → ∀ e ∈ O.after, Region.binds .any e = true → more D x.id e.on = true)
    {μ' : Mu} {w' : World} {v' : Value} (hv : VRel μ' (V c) v') (W' : WRel μ' w0 P.globals.size (Hh (c + 1)) w') (A' : Adv μ (Hh c) w μ' (Hh (c + 1)) w') :
    Inv P w0 ops dl T Hh Pp V μ0 wi (more D x.id) (c + 1) μ' (a.put x.dst v') w' := by
  have hlt : c < dl.length := (List.getElem?_eq_some_iff.1 hx).1
  obtain ⟨b1, b2, b3⟩ := I.slots E hx hD A'.le hv
  obtain ⟨s1, s2, s3, s4, s5⟩ := step c x hx
  refine ⟨hdown, hlt, ?_, ?_, b1, b2, b3, W', I.A.trans A', ?_, ?_, ?_⟩
  · intro q y hy hDy
    rcases more_true hDy with h | h
    · have := I.lt q y hy h; omega
    · rw [E.inj q c y x hy hx h]; omega
  · intro q y hy hq hya
    by_cases e : q = c
    · subst e; rw [hx] at hy; cases hy; simp [more]
    · simp [more, I.acts q y hy (by omega) hya]
  · intro p q hpq hq
    by_cases e : q = c + 1
    · by_cases e' : p = c + 1
      · rw [e, e']; exact Nat.le_refl _
      · rw [e]; exact Nat.le_trans (I.mono p c (by omega) (Nat.le_refl _)) A'.n
    · exact I.mono p q hpq (by omega)
  · intro q y B hy hq hDy hal hw hn
    have hqc : q < c := by
      by_cases e : q = c
      · subst e; rw [hx] at hy; cases hy; exact absurd rfl (more_false hDy).2
      · omega
    obtain ⟨e1, e2⟩ := I.al q y B hy hqc (more_false hDy).1 hal hw hn
    have hb := I.mono (q + 1) c (by omega) (Nat.le_refl _)
    rw [hn] at hb
    simp at hb
    refine ⟨?_, ?_⟩
    · rw [A'.own _ (by omega) e2]; exact e1
    · intro g rb e
      rcases A'.new _ _ _ e with ⟨g0, rb0, e0, _⟩ | ⟨h1, _⟩
      · exact e2 _ _ e0
      · omega
  · intro q y r hy hq hDy hya hw hr
    have hqc : q < c := by
      by_cases e : q = c
      · subst e; rw [hx] at hy; cases hy; exact absurd rfl (more_false hDy).2
      · omega
    have hm := I.rd q y r hy hqc (more_false hDy).1 hya hw hr
    rw [(s2 hact).2]
    refine List.mem_filter.2 ⟨hm, ?_⟩
    cases hb : x.mask.testBit y.id with
    | false => simp
    | true => exfalso; have := hpre _ hb; rw [(more_false hDy).1] at this; simp at this

include E step in
/-- Whatever may be taken next. -/
theorem Inv.next (hcf : CallOk P w0 cf) (hfin : (Pp dl.length).holds (Hh dl.length) = true) {μ0 : Mu} {wi : World} {D : Nat → Bool} {c : Nat} {μ : Mu} {a : Act} {w : World} (I : Inv P w0 ops dl T Hh Pp V μ0 wi D c μ a w) (hat : c = dl.length ∨ ∃ x, dl[c]? = some x ∧ x.act = true)
    {i : Nat} {O : Oper} (hO : ops[i]? = some O) (hDi : D i = false) (hp0 : ∀ e ∈ O.after, Region.binds .any e = true → D e.on = true) {Q : Exit → Act → World → Prop} {K : Act → World → Prop}
    (hK : ∀ c' μ' a' w', Inv P w0 ops dl T Hh Pp V μ0 wi (more D i) c' μ' a' w' → K a' w') : wpOp P ops Q i K a w := by
  obtain ⟨p, x, hx, rfl⟩ := E.surj i (Array.getElem?_eq_some_iff.1 hO).1
  obtain ⟨O', hO', hcomp, hactEq⟩ := E.comp p x hx
  rw [hO] at hO'
  cases hO'
  have hdown : ∀ (j : Nat) (O : Oper), ops[j]? = some O → more D x.id j = true → ∀ e ∈ O.after, Region.binds .any e = true → more D x.id e.on = true := by
    intro j Oj hj hDj e he hb
    rcases more_true hDj with h | h
    · simp [more, I.down j Oj hj h e he hb]
    · subst h; rw [hO] at hj; cases hj; simp [more, hp0 e he hb]
  have hpre : ∀ A, x.mask.testBit A = true → D A = true := by
    intro A hA
    rcases more_true (E.clos _ hdown p x hx (by simp [more]) A hA) with h | h
    · exact h
    · subst h; rw [E.topo p p x x (Nat.le_refl _) hx hx] at hA; simp at hA
  have hρ := I.hρ E step hx hDi hpre hO
  have hwant := I.want E step hx hDi hpre hO hcomp
  obtain ⟨hc, hdst, _, _⟩ := comp_of hcomp
  have hdst : O.dst = x.dst := hdst
  obtain ⟨s1, s2, s3, s4, s5⟩ := step p x hx
  have hplt : p < dl.length := (List.getElem?_eq_some_iff.1 hx).1
  have hnotbehind : p ≤ c := by
    rcases Nat.lt_or_ge c p with h | h
    · rcases hat with e | ⟨y, hy, hya⟩
      · omega
      · have := hpre _ (E.bar c p y x h hy hx hya)
        have := I.lt c y hy this
        omega
    · exact h
  unfold wpOp
  rw [hO]
  simp only []
  cases hact : x.act with
  | true =>
    have hpc : p = c := by
      rcases Nat.lt_or_ge p c with h | h
      · have := I.acts p x hx h hact; rw [hDi] at this; simp at this
      · omega
    subst hpc
    by_cases hw : wanted x.guard (T p) = true
    · rw [if_pos (hwant.trans hw)]
      left
      refine oper_wp hcf hc (s3 hw) hρ I.W ?_
      intro v' w' μ' hv W' A'
      rw [hdst]
      exact hK _ _ _ _ (I.acted E step hx hDi hact hpre hdown hv W' A')
    · have hwf : wanted x.guard (T p) = false := by simpa using hw
      rw [if_neg (by rw [hwant]; exact hw), hdst]
      obtain ⟨e1, e2⟩ := s4 hwf
      refine hK _ _ _ _ (I.acted E step hx hDi hact hpre hdown (μ' := μ) (w' := w) (v' := undef) (by rw [e1]; exact ⟨_, rfl, rfl⟩) (by rw [e2]; exact I.W) (by rw [e2]; exact Adv.refl _ _ _))
  | false =>
    have hpc : p < c := by
      rcases Nat.lt_or_ge p c with h | h
      · exact h
      · have : p = c := by omega
        subst this
        rcases hat with e | ⟨y, hy, hya⟩
        · omega
        · rw [hx] at hy; cases hy; rw [hact] at hya; simp at hya
    by_cases hw : wanted x.guard (T p) = true
    · rw [if_pos (hwant.trans hw)]
      left
      have stay : oneOp cf x.op (T p) (Hh c) = some (V p, Hh c) → O.wp P a w K Q := by
        intro ho
        refine oper_wp hcf hc ho hρ I.W ?_
        intro v' w' μ' hv W' A'
        rw [hdst]
        exact hK _ _ _ _ (I.still E hx hDi hpc hdown hv W' A')
      have hq : isAct x.op = false := by rw [← hactEq]; exact hact
      have hi := quiet_one hq (s3 hw)
      have hcls : isPure x.op = true ∨ isAl x.op = true ∨ isRd x.op = true := by
        simp only [isAct, Bool.not_eq_false', Bool.or_eq_true] at hq
        rcases hq with (h | h) | h
        · exact .inl h
        · exact .inr (.inl h)
        · exact .inr (.inr h)
      rcases hcls with hk | hk | hk
      · refine stay ?_
        unfold oneOp
        rw [(pure_any hk hi).2 (Hh c)]
      · obtain ⟨dst, op, ty, pos, after, guard⟩ := O
        obtain ⟨B, Vb, hn, hvb, hall⟩ := al_sound hc hk hi dst pos after guard
        obtain ⟨e1, e2⟩ := I.al p x B hx hpc hDi hk hw hn
        obtain ⟨s, he, hg, hro, v', w', o, n, hrun, hch, hsz, hor, hval⟩ := hall μ w a.eval hρ
        have hbn : (Hh p).n < (Hh c).n := by
          have := I.mono (p + 1) c (by omega) (Nat.le_refl _)
          rw [hn] at this
          simp at this
          omega
        obtain ⟨hle, W'⟩ := I.W.late (Hh p).n B ⟨w.heap.size, n⟩ o e1 hbn e2 hch hsz rfl hro hor
        rw [hg] at hle W'
        have hput : (μ.put (Hh p).n 0 ⟨w.heap.size, n⟩) (Hh p).n 0 = some ⟨w.heap.size, n⟩ := by simp [Mu.put]
        have hv := hval _ _ hle hput
        rw [← hvb] at hv
        obtain ⟨b1, b2, b3⟩ := I.slots E hx hDi hle hv
        unfold Oper.wp
        rw [he]
        simp only [Sem.run_bind, hrun, Result.andThen_ok, Sem.run_pure]
        rw [show dst = x.dst from hdst]
        refine hK c _ _ _ ⟨hdown, I.cle, ?_, fun q y hy hq hact => by simp [more, I.acts q y hy hq hact], b1, b2, b3, W', ?_, I.mono, ?_, ?_⟩
        · intro q y hy hDy
          rcases more_true hDy with h | h
          · exact I.lt q y hy h
          · rw [E.inj q p y x hy hx h]; exact hpc
        · refine ⟨I.A.le.trans hle, by have := I.A.size; omega, I.A.n, ?_, ?_, I.A.own⟩
          · intro r hr hnone
            have := I.A.size
            rw [hch.there r (by omega) (by omega)]
            exact I.A.keep r hr hnone
          · intro k g rb e
            unfold Mu.put at e
            split at e
            · rename_i hk
              simp only [Option.some.injEq] at e
              subst e
              refine .inr ⟨?_, I.A.size⟩
              rw [hk.1]
              exact I.mono 0 p (Nat.zero_le _) (by omega)
            · exact I.A.new k g rb e
        · intro q y B' hy hq hDy hal hw' hn'
          obtain ⟨f1, f2⟩ := I.al q y B' hy hq (more_false hDy).1 hal hw' hn'
          refine ⟨f1, ?_⟩
          intro g rb e
          unfold Mu.put at e
          split at e
          · rename_i hk
            have hne : q ≠ p := by
              intro e; subst e; rw [hx] at hy; cases hy; exact (more_false hDy).2 rfl
            rcases Nat.lt_or_ge q p with h | h
            · have := I.mono (q + 1) p (by omega) (by omega)
              rw [hn'] at this
              simp at this
              omega
            · have := I.mono (p + 1) q (by omega) (by omega)
              rw [hn] at this
              simp at this
              omega
          · exact f2 _ _ e
        · intro q y r hy hq hDy hya hw' hr
          exact I.rd q y r hy hq (more_false hDy).1 hya hw' hr
      · obtain ⟨r, hr⟩ := rd_some hk (T p)
        have hm := I.rd p x r hx hpc hDi hact hw hr
        have hhold : (Pp c).holds (Hh c) = true := by
          rcases hat with e | ⟨y, hy, hya⟩
          · rw [e]; exact hfin
          · exact ((step c y hy).2.1 hya).1
        have := List.all_eq_true.1 hhold _ hm
        refine stay ?_
        unfold oneOp
        rw [reads_spec hk hr this]
    · have hwf : wanted x.guard (T p) = false := by simpa using hw
      rw [if_neg (by rw [hwant]; exact hw), hdst]
      obtain ⟨e1, e2⟩ := s4 hwf
      exact hK _ _ _ _ (I.still E hx hDi hpc hdown (μ' := μ) (w' := w) (v' := undef) (by rw [e1]; exact ⟨_, rfl, rfl⟩) I.W (Adv.refl _ _ _))

include E step in
/-- In any order. -/
theorem any_ok (hcf : CallOk P w0 cf) (hfin : (Pp dl.length).holds (Hh dl.length) = true) {μ0 : Mu} {wi : World} : ∀ (fuel : Nat) (listed : Array Bool), listed.size = ops.size → listed.toList.countP (· == false) ≤ fuel → ∀ (D : Nat → Bool), (∀ j, D j = listed.getD j false) → ∀ (c : Nat) (μ : Mu) (a : Act) (w : World),
    Inv P w0 ops dl T Hh Pp V μ0 wi D c μ a w → wpAny P .any ops (Post P w0 μ0 (Hh 0) wi .normal (T dl.length, Hh dl.length)) fuel listed a w := by
  intro fuel listed hsz hcount D hDl c μ a w I
  obtain ⟨c, I, hat⟩ := I.on E step
  -- when nothing may be taken, all has been
  have hdone : Region.ready .any ops listed = [] → Post P w0 μ0 (Hh 0) wi .normal (T dl.length, Hh dl.length) .normal a w := by
    intro hr
    have hall : ∀ (k p : Nat) (x : DOper), p < k → dl[p]? = some x → D x.id = true := by
      intro k
      induction k with
      | zero => intro p x h; omega
      | succ k ih =>
        intro p x hp hx
        cases hD : D x.id with
        | true => rfl
        | false =>
          exfalso
          obtain ⟨O, hO, _, _⟩ := E.comp p x hx
          have hlt := (Array.getElem?_eq_some_iff.1 hO).1
          have : x.id ∈ Region.ready .any ops listed := by
            rw [mem_ready]
            refine ⟨?_, O, hO, ?_⟩
            · rw [hDl] at hD
              have : x.id < listed.size := by omega
              simpa [Array.getD_eq_getD_getElem?, this] using hD
            · intro e he hb
              obtain ⟨h1, h2⟩ := E.edge p x O hx hO e he hb
              obtain ⟨q, y, hy, hyid⟩ := E.surj e.on h1
              rw [← hDl, ← hyid]
              rcases Nat.lt_or_ge q p with h | h
              · exact ih q y (by omega) hy
              · have := E.topo p q x y h hx hy
                rw [hyid, h2] at this
                simp at this
          rw [hr] at this
          simp at this
    have hc : c = dl.length := by
      rcases hat with e | ⟨x, hx, _⟩
      · exact e
      · have := I.lt c x hx (hall (c + 1) c x (by omega) hx)
        omega
    refine ⟨rfl, μ, ⟨?_, I.df, hc ▸ I.W⟩, hc ▸ I.A⟩
    refine rels_of _ _ ?_ ?_
    · simp only [Array.length_toList, I.sz]
      exact T_len (dl := dl) (T := T) step rfl dl.length (Nat.le_refl _)
    · intro t v hv
      simp only [T_is step dl.length (Nat.le_refl _) t] at hv
      rw [← vD_all (V := V) (D := D) dl.length (fun q (x : DOper) _ hx _ => hall (q + 1) q x (by omega) hx)] at hv
      obtain ⟨u, h1, h2⟩ := I.tm t v hv
      exact ⟨u, by simpa using h1, h2⟩
  have hstep : ∀ i ∈ Region.ready .any ops listed, ∃ O, ops[i]? = some O ∧ i < listed.size ∧ listed.getD i false = false ∧ D i = false ∧ ∀ e ∈ O.after, Region.binds .any e = true → D e.on = true := by
    intro i hi
    rw [mem_ready] at hi
    obtain ⟨h1, O, h2, h3⟩ := hi
    have hlt := (Array.getElem?_eq_some_iff.1 h2).1
    have hlt' : i < listed.size := by omega
    have hf : listed.getD i false = false := by simpa [Array.getD_eq_getD_getElem?, hlt'] using h1
    exact ⟨O, h2, hlt', hf, by rw [hDl]; exact hf, fun e he hb => by rw [hDl]; exact h3 e he hb⟩
  cases fuel with
  | zero =>
    have hr : Region.ready .any ops listed = [] := by
      cases hr : Region.ready .any ops listed with
      | nil => rfl
      | cons i l =>
        exfalso
        obtain ⟨O, _, hlt, hf, _, _⟩ := hstep i (by rw [hr]; exact List.mem_cons_self)
        have hget : listed[i] = false := by simpa [Array.getD_eq_getD_getElem?, hlt] using hf
        have : 0 < listed.toList.countP (· == false) := List.countP_pos_iff.2 ⟨listed[i], by simp, by simp [hget]⟩
        omega
    exact ⟨hr, hdone hr⟩
  | succ fuel =>
    refine ⟨hdone, ?_⟩
    intro i hi
    obtain ⟨O, hO, hlt, hf, hDi, hp0⟩ := hstep i hi
    refine I.next E step hcf hfin hat hO hDi hp0 ?_
    intro c' μ' a' w' I'
    have hget : listed[i] = false := by simpa [Array.getD_eq_getD_getElem?, hlt] using hf
    refine any_ok hcf hfin fuel (listed.setIfInBounds i true) (by simp [hsz]) ?_ (more D i) ?_ c' μ' a' w' I'
    · have hc := List.countP_set (p := (· == false)) (l := listed.toList) (i := i) (a := true) (by simpa using hlt)
      have hpos : 0 < listed.toList.countP (· == false) := List.countP_pos_iff.2 ⟨listed[i], by simp, by simp [hget]⟩
      have hg : (listed.toList[i]'(by simpa using hlt) == false) = true := by simp [hget]
      rw [if_pos hg, if_neg (by simp)] at hc
      rw [Array.toList_setIfInBounds, hc]
      omega
    · intro j
      by_cases e : i = j
      · subst e; simp [more, hlt]
      · rw [getD_set_ne false e, ← hDl]; simp [more, Ne.symm e]

end

theorem draw_ok {P : Program} {w0 : World} {cf : CallF} (hm : P.follows .mixedOrders = true) (hcf : CallOk P w0 cf) : DrawOk P w0 cf := by
  intro ops dl hc s s' hr id μ a w S
  have E := env_of hc
  obtain ⟨T, Hh, Pp, V, h1, h2, h3, h4, h5, step⟩ := runDraw_trace dl s.1 s.2 [] s' hr
  refine wp_region_any hm ?_
  have W : WRel μ w0 P.globals.size (Hh 0) { w with drawn := w.drawn + 1 } := by rw [h2]; exact S.W.drew rfl rfl rfl rfl
  have hlen : a.tmps.size = s.1.length := by have := S.ts.length; simpa using this.symm
  have I : Inv P w0 ops dl T Hh Pp V μ { w with drawn := w.drawn + 1 } (fun _ => false) 0 μ a { w with drawn := w.drawn + 1 } := by
    refine ⟨fun _ _ _ h => by simp at h, Nat.zero_le _, fun _ _ _ h => by simp at h, fun _ _ _ h => by omega, by rw [h1]; exact hlen, ?_, S.df, W, Adv.refl _ _ _, fun p q hpq hq => Nat.le_antisymm hpq (Nat.le_trans hq (Nat.zero_le _)) ▸ Nat.le_refl _, fun _ _ _ _ h => absurd h (Nat.not_lt_zero _), fun _ _ _ _ h => absurd h (Nat.not_lt_zero _)⟩
    intro t v hv
    rw [vD_none (p := 0) dl.length (Nat.zero_le _) (fun _ _ _ _ _ _ => rfl), h1] at hv
    obtain ⟨u, h6, h7⟩ := S.ts.get hv
    exact ⟨u, by simpa using h6, h7⟩
  have hw := any_ok E step hcf h5 ops.size (Array.replicate ops.size false) (by simp) (by rw [Array.toList_replicate, List.countP_replicate]; simp) (fun _ => false) (fun j => by simp [Array.getD_eq_getD_getElem?, Array.getElem?_replicate]; split <;> rfl) 0 μ a _ I
  rw [h4, h2] at hw
  have e : Post P w0 μ s.2 { w with drawn := w.drawn + 1 } .normal s' = Post P w0 μ s.2 w .normal s' := by
    funext e a' w'
    refine propext ⟨?_, ?_⟩
    · rintro ⟨he, μ', S', A'⟩
      exact ⟨he, μ', S', ⟨A'.le, A'.size, A'.n, A'.keep, A'.new, A'.own⟩⟩
    · rintro ⟨he, μ', S', A'⟩
      exact ⟨he, μ', S', ⟨A'.le, A'.size, A'.n, A'.keep, A'.new, A'.own⟩⟩
  rw [← e]
  exact hw

end Go.Det

/- The deterministic machine once more, laid out for the kernel's run: slots in a tree, values laid out in full. What it answers, the deterministic machine answers. -/
set_option linter.unusedVariables false
set_option linter.unusedSimpArgs false
set_option linter.unusedSectionVars false
namespace Go.Det

/-! ### The same, each operation's text apart: for the kernel's run. -/

def k_mv (x : IX) (ρ : IX → AV) (h : H) : Option Ans :=
  let ok (v : AV) : Option Ans := some (.val v h)
  let o (v : Option AV) : Option Ans := v.map (Ans.val · h)
  ok (ρ x)
def k_pick (c : IX) (a : IX) (b : IX) (ρ : IX → AV) (h : H) : Option Ans :=
  let ok (v : AV) : Option Ans := some (.val v h)
  let o (v : Option AV) : Option Ans := v.map (Ans.val · h)
  match ρ c with
    | .bool true => ok (ρ a)
    | .bool false => ok (ρ b)
    | _ => none
def k_new (e : TypeId) (x : IX) (ρ : IX → AV) (h : H) : Option Ans :=
  let ok (v : AV) : Option Ans := some (.val v h)
  let o (v : Option AV) : Option Ans := v.map (Ans.val · h)
  if (ρ x).cells.all AV.one then some (.val (.ptr ⟨h.n, 0, 0⟩) (h.new (.cells 0 e (ρ x).cells 0 false))) else none
def k_build (z : List AV) (ps : List (Nat × Nat × IX)) (ρ : IX → AV) (h : H) : Option Ans :=
  let ok (v : AV) : Option Ans := some (.val v h)
  let o (v : Option AV) : Option Ans := v.map (Ans.val · h)
  (fillL z (ps.map fun p => (p.1, p.2.1, ρ p.2.2))).map fun cs => .val (.agg cs) h
def k_bsl (e : TypeId) (z : List AV) (n : Nat) (ps : List (Nat × Nat × IX)) (ρ : IX → AV) (h : H) : Option Ans :=
  let ok (v : AV) : Option Ans := some (.val v h)
  let o (v : Option AV) : Option Ans := v.map (Ans.val · h)
  match fillL z (ps.map fun p => (p.1, p.2.1, ρ p.2.2)) with
    | some cs => if cs.all AV.one then some (.val (.sl ⟨h.n, 0, 0⟩ n (.ex n)) (h.new (.cells 0 e cs 0 false))) else none
    | none => none
def k_ld (ag : Option Nat) (x : IX) (ρ : IX → AV) (h : H) : Option Ans :=
  let ok (v : AV) : Option Ans := some (.val v h)
  let o (v : Option AV) : Option Ans := v.map (Ans.val · h)
  match ρ x with
    | .ptr a => o (h.ldg a ag)
    | _ => none
def k_st (n : Nat) (a : IX) (v : IX) (ρ : IX → AV) (h : H) : Option Ans :=
  let ok (v : AV) : Option Ans := some (.val v h)
  let o (v : Option AV) : Option Ans := v.map (Ans.val · h)
  match ρ a with
    | .ptr ad => if (ρ v).cells.length == n then (h.st ad (ρ v).cells).map fun h' => .val .undef h' else none
    | _ => none
def k_nilck (x : IX) (ρ : IX → AV) (h : H) : Option Ans :=
  let ok (v : AV) : Option Ans := some (.val v h)
  let o (v : Option AV) : Option Ans := v.map (Ans.val · h)
  match ρ x with
    | .nilp | .nili | .nilf => none
    | .fn (.method _) _ _ => none
    | v => ok v
def k_bin (op : BinOp) (x : IX) (y : IX) (ρ : IX → AV) (h : H) : Option Ans :=
  let ok (v : AV) : Option Ans := some (.val v h)
  let o (v : Option AV) : Option Ans := v.map (Ans.val · h)
  o (binop op (ρ x) (ρ y))
def k_eq (d : EqD) (neg : Bool) (lit : Bool) (x : IX) (y : IX) (ρ : IX → AV) (h : H) : Option Ans :=
  let ok (v : AV) : Option Ans := some (.val v h)
  let o (v : Option AV) : Option Ans := v.map (Ans.val · h)
  match ρ x, ρ y with
    | .nili, .nili => if lit then (eqv 1000 d .nili .nili).map fun r => .val (.bool (r != neg)) h else none
    | a, b => (eqv 1000 d a b).map fun r => .val (.bool (r != neg)) h
def k_un (op : UnOp) (x : IX) (ρ : IX → AV) (h : H) : Option Ans :=
  let ok (v : AV) : Option Ans := some (.val v h)
  let o (v : Option AV) : Option Ans := v.map (Ans.val · h)
  o (unop op (ρ x))
def k_cvI (k : IntKind) (x : IX) (ρ : IX → AV) (h : H) : Option Ans :=
  let ok (v : AV) : Option Ans := some (.val v h)
  let o (v : Option AV) : Option Ans := v.map (Ans.val · h)
  (asI (ρ x)).map fun n => .val (.int k (k.wrap n)) h
def k_cvSB (e : TypeId) (x : IX) (ρ : IX → AV) (h : H) : Option Ans :=
  let ok (v : AV) : Option Ans := some (.val v h)
  let o (v : Option AV) : Option Ans := v.map (Ans.val · h)
  match ρ x with
    | .str s => if s.length ≤ maxRow then some (.val (.sl ⟨h.n, 0, 0⟩ s.length (.op 1)) (h.new (.cells 0 e (bytesAV s) 0 false))) else none
    | _ => none
def k_cvBS (x : IX) (ρ : IX → AV) (h : H) : Option Ans :=
  let ok (v : AV) : Option Ans := some (.val v h)
  let o (v : Option AV) : Option Ans := v.map (Ans.val · h)
  match ρ x with
    | .nils => ok (.str [])
    | .sl a n _ => match h.ldn a n with
      | some cs => (toBytes cs).map fun s => .val (.str s) h
      | none => none
    | _ => none
def k_cvSS (x : IX) (ρ : IX → AV) (h : H) : Option Ans :=
  let ok (v : AV) : Option Ans := some (.val v h)
  let o (v : Option AV) : Option Ans := v.map (Ans.val · h)
  match ρ x with
    | .str s => ok (.str s)
    | _ => none
def k_cvIS (x : IX) (ρ : IX → AV) (h : H) : Option Ans :=
  let ok (v : AV) : Option Ans := some (.val v h)
  let o (v : Option AV) : Option Ans := v.map (Ans.val · h)
  (asI (ρ x)).map fun n => .val (.str (Utf8.encode n).toList) h
def k_cvBB (x : IX) (ρ : IX → AV) (h : H) : Option Ans :=
  let ok (v : AV) : Option Ans := some (.val v h)
  let o (v : Option AV) : Option Ans := v.map (Ans.val · h)
  match ρ x with
    | .sl a n c => match h.get a.b with
      | some (.cells g _ _ fz ro) => if g == a.g && !ro && fz == 0 && capPos c then ok (.sl a n c) else none
      | _ => none
    | _ => none
def k_mkI (t : TypeId) (x : IX) (ρ : IX → AV) (h : H) : Option Ans :=
  let ok (v : AV) : Option Ans := some (.val v h)
  let o (v : Option AV) : Option Ans := v.map (Ans.val · h)
  ok (.ifc t (ρ x))
def k_mkF (f : Fn) (a : List IX) (b : List IX) (ρ : IX → AV) (h : H) : Option Ans :=
  let ok (v : AV) : Option Ans := some (.val v h)
  let o (v : Option AV) : Option Ans := v.map (Ans.val · h)
  ok (.fn f (a.map ρ) (b.map ρ))
def k_mkM (ρ : IX → AV) (h : H) : Option Ans :=
  let ok (v : AV) : Option Ans := some (.val v h)
  let o (v : Option AV) : Option Ans := v.map (Ans.val · h)
  some (.val (.map h.n) (h.new (.map [] 0)))
def k_mkS (e : TypeId) (z : List AV) (bytes : Nat) (l : IX) (c : IX) (ρ : IX → AV) (h : H) : Option Ans :=
  let ok (v : AV) : Option Ans := some (.val v h)
  let o (v : Option AV) : Option Ans := v.map (Ans.val · h)
  match asI (ρ l), asI (ρ c) with
    | some l, some c =>
      if 0 ≤ l && l ≤ c && bytes * c ≤ maxRow && c ≤ 9223372036854775807 then
        let n := l.toNat
        some (.val (.sl ⟨h.n, 0, 0⟩ n (if l == c then .ex n else .op z.length)) (h.new (.cells 0 e ((List.replicate n z).flatten) 0 false)))
      else none
    | _, _ => none
def k_slS (x : IX) (lo : Option IX) (hi : Option IX) (ρ : IX → AV) (h : H) : Option Ans :=
  let ok (v : AV) : Option Ans := some (.val v h)
  let o (v : Option AV) : Option Ans := v.map (Ans.val · h)
  match ρ x with
    | .str s => match bounds s.length (some s.length) (lo.map ρ) (hi.map ρ) none with
      | some (l, hh, _) => ok (.str ((s.take hh).drop l))
      | none => none
    | _ => none
def k_slL (sz : Nat) (x : IX) (lo : Option IX) (hi : Option IX) (mx : Option IX) (ρ : IX → AV) (h : H) : Option Ans :=
  let ok (v : AV) : Option Ans := some (.val v h)
  let o (v : Option AV) : Option Ans := v.map (Ans.val · h)
  match ρ x with
    | .nils => match bounds 0 (some 0) (lo.map ρ) (hi.map ρ) (mx.map ρ) with
      | some _ => ok .nils
      | none => none
    | .sl a n c => match bounds n (match c with | .ex k => some k | .op _ => none) (lo.map ρ) (hi.map ρ) (mx.map ρ) with
      | some (l, hh, some m) =>
        if (match c with | .ex _ => true | .op e => e == sz && (0 < n || a.o == 0)) then ok (.sl (if m == l then a else ⟨a.b, a.g, a.o + l * sz⟩) (hh - l) (.ex (m - l))) else none
      | some (l, hh, none) => match c with
        | .op e => if e == sz then ok (.sl ⟨a.b, a.g, a.o + l * sz⟩ (hh - l) (.op e)) else none
        | _ => none
      | none => none
    | _ => none
def k_slA (n : Nat) (sz : Nat) (x : IX) (lo : Option IX) (hi : Option IX) (mx : Option IX) (ρ : IX → AV) (h : H) : Option Ans :=
  let ok (v : AV) : Option Ans := some (.val v h)
  let o (v : Option AV) : Option Ans := v.map (Ans.val · h)
  match ρ x with
    | .ptr a => match bounds n (some n) (lo.map ρ) (hi.map ρ) (mx.map ρ) with
      | some (l, hh, some m) => ok (.sl (if m == l then a else ⟨a.b, a.g, a.o + l * sz⟩) (hh - l) (.ex (m - l)))
      | _ => none
    | _ => none
def k_fa (off : Nat) (x : IX) (ρ : IX → AV) (h : H) : Option Ans :=
  let ok (v : AV) : Option Ans := some (.val v h)
  let o (v : Option AV) : Option Ans := v.map (Ans.val · h)
  match ρ x with
    | .ptr a => ok (.ptr ⟨a.b, a.g, a.o + off⟩)
    | _ => none
def k_fd (off : Nat) (sz : Option Nat) (x : IX) (ρ : IX → AV) (h : H) : Option Ans :=
  let ok (v : AV) : Option Ans := some (.val v h)
  let o (v : Option AV) : Option Ans := v.map (Ans.val · h)
  match ρ x with
    | .agg cs => o (part cs off sz)
    | _ => none
def k_ia (sz : Nat) (x : IX) (i : IX) (ρ : IX → AV) (h : H) : Option Ans :=
  let ok (v : AV) : Option Ans := some (.val v h)
  let o (v : Option AV) : Option Ans := v.map (Ans.val · h)
  match ρ x, asI (ρ i) with
    | .sl a n _, some i => if 0 ≤ i && i < n then ok (.ptr ⟨a.b, a.g, a.o + i.toNat * sz⟩) else none
    | _, _ => none
def k_iaA (n : Nat) (sz : Nat) (x : IX) (i : IX) (ρ : IX → AV) (h : H) : Option Ans :=
  let ok (v : AV) : Option Ans := some (.val v h)
  let o (v : Option AV) : Option Ans := v.map (Ans.val · h)
  match ρ x, asI (ρ i) with
    | .ptr a, some i => if 0 ≤ i && i < n then ok (.ptr ⟨a.b, a.g, a.o + i.toNat * sz⟩) else none
    | _, _ => none
def k_ixS (x : IX) (i : IX) (ρ : IX → AV) (h : H) : Option Ans :=
  let ok (v : AV) : Option Ans := some (.val v h)
  let o (v : Option AV) : Option Ans := v.map (Ans.val · h)
  match ρ x, asI (ρ i) with
    | .str s, some i => if 0 ≤ i then (getL s i.toNat).map fun b => .val (.int .u8 b.toNat) h else none
    | _, _ => none
def k_ixA (n : Nat) (sz : Nat) (ag : Bool) (x : IX) (i : IX) (ρ : IX → AV) (h : H) : Option Ans :=
  let ok (v : AV) : Option Ans := some (.val v h)
  let o (v : Option AV) : Option Ans := v.map (Ans.val · h)
  match ρ x, asI (ρ i) with
    | .agg cs, some i => if 0 ≤ i && i < n then o (part cs (i.toNat * sz) (if ag then some sz else none)) else none
    | _, _ => none
def k_ext (x : IX) (i : Nat) (ρ : IX → AV) (h : H) : Option Ans :=
  let ok (v : AV) : Option Ans := some (.val v h)
  let o (v : Option AV) : Option Ans := v.map (Ans.val · h)
  match ρ x with
    | .tup vs => o (getL vs i)
    | _ => none
def k_rng (x : IX) (ρ : IX → AV) (h : H) : Option Ans :=
  let ok (v : AV) : Option Ans := some (.val v h)
  let o (v : Option AV) : Option Ans := v.map (Ans.val · h)
  match ρ x with
    | .str s => some (.val (.ptr ⟨h.n, 0, 0⟩) (h.new (.iter s 0)))
    | _ => none
def k_next (x : IX) (ρ : IX → AV) (h : H) : Option Ans :=
  let ok (v : AV) : Option Ans := some (.val v h)
  let o (v : Option AV) : Option Ans := v.map (Ans.val · h)
  match ρ x with
    | .ptr ⟨b, 0, 0⟩ => match h.get b with
      | some (.iter s pos) =>
        if pos < s.length then
          let (c, w) := Utf8.decode ⟨s.toArray⟩ pos
          some (.val (.tup [.bool true, .int .i64 pos, .int .i32 c]) (h.set b (.iter s (pos + w))))
        else ok (.tup [.bool false])
      | _ => none
    | _ => none
def k_sap (n : Nat) (x : IX) (ρ : IX → AV) (h : H) : Option Ans :=
  let ok (v : AV) : Option Ans := some (.val v h)
  let o (v : Option AV) : Option Ans := v.map (Ans.val · h)
  match ρ x with
    | .nils => if n == 0 then ok .nilp else none
    | .sl a m _ => if n ≤ m && 0 < n then ok (.ptr a) else none
    | _ => none
def k_call (f : FuncId) (args : List IX) (ρ : IX → AV) (h : H) : Option Ans :=
  let ok (v : AV) : Option Ans := some (.val v h)
  let o (v : Option AV) : Option Ans := v.map (Ans.val · h)
  some (.call f (args.map ρ))
def k_callv (f : IX) (args : List IX) (ρ : IX → AV) (h : H) : Option Ans :=
  let ok (v : AV) : Option Ans := some (.val v h)
  let o (v : Option AV) : Option Ans := v.map (Ans.val · h)
  match ρ f with
    | .fn (.func f) first captured => some (.call f (first ++ args.map ρ ++ captured))
    | _ => none
def k_app (e : Nat) (sz : Nat) (bytes : Nat) (st : Bool) (x : IX) (y : IX) (ρ : IX → AV) (h : H) : Option Ans :=
  let ok (v : AV) : Option Ans := some (.val v h)
  let o (v : Option AV) : Option Ans := v.map (Ans.val · h)
  if isStrV (ρ y) == st then append h e sz bytes (ρ x) (ρ y) else none
def k_len (st : Bool) (x : IX) (ρ : IX → AV) (h : H) : Option Ans :=
  let ok (v : AV) : Option Ans := some (.val v h)
  let o (v : Option AV) : Option Ans := v.map (Ans.val · h)
  match ρ x with
    | .str s => if st then ok (.int .i64 s.length) else none
    | .nils => if st then none else ok (.int .i64 0)
    | .sl _ n _ => if st then none else ok (.int .i64 n)
    | _ => none
def k_copy (sz : Nat) (x : IX) (y : IX) (ρ : IX → AV) (h : H) : Option Ans :=
  let ok (v : AV) : Option Ans := some (.val v h)
  let o (v : Option AV) : Option Ans := v.map (Ans.val · h)
  match ρ x, srcLen (ρ y) with
    | .nils, some _ => ok (.int .i64 0)
    | .sl a n _, some m => match srcFirst h sz (Nat.min m n) (ρ y) with
      | some cs => (h.st a cs).map fun h' => .val (.int .i64 (Nat.min m n : Nat)) h'
      | none => none
    | _, _ => none
def k_min (x : IX) (y : IX) (ρ : IX → AV) (h : H) : Option Ans :=
  let ok (v : AV) : Option Ans := some (.val v h)
  let o (v : Option AV) : Option Ans := v.map (Ans.val · h)
  match ρ x, ρ y with
    | .int k a, .int _ b => ok (.int k (if b < a then b else a))
    | _, _ => none
def k_max (x : IX) (y : IX) (ρ : IX → AV) (h : H) : Option Ans :=
  let ok (v : AV) : Option Ans := some (.val v h)
  let o (v : Option AV) : Option Ans := v.map (Ans.val · h)
  match ρ x, ρ y with
    | .int k a, .int _ b => ok (.int k (if b > a then b else a))
    | _, _ => none
def k_look (d : EqD) (z : AV) (okq : Bool) (x : IX) (i : IX) (ρ : IX → AV) (h : H) : Option Ans :=
  let ok (v : AV) : Option Ans := some (.val v h)
  let o (v : Option AV) : Option Ans := v.map (Ans.val · h)
  match ρ x with
    | .nilm => ok (if okq then .tup [z, .bool false] else z)
    | .map r => match h.get r with
      | some (.map es _) => match findKey d (ρ i) es 0 with
        | some (some (_, v)) => ok (if okq then .tup [v, .bool true] else v)
        | some none => ok (if okq then .tup [z, .bool false] else z)
        | none => none
      | _ => none
    | _ => none
def k_upd (d : EqD) (x : IX) (k : IX) (v : IX) (ρ : IX → AV) (h : H) : Option Ans :=
  let ok (v : AV) : Option Ans := some (.val v h)
  let o (v : Option AV) : Option Ans := v.map (Ans.val · h)
  match ρ x with
    | .map r => match h.get r with
      | some (.map es clock) => match findKey d (ρ k) es 0 with
        | some (some (i, _)) => match getL es i with
          | some (_, _, born) => some (.val .undef (h.set r (.map (setL es i (ρ k, ρ v, born)) clock)))
          | none => none
        | some none => some (.val .undef (h.set r (.map (es ++ [(ρ k, ρ v, clock)]) (clock + 1))))
        | none => none
      | _ => none
    | _ => none
def k_fail (ρ : IX → AV) (h : H) : Option Ans :=
  let ok (v : AV) : Option Ans := some (.val v h)
  let o (v : Option AV) : Option Ans := v.map (Ans.val · h)
  none
def k_mlen (x : IX) (ρ : IX → AV) (h : H) : Option Ans :=
  let ok (v : AV) : Option Ans := some (.val v h)
  let o (v : Option AV) : Option Ans := v.map (Ans.val · h)
  match ρ x with
    | .nilm => ok (.int .i64 0)
    | .map r => match h.get r with
      | some (.map es _) => ok (.int .i64 es.length)
      | _ => none
    | _ => none

def iopK (op : IOp) (ρ : IX → AV) (h : H) : Option Ans :=
  match op with
  | .mv x => k_mv x ρ h
  | .pick c a b => k_pick c a b ρ h
  | .new e x => k_new e x ρ h
  | .build z ps => k_build z ps ρ h
  | .bsl e z n ps => k_bsl e z n ps ρ h
  | .ld ag x => k_ld ag x ρ h
  | .st n a v => k_st n a v ρ h
  | .nilck x => k_nilck x ρ h
  | .bin op x y => k_bin op x y ρ h
  | .eq d neg lit x y => k_eq d neg lit x y ρ h
  | .un op x => k_un op x ρ h
  | .cvI k x => k_cvI k x ρ h
  | .cvSB e x => k_cvSB e x ρ h
  | .cvBS x => k_cvBS x ρ h
  | .cvSS x => k_cvSS x ρ h
  | .cvIS x => k_cvIS x ρ h
  | .cvBB x => k_cvBB x ρ h
  | .mkI t x => k_mkI t x ρ h
  | .mkF f a b => k_mkF f a b ρ h
  | .mkM => k_mkM ρ h
  | .mkS e z bytes l c => k_mkS e z bytes l c ρ h
  | .slS x lo hi => k_slS x lo hi ρ h
  | .slL sz x lo hi mx => k_slL sz x lo hi mx ρ h
  | .slA n sz x lo hi mx => k_slA n sz x lo hi mx ρ h
  | .fa off x => k_fa off x ρ h
  | .fd off sz x => k_fd off sz x ρ h
  | .ia sz x i => k_ia sz x i ρ h
  | .iaA n sz x i => k_iaA n sz x i ρ h
  | .ixS x i => k_ixS x i ρ h
  | .ixA n sz ag x i => k_ixA n sz ag x i ρ h
  | .ext x i => k_ext x i ρ h
  | .rng x => k_rng x ρ h
  | .next x => k_next x ρ h
  | .sap n x => k_sap n x ρ h
  | .call f args => k_call f args ρ h
  | .callv f args => k_callv f args ρ h
  | .app e sz bytes st x y => k_app e sz bytes st x y ρ h
  | .len st x => k_len st x ρ h
  | .copy sz x y => k_copy sz x y ρ h
  | .min x y => k_min x y ρ h
  | .max x y => k_max x y ρ h
  | .look d z okq x i => k_look d z okq x i ρ h
  | .upd d x k v => k_upd d x k v ρ h
  | .fail => k_fail ρ h
  | .mlen x => k_mlen x ρ h

theorem iopK_eq (op : IOp) (ρ : IX → AV) (h : H) : iopK op ρ h = iop op ρ h := by cases op <;> rfl

/-! Values that are laid out in full before they are passed on: for the kernel's run alone. -/

def forceN {β : Type} (n : Nat) (k : Nat → β) : β := match n with
  | 0 => k 0
  | m + 1 => k (m + 1)

def forceZ {β : Type} (n : Int) (k : Int → β) : β := match n with
  | .ofNat m => forceN m fun m => k (.ofNat m)
  | .negSucc m => forceN m fun m => k (.negSucc m)

def forceV {β : Type} (v : AV) (k : AV → β) : β := match v with
  | .int i n => forceZ n fun n => k (.int i n)
  | .bool true => k (.bool true)
  | .bool false => k (.bool false)
  | v => k v

theorem forceN_eq {β : Type} (n : Nat) (k : Nat → β) : forceN n k = k n := by cases n <;> rfl
theorem forceZ_eq {β : Type} (n : Int) (k : Int → β) : forceZ n k = k n := by cases n <;> simp only [forceZ, forceN_eq]
theorem forceV_eq {β : Type} (v : AV) (k : AV → β) : forceV v k = k v := by
  unfold forceV
  split
  · rw [forceZ_eq]
  · rfl
  · rfl
  · rfl
/-! ### Slots in a tree -/

inductive ST where
  | nil
  | node (v : AV) (l r : ST)

noncomputable def sget (t : ST) : Nat → Option AV :=
  ST.rec (fun _ => none) (fun v _ _ gl gr i => match i with
    | 0 => some v
    | j + 1 => match j % 2 with
      | 0 => gl (j / 2)
      | _ => gr (j / 2)) t

noncomputable def sset (t : ST) : Nat → AV → ST :=
  ST.rec (fun _ _ => .nil) (fun v l r fl fr i x => match i with
    | 0 => .node x l r
    | j + 1 => match j % 2 with
      | 0 => .node v (fl (j / 2) x) r
      | _ => .node v l (fr (j / 2) x)) t

def blank : Nat → Nat → ST
  | 0, _ => .nil
  | f + 1, n => match n with
    | 0 => .nil
    | m + 1 => .node .undef (blank f ((m + 1) / 2)) (blank f (m / 2))

theorem sget_node (v : AV) (l r : ST) (i : Nat) : sget (.node v l r) i = match i with
    | 0 => some v
    | j + 1 => match j % 2 with
      | 0 => sget l (j / 2)
      | _ => sget r (j / 2) := rfl
theorem sset_node (v : AV) (l r : ST) (i : Nat) (x : AV) : sset (.node v l r) i x = match i with
    | 0 => .node x l r
    | j + 1 => match j % 2 with
      | 0 => .node v (sset l (j / 2) x) r
      | _ => .node v l (sset r (j / 2) x) := rfl

theorem sget_sset : ∀ (t : ST) (i : Nat) (x : AV) (k : Nat), sget (sset t i x) k = if k = i ∧ (sget t k).isSome then some x else sget t k
  | .nil, i, x, k => by simp [sget, sset]
  | .node v l r, i, x, k => by
    rw [sset_node]
    cases i with
    | zero =>
      simp only [sget_node]
      cases k with
      | zero => simp
      | succ k => simp
    | succ j =>
      rcases Nat.mod_two_eq_zero_or_one j with hj | hj <;> simp only [hj, sget_node] <;> cases k with
      | zero => simp
      | succ k =>
        rcases Nat.mod_two_eq_zero_or_one k with hk | hk <;> simp only [hk] <;> first
          | (rw [sget_sset]; have e : (k / 2 = j / 2) ↔ (k + 1 = j + 1) := by omega
             simp only [e])
          | (have e : ¬ (k + 1 = j + 1) := by omega
             simp only [e, false_and, if_false])

theorem sget_blank : ∀ (f n i : Nat), n ≤ f → sget (blank f n) i = if i < n then some .undef else none
  | 0, n, i, h => by have : n = 0 := by omega
                     subst this; simp [blank, sget]
  | f + 1, 0, i, h => by simp [blank, sget]
  | f + 1, m + 1, i, h => by
    simp only [blank, sget_node]
    cases i with
    | zero => simp
    | succ j =>
      rcases Nat.mod_two_eq_zero_or_one j with hj | hj <;> simp only [hj] <;> rw [sget_blank f _ _ (by omega)] <;> congr 1 <;> apply propext <;> omega

/-- The tree holds what the list holds. -/
def SR (t : ST) (ts : List AV) : Prop := ∀ i, sget t i = getL ts i

theorem getL_setL' {α : Type} : ∀ (l : List α) (i : Nat) (v : α) (t : Nat), getL (setL l i v) t = if t = i ∧ (getL l t).isSome then some v else getL l t
  | [], i, v, t => by simp [setL, getL]
  | x :: l, 0, v, 0 => by simp [setL, getL]
  | x :: l, 0, v, t + 1 => by simp [setL, getL]
  | x :: l, i + 1, v, 0 => by simp [setL, getL]
  | x :: l, i + 1, v, t + 1 => by simp [setL, getL, getL_setL' l i v t]

theorem SR.set {t : ST} {ts : List AV} (h : SR t ts) (i : Nat) (v : AV) : SR (sset t i v) (setL ts i v) := by
  intro k
  rw [sget_sset, getL_setL', h k]

noncomputable def sput (t : ST) (d : Option Nat) (v : AV) : ST := match d with
  | none => t
  | some d => sset t d v

theorem SR.put {t : ST} {ts : List AV} (h : SR t ts) (d : Option Nat) (v : AV) : SR (sput t d v) (Det.put ts d v) := by
  cases d with
  | none => exact h
  | some d => exact h.set d v

noncomputable def evK (t : ST) : IX → AV
  | .t n => (sget t n).getD .undef
  | .c v => v
  | .g n => .ptr ⟨n, 0, 0⟩

theorem SR.ev {t : ST} {ts : List AV} (h : SR t ts) : evK t = Det.ev ts := by
  funext x
  cases x with
  | t n => simp only [evK, Det.ev, h n]
  | c v => rfl
  | g n => rfl

noncomputable def sargs : List AV → Nat → ST → ST
  | [], _, t => t
  | v :: l, i, t => sargs l (i + 1) (sset t i v)

theorem getL_eq' {α : Type} : ∀ (l : List α) (i : Nat), getL l i = l[i]?
  | [], _ => rfl
  | _ :: _, 0 => rfl
  | _ :: l, i + 1 => by simp [getL, getL_eq' l i]

theorem sget_sargs : ∀ (l : List AV) (i : Nat) (t : ST) (n : Nat), (∀ k, (sget t k).isSome = decide (k < n)) → i + l.length ≤ n → ∀ k, sget (sargs l i t) k = if i ≤ k ∧ k < i + l.length then l[k - i]? else sget t k
  | [], i, t, n, hn, h, k => by simp only [sargs, List.length_nil, Nat.add_zero]; rw [if_neg (by omega)]
  | v :: l, i, t, n, hn, h, k => by
    simp only [List.length_cons] at h
    simp only [sargs, List.length_cons]
    rw [sget_sargs l (i + 1) (sset t i v) n ?_ (by omega) k]
    · by_cases h1 : i + 1 ≤ k ∧ k < i + 1 + l.length
      · rw [if_pos h1, if_pos (by omega)]
        have : k - i = (k - (i + 1)) + 1 := by omega
        rw [this]; simp
      · rw [if_neg h1, sget_sset]
        by_cases h2 : k = i
        · subst h2
          rw [if_pos ⟨rfl, by rw [hn]; simp; omega⟩, if_pos (by omega)]
          simp
        · rw [if_neg (fun e => h2 e.1), if_neg (by omega)]
    · intro k
      rw [sget_sset]
      split
      · rename_i hk; rw [← hn k, hk.2]; rfl
      · exact hn k

theorem SR.start {args : List AV} {n : Nat} (h : args.length ≤ n) : SR (sargs args 0 (blank n n)) (args ++ List.replicate (n - args.length) .undef) := by
  have hb : ∀ k, sget (blank n n) k = if k < n then some .undef else none := fun k => sget_blank n n k (Nat.le_refl _)
  intro k
  rw [sget_sargs args 0 (blank n n) n (fun k => by rw [hb]; by_cases h : k < n <;> simp [h]) (by omega) k, getL_eq', hb]
  by_cases h1 : k < args.length
  · rw [if_pos (by omega), List.getElem?_append_left h1]; simp
  · rw [if_neg (by omega), List.getElem?_append_right (by omega), List.getElem?_replicate]
    by_cases h2 : k < n
    · rw [if_pos h2, if_pos (by omega)]
    · rw [if_neg h2, if_neg (by omega)]

/-! ### The machine -/

abbrev SK := ST × H

noncomputable def wantedK (g : Option (Nat × Bool)) (t : ST) : Bool :=
  match g with
  | none => true
  | some (i, w) => match sget t i with
    | some (.bool b) => b == w
    | _ => false

theorem SR.wanted {t : ST} {ts : List AV} (h : SR t ts) (g : Option (Nat × Bool)) : wantedK g t = Det.wanted g ts := by
  cases g with
  | none => rfl
  | some p => simp only [wantedK, Det.wanted, h p.1]; rfl

noncomputable def oneK (cf : CallF) (op : IOp) (t : ST) (h : H) : Option (AV × H) :=
  match iopK op (evK t) h with
  | some (.val v h') => some (v, h')
  | some (.call f args) => cf f args h
  | none => none

/-- One answer is the other's. -/
def Leads (f g : CallF) : Prop := ∀ i args h r, f i args h = some r → g i args h = some r

theorem SR.one {t : ST} {ts : List AV} (hs : SR t ts) {ck cf : CallF} (hl : Leads ck cf) {op : IOp} {h : H} {r : AV × H} (ho : oneK ck op t h = some r) : oneOp cf op ts h = some r := by
  unfold oneK at ho
  unfold oneOp
  rw [iopK_eq, hs.ev] at ho
  split at ho
  · rename_i hi; rw [hi]; exact ho
  · rename_i hi; rw [hi]; exact hl _ _ _ _ ho
  · simp at ho

noncomputable def runOpsK (cf : CallF) (l : List IOper) : ST → H → Option (ST × H) :=
  List.rec (fun t h => some (t, h)) (fun o _ k t h => match wantedK o.guard t with
    | true => match oneK cf o.op t h with
      | some (v, h') => forceV v fun v => k (sput t o.dst v) h'
      | none => none
    | false => k (sput t o.dst .undef) h) l

theorem runOpsK_cons (cf : CallF) (o : IOper) (l : List IOper) (t : ST) (h : H) : runOpsK cf (o :: l) t h = match wantedK o.guard t with
    | true => match oneK cf o.op t h with
      | some (v, h') => forceV v fun v => runOpsK cf l (sput t o.dst v) h'
      | none => none
    | false => runOpsK cf l (sput t o.dst .undef) h := rfl

/-- What the tree's run answers, the list's run answers. -/
def Sim {α : Type} (r : Option (α × SK)) (r' : Option (α × St)) : Prop := ∀ e t h, r = some (e, t, h) → ∃ ts, SR t ts ∧ r' = some (e, ts, h)

theorem runOpsK_sim {ck cf : CallF} (hl : Leads ck cf) : ∀ (l : List IOper) (t : ST) (ts : List AV) (h : H), SR t ts → ∀ t' h', runOpsK ck l t h = some (t', h') → ∃ ts', SR t' ts' ∧ runOps cf l ts h = some (ts', h')
  | [], t, ts, h, hs, t', h', hr => by
    simp only [runOpsK, Option.some.injEq, Prod.mk.injEq] at hr
    obtain ⟨rfl, rfl⟩ := hr
    exact ⟨ts, hs, rfl⟩
  | o :: l, t, ts, h, hs, t', h', hr => by
    rw [runOpsK_cons, hs.wanted] at hr
    simp only [runOps]
    split at hr
    · rename_i hw
      rw [if_pos hw]
      split at hr
      · rename_i v h1 ho
        rw [forceV_eq] at hr
        rw [hs.one hl ho]
        exact runOpsK_sim hl l _ _ _ (hs.put o.dst v) _ _ hr
      · simp at hr
    · rename_i hw
      rw [if_neg (by simp [hw])]
      exact runOpsK_sim hl l _ _ _ (hs.put o.dst _) _ _ hr

noncomputable def addK (l : Pend) (t : ST) (o : DOper) (v : AV) : Pend :=
  match rdOp (evK t) o.op with
  | some r => (r, v, o.id) :: l
  | none => l

theorem SR.add {t : ST} {ts : List AV} (h : SR t ts) (l : Pend) (o : DOper) (v : AV) : addK l t o v = Pend.add l ts o v := by
  unfold addK Pend.add
  rw [h.ev]
  rfl

noncomputable def runDrawK (cf : CallF) : List DOper → ST → H → Pend → Option (ST × H)
  | [], t, h, pend => if pend.holds h then some (t, h) else none
  | o :: os, t, h, pend =>
    if o.act then
      if pend.holds h then
        if wantedK o.guard t then
          match oneK cf o.op t h with
          | some (v, h') => forceV v fun v => runDrawK cf os (sput t o.dst v) h' (pend.filter fun p => !o.mask.testBit p.2.2)
          | none => none
        else runDrawK cf os (sput t o.dst .undef) h (pend.filter fun p => !o.mask.testBit p.2.2)
      else none
    else
      if wantedK o.guard t then
        match oneK cf o.op t h with
        | some (v, h') => forceV v fun v => runDrawK cf os (sput t o.dst v) h' (addK pend t o v)
        | none => none
      else runDrawK cf os (sput t o.dst .undef) h pend

theorem runDrawK_sim {ck cf : CallF} (hl : Leads ck cf) : ∀ (l : List DOper) (t : ST) (ts : List AV) (h : H) (pend : Pend), SR t ts → ∀ t' h', runDrawK ck l t h pend = some (t', h') → ∃ ts', SR t' ts' ∧ runDraw cf l ts h pend = some (ts', h')
  | [], t, ts, h, pend, hs, t', h', hr => by
    simp only [runDrawK] at hr
    simp only [runDraw]
    split at hr
    · rename_i hp
      simp only [Option.some.injEq, Prod.mk.injEq] at hr
      obtain ⟨rfl, rfl⟩ := hr
      exact ⟨ts, hs, by rw [if_pos hp]⟩
    · simp at hr
  | o :: l, t, ts, h, pend, hs, t', h', hr => by
    simp only [runDrawK, hs.wanted, hs.add, forceV_eq] at hr
    simp only [runDraw]
    split at hr
    · rename_i ha
      rw [if_pos ha]
      split at hr
      · rename_i hp
        rw [if_pos hp]
        split at hr
        · rename_i hw
          rw [if_pos hw]
          split at hr
          · rename_i v h1 ho
            rw [hs.one hl ho]
            exact runDrawK_sim hl l _ _ _ _ (hs.put o.dst v) _ _ hr
          · simp at hr
        · rename_i hw
          rw [if_neg hw]
          exact runDrawK_sim hl l _ _ _ _ (hs.put o.dst _) _ _ hr
      · simp at hr
    · rename_i ha
      rw [if_neg ha]
      split at hr
      · rename_i hw
        rw [if_pos hw]
        split at hr
        · rename_i v h1 ho
          rw [hs.one hl ho]
          exact runDrawK_sim hl l _ _ _ _ (hs.put o.dst v) _ _ hr
        · simp at hr
      · rename_i hw
        rw [if_neg hw]
        exact runDrawK_sim hl l _ _ _ _ (hs.put o.dst _) _ _ hr

noncomputable def roundsK (f : SK → Option (Ex × SK)) (n : Nat) : SK → Option (Ex × SK) :=
  Nat.rec (fun _ => none) (fun _ k s => match f s with
    | some (.normal, s') => k s'
    | r => r) n

theorem roundsK_sim {f : SK → Option (Ex × SK)} {g : St → Option (Ex × St)} (hfg : ∀ t ts h, SR t ts → Sim (f (t, h)) (g (ts, h))) : ∀ (n : Nat) (t : ST) (ts : List AV) (h : H), SR t ts → Sim (roundsK f n (t, h)) (rounds g n (ts, h))
  | 0, t, ts, h, hs => by intro e t' h' hr; simp [roundsK] at hr
  | n + 1, t, ts, h, hs => by
    intro e t' h' hr
    have hr : (match f (t, h) with
      | some (.normal, s') => roundsK f n s'
      | r => r) = some (e, t', h') := hr
    simp only [rounds]
    split at hr
    · rename_i s' hf
      obtain ⟨t1, h1⟩ := s'
      obtain ⟨ts1, hs1, hg⟩ := hfg t ts h hs _ _ _ hf
      rw [hg]
      exact roundsK_sim hfg n t1 ts1 h1 hs1 e t' h' hr
    · rename_i hne
      obtain ⟨ts1, hs1, hg⟩ := hfg t ts h hs _ _ _ hr
      refine ⟨ts1, hs1, ?_⟩
      rw [hg]
      cases e with
      | normal => exact absurd hr (hne _)
      | _ => rfl

noncomputable def execK (cf : CallF) (rc : IC → SK → Option (Ex × SK)) (fuel : Nat) : IC → SK → Option (Ex × SK)
  | .skip, s => some (.normal, s)
  | .label _, s => some (.normal, s)
  | .region ops, s => match runOpsK cf ops s.1 s.2 with
    | some s' => some (.normal, s')
    | none => none
  | .draw ops, s => match runDrawK cf ops s.1 s.2 [] with
    | some s' => some (.normal, s')
    | none => none
  | .seq a b, s => match execK cf rc fuel a s with
    | some (.normal, s') => execK cf rc fuel b s'
    | r => r
  | .cond x a b, s => match evK s.1 x with
    | .bool true => execK cf rc fuel a s
    | .bool false => execK cf rc fuel b s
    | _ => none
  | .block id a, s => match execK cf rc fuel a s with
    | some (.exit i, s') => if i == id then some (.normal, s') else some (.exit i, s')
    | r => r
  | .loop a, s => roundsK (execK cf rc fuel a) fuel s
  | .exit id, s => some (.exit id, s)
  | .ret, s => some (.ret, s)
  | .scope a, s => match execK cf rc fuel a s with
    | some (.goto l, s') => match a.find l with
      | some r => rc (.inS a r) s'
      | none => some (.goto l, s')
    | r => r
  | .inS a b, s => match execK cf rc fuel b s with
    | some (.goto l, s') => match a.find l with
      | some r => rc (.inS a r) s'
      | none => some (.goto l, s')
    | r => r
  | .goto l, s => some (.goto l, s)

def SimC (f : IC → SK → Option (Ex × SK)) (g : IC → St → Option (Ex × St)) : Prop := ∀ c t ts h, SR t ts → Sim (f c (t, h)) (g c (ts, h))

theorem execK_sim {ck cf : CallF} (hl : Leads ck cf) {rc : IC → SK → Option (Ex × SK)} {rc' : IC → St → Option (Ex × St)} (hrc : SimC rc rc') (fuel : Nat) : SimC (execK ck rc fuel) (exec cf rc' fuel) := by
  intro c
  induction c with
  | skip => intro t ts h hs e t' h' hr; simp only [execK, Option.some.injEq, Prod.mk.injEq] at hr; obtain ⟨rfl, rfl, rfl⟩ := hr; exact ⟨ts, hs, rfl⟩
  | label _ => intro t ts h hs e t' h' hr; simp only [execK, Option.some.injEq, Prod.mk.injEq] at hr; obtain ⟨rfl, rfl, rfl⟩ := hr; exact ⟨ts, hs, rfl⟩
  | exit _ => intro t ts h hs e t' h' hr; simp only [execK, Option.some.injEq, Prod.mk.injEq] at hr; obtain ⟨rfl, rfl, rfl⟩ := hr; exact ⟨ts, hs, rfl⟩
  | ret => intro t ts h hs e t' h' hr; simp only [execK, Option.some.injEq, Prod.mk.injEq] at hr; obtain ⟨rfl, rfl, rfl⟩ := hr; exact ⟨ts, hs, rfl⟩
  | goto _ => intro t ts h hs e t' h' hr; simp only [execK, Option.some.injEq, Prod.mk.injEq] at hr; obtain ⟨rfl, rfl, rfl⟩ := hr; exact ⟨ts, hs, rfl⟩
  | region ops =>
    intro t ts h hs e t' h' hr
    simp only [execK] at hr
    split at hr
    · rename_i s' ho
      simp only [Option.some.injEq, Prod.mk.injEq] at hr
      obtain ⟨rfl, rfl⟩ := hr
      obtain ⟨ts', hs', h2⟩ := runOpsK_sim hl ops t ts h hs _ _ ho
      exact ⟨ts', hs', by simp only [exec, h2]; rfl⟩
    · simp at hr
  | draw ops =>
    intro t ts h hs e t' h' hr
    simp only [execK] at hr
    split at hr
    · rename_i s' ho
      simp only [Option.some.injEq, Prod.mk.injEq] at hr
      obtain ⟨rfl, rfl⟩ := hr
      obtain ⟨ts', hs', h2⟩ := runDrawK_sim hl ops t ts h [] hs _ _ ho
      exact ⟨ts', hs', by simp only [exec, h2]; rfl⟩
    · simp at hr
  | seq a b iha ihb =>
    intro t ts h hs e t' h' hr
    simp only [execK] at hr
    simp only [exec]
    split at hr
    · rename_i s' ha
      obtain ⟨t1, h1⟩ := s'
      obtain ⟨ts1, hs1, hg⟩ := iha t ts h hs _ _ _ ha
      rw [hg]
      exact ihb t1 ts1 h1 hs1 e t' h' hr
    · rename_i hne
      obtain ⟨ts1, hs1, hg⟩ := iha t ts h hs _ _ _ hr
      refine ⟨ts1, hs1, ?_⟩
      rw [hg]
      cases e with
      | normal => exact absurd hr (hne _)
      | _ => rfl
  | cond x a b iha ihb =>
    intro t ts h hs e t' h' hr
    simp only [execK, hs.ev] at hr
    simp only [exec]
    split at hr
    · rename_i hx; rw [hx]; exact iha t ts h hs e t' h' hr
    · rename_i hx; rw [hx]; exact ihb t ts h hs e t' h' hr
    · simp at hr
  | block id a iha =>
    intro t ts h hs e t' h' hr
    simp only [execK] at hr
    simp only [exec]
    split at hr
    · rename_i i s' ha
      obtain ⟨t1, h1⟩ := s'
      obtain ⟨ts1, hs1, hg⟩ := iha t ts h hs _ _ _ ha
      rw [hg]
      simp only []
      split at hr
      · rename_i hi
        simp only [Option.some.injEq, Prod.mk.injEq] at hr
        obtain ⟨rfl, rfl, rfl⟩ := hr
        exact ⟨ts1, hs1, by rw [if_pos hi]⟩
      · rename_i hi
        simp only [Option.some.injEq, Prod.mk.injEq] at hr
        obtain ⟨rfl, rfl, rfl⟩ := hr
        exact ⟨ts1, hs1, by rw [if_neg hi]⟩
    · rename_i hne
      obtain ⟨ts1, hs1, hg⟩ := iha t ts h hs _ _ _ hr
      refine ⟨ts1, hs1, ?_⟩
      rw [hg]
      cases e with
      | exit i => exact absurd hr (hne _ _)
      | _ => rfl
  | loop a iha =>
    intro t ts h hs e t' h' hr
    simp only [execK] at hr
    simp only [exec]
    exact roundsK_sim (fun t ts h hs => iha t ts h hs) fuel t ts h hs e t' h' hr
  | scope a iha =>
    intro t ts h hs e t' h' hr
    simp only [execK] at hr
    simp only [exec]
    split at hr
    · rename_i l s' ha
      obtain ⟨t1, h1⟩ := s'
      obtain ⟨ts1, hs1, hg⟩ := iha t ts h hs _ _ _ ha
      rw [hg]
      simp only []
      split at hr
      · rename_i r hf
        rw [hf]
        exact hrc _ t1 ts1 h1 hs1 e t' h' hr
      · rename_i hf
        rw [hf]
        simp only [Option.some.injEq, Prod.mk.injEq] at hr
        obtain ⟨rfl, rfl, rfl⟩ := hr
        exact ⟨ts1, hs1, rfl⟩
    · rename_i hne
      obtain ⟨ts1, hs1, hg⟩ := iha t ts h hs _ _ _ hr
      refine ⟨ts1, hs1, ?_⟩
      rw [hg]
      cases e with
      | goto l => exact absurd hr (hne _ _)
      | _ => rfl
  | inS a b _ ihb =>
    intro t ts h hs e t' h' hr
    simp only [execK] at hr
    simp only [exec]
    split at hr
    · rename_i l s' ha
      obtain ⟨t1, h1⟩ := s'
      obtain ⟨ts1, hs1, hg⟩ := ihb t ts h hs _ _ _ ha
      rw [hg]
      simp only []
      split at hr
      · rename_i r hf
        rw [hf]
        exact hrc _ t1 ts1 h1 hs1 e t' h' hr
      · rename_i hf
        rw [hf]
        simp only [Option.some.injEq, Prod.mk.injEq] at hr
        obtain ⟨rfl, rfl, rfl⟩ := hr
        exact ⟨ts1, hs1, rfl⟩
    · rename_i hne
      obtain ⟨ts1, hs1, hg⟩ := ihb t ts h hs _ _ _ hr
      refine ⟨ts1, hs1, ?_⟩
      rw [hg]
      cases e with
      | goto l => exact absurd hr (hne _ _)
      | _ => rfl

noncomputable def resK (h : H) (t : ST) : List (Nat × Option (Option Nat)) → Option (List AV)
  | [] => some []
  | (i, none) :: r => match resK h t r with
    | some l => some ((sget t i).getD .undef :: l)
    | none => none
  | (i, some ag) :: r => match iopK (.ld ag (.t i)) (evK t) h with
    | some (.val v _) => match resK h t r with
      | some l => some (v :: l)
      | none => none
    | _ => none

theorem resK_eq {t : ST} {ts : List AV} (hs : SR t ts) (h : H) : ∀ rs, resK h t rs = resOf h ts rs
  | [] => rfl
  | (i, none) :: r => by
    simp only [resK, resOf, resK_eq hs h r, hs i]
    cases resOf h ts r <;> rfl
  | (i, some ag) :: r => by
    simp only [resK, resOf, resK_eq hs h r, iopK_eq, hs.ev]
    split
    · rename_i v _ hv
      rw [hv]
      cases resOf h ts r <;> rfl
    · rename_i hv
      split
      · rename_i v _ hv'; exact absurd hv' (hv _ _)
      · rfl

noncomputable def retK (h : H) (t : ST) (rs : List (Nat × Option (Option Nat))) : Option AV :=
  match resK h t rs with
  | some [v] => some v
  | some vs => some (.tup vs)
  | none => none

theorem retK_eq {t : ST} {ts : List AV} (hs : SR t ts) (h : H) (rs : List (Nat × Option (Option Nat))) : retK h t rs = retV h ts rs := by
  unfold retK retV
  rw [resK_eq hs]
  rfl

structure MachK where
  call : CallF
  code : IC → SK → Option (Ex × SK)

noncomputable def callK (F : FTab) (n : Nat) (m : MachK) : CallF := fun f args h =>
  match F f with
  | Option.none => Option.none
  | some fn => match fn.known with
    | true => match args with
      | [] => some (.bool true, h)
      | _ => Option.none
    | false => match Nat.ble args.length fn.ntmps with
      | false => Option.none
      | true => match execK m.call m.code n fn.body (sargs args 0 (blank fn.ntmps fn.ntmps), h) with
        | some (.normal, s) => match retK s.2 s.1 fn.results with
          | some v => some (v, s.2)
          | Option.none => Option.none
        | some (.ret, s) => match retK s.2 s.1 fn.results with
          | some v => some (v, s.2)
          | Option.none => Option.none
        | _ => Option.none

noncomputable def machK (F : FTab) : Nat → MachK
  | 0 => ⟨fun _ _ _ => Option.none, fun _ _ => Option.none⟩
  | n + 1 => ⟨callK F n (machK F n), execK (machK F n).call (machK F n).code n⟩

theorem callK_sim (F : FTab) (n : Nat) {m : MachK} {m' : Mach} (hl : Leads m.call m'.call) (hc : SimC m.code m'.code) : Leads (callK F n m) (callStep F n m') := by
  intro f args h r hr
  unfold callK at hr
  unfold callStep
  split at hr
  · simp at hr
  · rename_i fn hf
    rw [hf]
    simp only []
    split at hr
    · rename_i hk
      rw [if_pos hk]
      split at hr
      · exact hr
      · simp at hr
    · rename_i hk
      rw [if_neg (by simp [hk])]
      split at hr
      · simp at hr
      · rename_i hlen
        have hlen := Nat.le_of_ble_eq_true hlen
        have hs := SR.start hlen
        have sim := execK_sim hl hc n fn.body _ _ h hs
        split at hr
        · rename_i s he
          obtain ⟨t1, h1⟩ := s
          obtain ⟨ts1, hs1, hg⟩ := sim _ _ _ he
          rw [hg]
          simp only [retK_eq hs1] at hr ⊢
          split at hr
          · rename_i v hv; rw [hv]; exact hr
          · simp at hr
        · rename_i s he
          obtain ⟨t1, h1⟩ := s
          obtain ⟨ts1, hs1, hg⟩ := sim _ _ _ he
          rw [hg]
          simp only [retK_eq hs1] at hr ⊢
          split at hr
          · rename_i v hv; rw [hv]; exact hr
          · simp at hr
        · simp at hr

theorem machK_sim (F : FTab) : ∀ n, Leads (machK F n).call (mach F n).call ∧ SimC (machK F n).code (mach F n).code
  | 0 => ⟨fun _ _ _ _ hr => by simp [machK] at hr, fun _ _ _ _ _ _ _ _ hr => by simp [machK] at hr⟩
  | n + 1 => by
    obtain ⟨h1, h2⟩ := machK_sim F n
    exact ⟨callK_sim F n h1 h2, execK_sim h1 h2 n⟩

end Go.Det

/- The deterministic machine of a program without package variables, and what a run of it says of the real program. -/
set_option linter.unusedVariables false
set_option linter.unusedSimpArgs false
set_option linter.unusedSectionVars false
namespace Go.Det
open Go.RowKit

/-- The machine's functions, as they are made from the program's. -/
noncomputable def tabOf (P : Program) : FTab := fun f => match P.funcs[f]? with
  | some fn => if fn.name == "runtime.NumGoroutine" then none else compFunc P fn
  | none => none

theorem tabOf_ok (P : Program) : FOk P (tabOf P) := by
  intro f fn h
  unfold tabOf at h
  split at h
  · rename_i fn' hfn
    split at h
    · simp at h
    · rename_i hn
      exact ⟨fn', hfn, by simpa using hn, .inl h⟩
  · simp at h

theorem mach_all {P : Program} {F : FTab} (hF : FOk P F) (hm : P.follows .mixedOrders = true) (w0 : World) (n : Nat) : CallOk P w0 (mach F n).call := (mach_ok hF (fun _ h => draw_ok hm h) n).1

/-- The same, but for some functions that are known to answer true. -/
noncomputable def tabWith (P : Program) (K : List FuncId) : FTab := fun f => if K.contains f then some ⟨0, [], .skip, true⟩ else tabOf P f

theorem tabWith_ok (P : Program) (K : List FuncId) (hK : ∀ f ∈ K, ∃ fn, P.funcs[f]? = some fn ∧ (fn.name == "runtime.NumGoroutine") = false ∧ fn.body.isSome = true ∧ ∀ W, Calls P f #[] W (fun e W' => e = .returned (.bool true) ∧ Below W.heap.size W W')) : FOk P (tabWith P K) := by
  intro f fn h
  unfold tabWith at h
  split at h
  · rename_i hf
    simp only [Option.some.injEq] at h
    subst h
    obtain ⟨fn', h1, h2, h3, h4⟩ := hK f (by simpa using hf)
    exact ⟨fn', h1, h2, .inr ⟨rfl, h3, h4⟩⟩
  · exact tabOf_ok P f fn h

def H0 : H := ⟨0, .leaf⟩

def isT : Option (AV × H) → Bool
  | some (.bool true, _) => true
  | _ => false

theorem WRel.empty {w0 : World} : WRel (fun _ _ => none) w0 0 H0 w0 :=
  ⟨Below.refl _ _, fun _ h => absurd h (Nat.not_lt_zero _), fun _ _ _ e => by simp at e, fun _ _ _ _ e => by simp at e, fun _ _ _ _ _ _ _ _ e => by simp at e⟩

/-- A closed law that the machine finds true is true. -/
theorem closed_true {P : Program} {F : FTab} (hF : FOk P F) (hm : P.follows .mixedOrders = true) (hg : P.globals.size = 0) {n : Nat} {f : FuncId} (h : isT ((machK F n).call f [] H0) = true) (W : World) :
    Calls P f #[] W (fun e W' => e = .returned (.bool true) ∧ Below W.heap.size W W') := by
  unfold isT at h
  split at h
  · rename_i h' he
    have := (mach_all hF hm W n f [] H0 _ h' ((machK_sim F n).1 _ _ _ _ he) (fun _ _ => none) W #[] VRels.nil (hg ▸ WRel.empty)).2
    refine this.mono ?_
    rintro e W' ⟨v', μ', rfl, rfl, hW, _⟩
    exact ⟨rfl, hW.base⟩
  · simp at h

end Go.Det

/- The deterministic machine without its fuel: what a code comes to, rule by rule. -/
set_option linter.unusedVariables false
set_option linter.unusedSimpArgs false
set_option linter.unusedSectionVars false
namespace Go.Det

/-! ### More fuel changes no answer -/

def CLe (f g : CallF) : Prop := ∀ i args h r, f i args h = some r → g i args h = some r
def RLe (f g : IC → St → Option (Ex × St)) : Prop := ∀ c s r, f c s = some r → g c s = some r

section mono
variable {cf cf' : CallF} (hc : CLe cf cf')

include hc in
theorem oneOp_mono {op : IOp} {ts : List AV} {h : H} {r : AV × H} (ho : oneOp cf op ts h = some r) : oneOp cf' op ts h = some r := by
  unfold oneOp at ho ⊢
  split at ho
  · exact ho
  · exact hc _ _ _ _ ho
  · simp at ho

include hc in
theorem runOps_mono : ∀ (l : List IOper) (ts : List AV) (h : H) (r : List AV × H), runOps cf l ts h = some r → runOps cf' l ts h = some r
  | [], ts, h, r, hr => hr
  | o :: l, ts, h, r, hr => by
    simp only [runOps] at hr ⊢
    split at hr
    · rename_i hw
      rw [if_pos hw]
      split at hr
      · rename_i ho
        rw [oneOp_mono hc ho]
        exact runOps_mono l _ _ _ hr
      · simp at hr
    · rename_i hw
      rw [if_neg hw]
      exact runOps_mono l _ _ _ hr

include hc in
theorem runDraw_mono : ∀ (l : List DOper) (ts : List AV) (h : H) (p : Pend) (r : List AV × H), runDraw cf l ts h p = some r → runDraw cf' l ts h p = some r
  | [], ts, h, p, r, hr => hr
  | o :: l, ts, h, p, r, hr => by
    simp only [runDraw] at hr ⊢
    split at hr
    · rename_i ha
      rw [if_pos ha]
      split at hr
      · rename_i hp
        rw [if_pos hp]
        split at hr
        · rename_i hw
          rw [if_pos hw]
          split at hr
          · rename_i ho
            rw [oneOp_mono hc ho]
            exact runDraw_mono l _ _ _ _ hr
          · simp at hr
        · rename_i hw
          rw [if_neg hw]
          exact runDraw_mono l _ _ _ _ hr
      · simp at hr
    · rename_i ha
      rw [if_neg ha]
      split at hr
      · rename_i hw
        rw [if_pos hw]
        split at hr
        · rename_i ho
          rw [oneOp_mono hc ho]
          exact runDraw_mono l _ _ _ _ hr
        · simp at hr
      · rename_i hw
        rw [if_neg hw]
        exact runDraw_mono l _ _ _ _ hr

theorem rounds_mono {S : Type} {f g : S → Option (Ex × S)} (hfg : ∀ s r, f s = some r → g s = some r) : ∀ (n m : Nat) (s : S) (r : Ex × S), n ≤ m → rounds f n s = some r → rounds g m s = some r
  | 0, m, s, r, h, hr => by simp [rounds] at hr
  | n + 1, 0, s, r, h, hr => by omega
  | n + 1, m + 1, s, r, h, hr => by
    simp only [rounds] at hr ⊢
    split at hr
    · rename_i s' hf
      rw [hfg _ _ hf]
      exact rounds_mono hfg n m s' r (by omega) hr
    · rename_i hne
      rw [hfg _ _ hr]
      obtain ⟨e, s'⟩ := r
      cases e with
      | normal => exact absurd hr (hne _)
      | _ => rfl

include hc in
theorem exec_mono {rc rc' : IC → St → Option (Ex × St)} (hrc : RLe rc rc') {n m : Nat} (hn : n ≤ m) : ∀ (c : IC) (s : St) (r : Ex × St), exec cf rc n c s = some r → exec cf' rc' m c s = some r := by
  intro c
  induction c with
  | skip => intro s r hr; exact hr
  | label _ => intro s r hr; exact hr
  | exit _ => intro s r hr; exact hr
  | ret => intro s r hr; exact hr
  | goto _ => intro s r hr; exact hr
  | region ops =>
    intro s r hr
    simp only [exec, Option.map_eq_some_iff] at hr ⊢
    obtain ⟨x, h1, h2⟩ := hr
    exact ⟨x, runOps_mono hc _ _ _ _ h1, h2⟩
  | draw ops =>
    intro s r hr
    simp only [exec, Option.map_eq_some_iff] at hr ⊢
    obtain ⟨x, h1, h2⟩ := hr
    exact ⟨x, runDraw_mono hc _ _ _ _ _ h1, h2⟩
  | seq a b iha ihb =>
    intro s r hr
    simp only [exec] at hr ⊢
    split at hr
    · rename_i s' ha
      rw [iha _ _ ha]
      exact ihb _ _ hr
    · rename_i hne
      rw [iha _ _ hr]
      obtain ⟨e, s'⟩ := r
      cases e with
      | normal => exact absurd hr (hne _)
      | _ => rfl
  | cond x a b iha ihb =>
    intro s r hr
    simp only [exec] at hr ⊢
    split at hr
    · exact iha _ _ hr
    · exact ihb _ _ hr
    · simp at hr
  | block id a iha =>
    intro s r hr
    simp only [exec] at hr ⊢
    split at hr
    · rename_i i s' ha
      rw [iha _ _ ha]
      exact hr
    · rename_i hne
      rw [iha _ _ hr]
      obtain ⟨e, s'⟩ := r
      cases e with
      | exit i => exact absurd hr (hne _ _)
      | _ => rfl
  | loop a iha =>
    intro s r hr
    simp only [exec] at hr ⊢
    exact rounds_mono iha n m s r hn hr
  | scope a iha =>
    intro s r hr
    simp only [exec] at hr ⊢
    split at hr
    · rename_i l s' ha
      rw [iha _ _ ha]
      simp only []
      split at hr
      · exact hrc _ _ _ hr
      · exact hr
    · rename_i hne
      rw [iha _ _ hr]
      obtain ⟨e, s'⟩ := r
      cases e with
      | goto l => exact absurd hr (hne _ _)
      | _ => rfl
  | inS a b _ ihb =>
    intro s r hr
    simp only [exec] at hr ⊢
    split at hr
    · rename_i l s' ha
      rw [ihb _ _ ha]
      simp only []
      split at hr
      · exact hrc _ _ _ hr
      · exact hr
    · rename_i hne
      rw [ihb _ _ hr]
      obtain ⟨e, s'⟩ := r
      cases e with
      | goto l => exact absurd hr (hne _ _)
      | _ => rfl
end mono

theorem mach_succ (F : FTab) : ∀ n, CLe (mach F n).call (mach F (n + 1)).call ∧ RLe (mach F n).code (mach F (n + 1)).code
  | 0 => ⟨fun _ _ _ _ h => by simp [mach, Mach.none] at h, fun _ _ _ h => by simp [mach, Mach.none] at h⟩
  | n + 1 => by
    obtain ⟨h1, h2⟩ := mach_succ F n
    refine ⟨?_, fun c s r h => exec_mono h1 h2 (Nat.le_succ n) c s r h⟩
    intro f args h r hr
    have hr : callStep F n (mach F n) f args h = some r := hr
    show callStep F (n + 1) (mach F (n + 1)) f args h = some r
    unfold callStep at hr ⊢
    split at hr
    · simp at hr
    · rename_i fn hf
      split at hr
      · rename_i hk; rw [if_pos hk]; exact hr
      rename_i hk
      rw [if_neg hk]
      split at hr
      · rename_i s he; rw [exec_mono h1 h2 (Nat.le_succ n) _ _ _ he]; exact hr
      · rename_i s he; rw [exec_mono h1 h2 (Nat.le_succ n) _ _ _ he]; exact hr
      · simp at hr

theorem mach_le (F : FTab) {n m : Nat} (h : n ≤ m) : CLe (mach F n).call (mach F m).call ∧ RLe (mach F n).code (mach F m).code := by
  induction h with
  | refl => exact ⟨fun _ _ _ _ h => h, fun _ _ _ h => h⟩
  | step _ ih => exact ⟨fun i a h r x => (mach_succ F _).1 _ _ _ _ (ih.1 i a h r x), fun c s r x => (mach_succ F _).2 _ _ _ (ih.2 c s r x)⟩

/-! ### Without fuel -/

/-- The call answers so. -/
def Runs (F : FTab) (f : FuncId) (args : List AV) (h : H) (v : AV) (h' : H) : Prop := ∃ n, (mach F n).call f args h = some (v, h')

/-- The code comes to an exit and a state of which Q holds. -/
def Wp (F : FTab) (c : IC) (s : St) (Q : Ex → St → Prop) : Prop := ∃ n e s', exec (mach F n).call (mach F n).code n c s = some (e, s') ∧ Q e s'

/-- The operations come to a state of which Q holds. -/
def Wo (F : FTab) (l : List IOper) (ts : List AV) (h : H) (Q : List AV → H → Prop) : Prop := ∃ n ts' h', runOps (mach F n).call l ts h = some (ts', h') ∧ Q ts' h'

section rules
variable {F : FTab}

theorem exec_le {n m : Nat} (h : n ≤ m) {c : IC} {s : St} {r : Ex × St} (hr : exec (mach F n).call (mach F n).code n c s = some r) : exec (mach F m).call (mach F m).code m c s = some r :=
  exec_mono (mach_le F h).1 (mach_le F h).2 h c s r hr

theorem Wp.mono {c : IC} {s : St} {Q Q' : Ex → St → Prop} (h : Wp F c s Q) (hq : ∀ e s', Q e s' → Q' e s') : Wp F c s Q' := by
  obtain ⟨n, e, s', h1, h2⟩ := h
  exact ⟨n, e, s', h1, hq _ _ h2⟩

theorem Wp.skip {s : St} {Q : Ex → St → Prop} (h : Q .normal s) : Wp F .skip s Q := ⟨0, _, _, rfl, h⟩
theorem Wp.ret {s : St} {Q : Ex → St → Prop} (h : Q .ret s) : Wp F .ret s Q := ⟨0, _, _, rfl, h⟩
theorem Wp.exit {i : Nat} {s : St} {Q : Ex → St → Prop} (h : Q (.exit i) s) : Wp F (.exit i) s Q := ⟨0, _, _, rfl, h⟩
theorem Wp.label {i : Nat} {s : St} {Q : Ex → St → Prop} (h : Q .normal s) : Wp F (.label i) s Q := ⟨0, _, _, rfl, h⟩
theorem Wp.goto {i : Nat} {s : St} {Q : Ex → St → Prop} (h : Q (.goto i) s) : Wp F (.goto i) s Q := ⟨0, _, _, rfl, h⟩

/-- What stands behind goes on where it came through. -/
def thenQ (F : FTab) (b : IC) (Q : Ex → St → Prop) : Ex → St → Prop
  | .normal, s => Wp F b s Q
  | e, s => Q e s

theorem Wp.seq {a b : IC} {s : St} {Q : Ex → St → Prop} (h : Wp F a s (thenQ F b Q)) : Wp F (.seq a b) s Q := by
  obtain ⟨n, e, s', h1, h2⟩ := h
  cases e with
  | normal =>
    obtain ⟨m, e2, s2, h3, h4⟩ := h2
    refine ⟨max n m, e2, s2, ?_, h4⟩
    simp only [exec]
    rw [exec_le (Nat.le_max_left n m) h1]
    exact exec_le (Nat.le_max_right n m) h3
  | _ => exact ⟨n, _, s', by simp only [exec]; rw [h1], h2⟩

theorem Wp.cond {x : IX} {a b : IC} {s : St} {Q : Ex → St → Prop} (c : Bool) (hx : ev s.1 x = .bool c) (h : if c = true then Wp F a s Q else Wp F b s Q) : Wp F (.cond x a b) s Q := by
  cases c with
  | true =>
    obtain ⟨n, e, s', h1, h2⟩ : Wp F a s Q := by simpa using h
    exact ⟨n, e, s', by simp only [exec, hx]; exact h1, h2⟩
  | false =>
    obtain ⟨n, e, s', h1, h2⟩ : Wp F b s Q := by simpa using h
    exact ⟨n, e, s', by simp only [exec, hx]; exact h1, h2⟩

/-- A block's exit ends it. -/
def blockQ (id : Nat) (Q : Ex → St → Prop) : Ex → St → Prop
  | .exit i, s => if i = id then Q .normal s else Q (.exit i) s
  | e, s => Q e s

theorem Wp.block {id : Nat} {a : IC} {s : St} {Q : Ex → St → Prop} (h : Wp F a s (blockQ id Q)) : Wp F (.block id a) s Q := by
  obtain ⟨n, e, s', h1, h2⟩ := h
  cases e with
  | exit i =>
    have h2 : if i = id then Q .normal s' else Q (.exit i) s' := h2
    by_cases hi : i = id
    · rw [if_pos hi] at h2
      exact ⟨n, .normal, s', by simp only [exec]; rw [h1]; simp [hi], h2⟩
    · rw [if_neg hi] at h2
      exact ⟨n, .exit i, s', by simp only [exec]; rw [h1]; simp [hi], h2⟩
  | _ => exact ⟨n, _, s', by simp only [exec]; rw [h1], h2⟩

theorem Wp.loop {a : IC} {s : St} {Q : Ex → St → Prop} (h : Wp F a s (thenQ F (.loop a) Q)) : Wp F (.loop a) s Q := by
  obtain ⟨n, e, s', h1, h2⟩ := h
  cases e with
  | normal =>
    obtain ⟨m, e2, s2, h3, h4⟩ := h2
    refine ⟨max n m + 1, e2, s2, ?_, h4⟩
    simp only [exec, rounds]
    rw [exec_le (by omega : n ≤ max n m + 1) h1]
    simp only []
    have h3 : rounds (exec (mach F m).call (mach F m).code m a) m s' = some (e2, s2) := h3
    exact rounds_mono (fun s r h => exec_le (by omega) h) m (max n m) s' _ (by omega) h3
  | _ => exact ⟨n + 1, _, s', by simp only [exec, rounds]; rw [exec_le (Nat.le_succ n) h1], h2⟩

theorem Wp.region {l : List IOper} {ts : List AV} {h : H} {Q : Ex → St → Prop} (hw : Wo F l ts h (fun ts' h' => Q .normal (ts', h'))) : Wp F (.region l) (ts, h) Q := by
  obtain ⟨n, ts', h', h1, h2⟩ := hw
  exact ⟨n, .normal, (ts', h'), by simp only [exec, h1]; rfl, h2⟩

theorem Wo.nil {ts : List AV} {h : H} {Q : List AV → H → Prop} (hq : Q ts h) : Wo F [] ts h Q := ⟨0, ts, h, rfl, hq⟩

/-- An operation that answers by itself. -/
theorem Wo.val {o : IOper} {l : List IOper} {ts : List AV} {h : H} {Q : List AV → H → Prop} (v : AV) (h' : H) (hg : wanted o.guard ts = true) (hi : iop o.op (ev ts) h = some (.val v h')) (hw : Wo F l (put ts o.dst v) h' Q) : Wo F (o :: l) ts h Q := by
  obtain ⟨n, ts2, h2, h3, h4⟩ := hw
  exact ⟨n, ts2, h2, by simp only [runOps, oneOp, hg, hi, if_true]; exact h3, h4⟩

theorem Wo.call {o : IOper} {l : List IOper} {ts : List AV} {h : H} {Q : List AV → H → Prop} {f : FuncId} {args : List AV} (hg : wanted o.guard ts = true) (hi : iop o.op (ev ts) h = some (.call f args)) {v : AV} {h' : H} (hr : Runs F f args h v h') (hw : Wo F l (put ts o.dst v) h' Q) : Wo F (o :: l) ts h Q := by
  obtain ⟨n, h1⟩ := hr
  obtain ⟨m, ts2, h2, h3, h4⟩ := hw
  refine ⟨max n m, ts2, h2, ?_, h4⟩
  have e1 := (mach_le F (Nat.le_max_left n m)).1 _ _ _ _ h1
  have e2 := runOps_mono (mach_le F (Nat.le_max_right n m)).1 _ _ _ _ h3
  simp only [runOps, oneOp, hg, hi, if_true, e1]
  exact e2

theorem Wo.not {o : IOper} {l : List IOper} {ts : List AV} {h : H} {Q : List AV → H → Prop} (hg : wanted o.guard ts = false) (hw : Wo F l (put ts o.dst .undef) h Q) : Wo F (o :: l) ts h Q := by
  obtain ⟨n, ts2, h2, h3, h4⟩ := hw
  exact ⟨n, ts2, h2, by simp only [runOps, hg]; exact h3, h4⟩

/-- A function's run is its code's. -/
theorem Runs.of {f : FuncId} {fn : IFunc} (hF : F f = some fn) (hk : fn.known = false) {args : List AV} {h : H} {v : AV} {h' : H}
    (hw : Wp F fn.body (args ++ List.replicate (fn.ntmps - args.length) .undef, h) (fun e s => (e = .normal ∨ e = .ret) ∧ s.2 = h' ∧ retV s.2 s.1 fn.results = some v)) : Runs F f args h v h' := by
  obtain ⟨n, e, s', h1, h2, h3, h4⟩ := hw
  refine ⟨n + 1, ?_⟩
  show callStep F n (mach F n) f args h = _
  unfold callStep
  rw [hF]
  simp only [hk, Bool.false_eq_true, if_false, h1]
  subst h3
  rcases h2 with rfl | rfl <;> simp only [h4, Option.map_some]

/-! ### The same as equivalences, for simp: a walk is one simp up to loops and calls -/

theorem skip_iff {s : St} {Q : Ex → St → Prop} : Wp F .skip s Q ↔ Q .normal s :=
  ⟨fun ⟨n, e, s', h1, h2⟩ => by simp only [exec, Option.some.injEq, Prod.mk.injEq] at h1; obtain ⟨rfl, rfl⟩ := h1; exact h2, Wp.skip⟩
theorem ret_iff {s : St} {Q : Ex → St → Prop} : Wp F .ret s Q ↔ Q .ret s :=
  ⟨fun ⟨n, e, s', h1, h2⟩ => by simp only [exec, Option.some.injEq, Prod.mk.injEq] at h1; obtain ⟨rfl, rfl⟩ := h1; exact h2, Wp.ret⟩
theorem exit_iff {i : Nat} {s : St} {Q : Ex → St → Prop} : Wp F (.exit i) s Q ↔ Q (.exit i) s :=
  ⟨fun ⟨n, e, s', h1, h2⟩ => by simp only [exec, Option.some.injEq, Prod.mk.injEq] at h1; obtain ⟨rfl, rfl⟩ := h1; exact h2, Wp.exit⟩

theorem seq_iff {a b : IC} {s : St} {Q : Ex → St → Prop} : Wp F (.seq a b) s Q ↔ Wp F a s (thenQ F b Q) := by
  refine ⟨?_, Wp.seq⟩
  rintro ⟨n, e, s', h1, h2⟩
  simp only [exec] at h1
  split at h1
  · rename_i s1 h3; exact ⟨n, _, s1, h3, n, e, s', h1, h2⟩
  · rename_i hne
    refine ⟨n, e, s', h1, ?_⟩
    cases e with
    | normal => exact absurd h1 (hne _)
    | _ => exact h2

theorem block_iff {id : Nat} {a : IC} {s : St} {Q : Ex → St → Prop} : Wp F (.block id a) s Q ↔ Wp F a s (blockQ id Q) := by
  refine ⟨?_, Wp.block⟩
  rintro ⟨n, e, s', h1, h2⟩
  simp only [exec] at h1
  split at h1
  · rename_i i s1 h3
    refine ⟨n, _, s1, h3, ?_⟩
    show if i = id then Q .normal s1 else Q (.exit i) s1
    by_cases hi : i = id
    · rw [if_pos hi]; simp only [hi, BEq.rfl, if_true, Option.some.injEq, Prod.mk.injEq] at h1; obtain ⟨rfl, rfl⟩ := h1; exact h2
    · rw [if_neg hi]; rw [if_neg (by simpa using hi)] at h1; simp only [Option.some.injEq, Prod.mk.injEq] at h1; obtain ⟨rfl, rfl⟩ := h1; exact h2
  · rename_i hne
    refine ⟨n, e, s', h1, ?_⟩
    cases e with
    | exit i => exact absurd h1 (hne _ _)
    | _ => exact h2

theorem thenQ_normal {b : IC} {Q : Ex → St → Prop} {s : St} : thenQ F b Q .normal s ↔ Wp F b s Q := Iff.rfl
theorem thenQ_ret {b : IC} {Q : Ex → St → Prop} {s : St} : thenQ F b Q .ret s ↔ Q .ret s := Iff.rfl
theorem thenQ_exit {b : IC} {Q : Ex → St → Prop} {s : St} {i : Nat} : thenQ F b Q (.exit i) s ↔ Q (.exit i) s := Iff.rfl
theorem thenQ_goto {b : IC} {Q : Ex → St → Prop} {s : St} {i : Nat} : thenQ F b Q (.goto i) s ↔ Q (.goto i) s := Iff.rfl
theorem blockQ_normal {id : Nat} {Q : Ex → St → Prop} {s : St} : blockQ id Q .normal s ↔ Q .normal s := Iff.rfl
theorem blockQ_ret {id : Nat} {Q : Ex → St → Prop} {s : St} : blockQ id Q .ret s ↔ Q .ret s := Iff.rfl
theorem blockQ_exit {id i : Nat} {Q : Ex → St → Prop} {s : St} : blockQ id Q (.exit i) s ↔ if i = id then Q .normal s else Q (.exit i) s := Iff.rfl
theorem blockQ_goto {id i : Nat} {Q : Ex → St → Prop} {s : St} : blockQ id Q (.goto i) s ↔ Q (.goto i) s := Iff.rfl

/-- Two ways, by a value. -/
def condQ (v : AV) (A B : Prop) : Prop := match v with
  | .bool c => (c = true → A) ∧ (c = false → B)
  | _ => False

theorem condQ_bool {c : Bool} {A B : Prop} : condQ (.bool c) A B ↔ if c = true then A else B := by cases c <;> simp [condQ]

theorem cond_iff {x : IX} {a b : IC} {ts : List AV} {h : H} {Q : Ex → St → Prop} : Wp F (.cond x a b) (ts, h) Q ↔ condQ (ev ts x) (Wp F a (ts, h) Q) (Wp F b (ts, h) Q) := by
  constructor
  · rintro ⟨n, e, s', h1, h2⟩
    simp only [exec] at h1
    split at h1
    · rename_i hx; rw [hx]; exact ⟨fun _ => ⟨n, e, s', h1, h2⟩, fun h => by simp at h⟩
    · rename_i hx; rw [hx]; exact ⟨fun h => by simp at h, fun _ => ⟨n, e, s', h1, h2⟩⟩
    · simp at h1
  · intro hc
    unfold condQ at hc
    split at hc
    · rename_i c hx
      refine Wp.cond c hx ?_
      cases c with
      | true => simpa using hc.1
      | false => simpa using hc.2
    · exact hc.elim

theorem region_iff {l : List IOper} {ts : List AV} {h : H} {Q : Ex → St → Prop} : Wp F (.region l) (ts, h) Q ↔ Wo F l ts h (fun ts' h' => Q .normal (ts', h')) := by
  refine ⟨?_, Wp.region⟩
  rintro ⟨n, e, s', h1, h2⟩
  simp only [exec, Option.map_eq_some_iff, Prod.mk.injEq] at h1
  obtain ⟨⟨ts', h'⟩, h3, rfl, rfl⟩ := h1
  exact ⟨n, ts', h', h3, h2⟩

theorem wo_nil {ts : List AV} {h : H} {Q : List AV → H → Prop} : Wo F [] ts h Q ↔ Q ts h :=
  ⟨fun ⟨n, ts', h', h1, h2⟩ => by simp only [runOps, Option.some.injEq, Prod.mk.injEq] at h1; obtain ⟨rfl, rfl⟩ := h1; exact h2, Wo.nil⟩

/-- What an operation's answer leads to. -/
def ansQ (F : FTab) (a : Option Ans) (h : H) (K : AV → H → Prop) : Prop := match a with
  | some (.val v h') => K v h'
  | some (.call f args) => ∃ v h', Runs F f args h v h' ∧ K v h'
  | none => False

theorem ansQ_val {v : AV} {h h' : H} {K : AV → H → Prop} : ansQ F (some (.val v h')) h K ↔ K v h' := Iff.rfl
theorem ansQ_call {f : FuncId} {args : List AV} {h : H} {K : AV → H → Prop} : ansQ F (some (.call f args)) h K ↔ ∃ v h', Runs F f args h v h' ∧ K v h' := Iff.rfl

/-- Simp goes into an answer, not into what it leads to. -/
theorem ansQ_congr {a a' : Option Ans} {h : H} {K : AV → H → Prop} (e : a = a') : ansQ F a h K = ansQ F a' h K := by rw [e]
theorem condQ_congr {v v' : AV} {A B : Prop} (e : v = v') : condQ v A B = condQ v' A B := by rw [e]

theorem Wo_congr {l : List IOper} {ts ts' : List AV} {h h' : H} {Q : List AV → H → Prop} (e : ts = ts') (e' : h = h') : Wo F l ts h Q = Wo F l ts' h' Q := by rw [e, e']
theorem Wp_congr {c : IC} {s s' : St} {Q : Ex → St → Prop} (e : s = s') : Wp F c s Q = Wp F c s' Q := by rw [e]

theorem wo_cons {d : Option Nat} {op : IOp} {l : List IOper} {ts : List AV} {h : H} {Q : List AV → H → Prop} : Wo F (⟨d, op, none⟩ :: l) ts h Q ↔ ansQ F (iop op (ev ts) h) h (fun v h' => Wo F l (put ts d v) h' Q) := by
  constructor
  · rintro ⟨n, ts', h', h1, h2⟩
    simp only [runOps, wanted, if_true, oneOp] at h1
    unfold ansQ
    split at h1
    · rename_i v h3 h4
      split at h4
      · rename_i hi
        simp only [Option.some.injEq, Prod.mk.injEq] at h4
        obtain ⟨rfl, rfl⟩ := h4
        rw [hi]
        exact ⟨n, ts', h', h1, h2⟩
      · rename_i hi
        rw [hi]
        exact ⟨v, h3, ⟨n, h4⟩, n, ts', h', h1, h2⟩
      · simp at h4
    · simp at h1
  · intro hq
    unfold ansQ at hq
    split at hq
    · rename_i hi; exact Wo.val _ _ rfl hi hq
    · rename_i hi; obtain ⟨v, h', h1, h2⟩ := hq; exact Wo.call rfl hi h1 h2
    · exact hq.elim

/-- An operation under a guard. -/
theorem wo_guard {d : Option Nat} {op : IOp} {t : Nat} {w : Bool} {l : List IOper} {ts : List AV} {h : H} {Q : List AV → H → Prop} : Wo F (⟨d, op, some (t, w)⟩ :: l) ts h Q ↔ if wanted (some (t, w)) ts = true then Wo F (⟨d, op, none⟩ :: l) ts h Q else Wo F l (put ts d .undef) h Q := by
  constructor
  · rintro ⟨n, ts', h', h1, h2⟩
    simp only [runOps] at h1
    split at h1
    · rename_i hw
      rw [if_pos hw]
      exact ⟨n, ts', h', by simp only [runOps, wanted, if_true]; exact h1, h2⟩
    · rename_i hw
      rw [if_neg hw]
      exact ⟨n, ts', h', h1, h2⟩
  · intro hq
    split at hq
    · rename_i hw
      obtain ⟨n, ts', h', h3, h4⟩ := hq
      refine ⟨n, ts', h', ?_, h4⟩
      simp only [runOps, wanted, if_true] at h3
      simp only [runOps]
      rw [if_pos hw]
      exact h3
    · rename_i hw
      obtain ⟨n, ts', h', h3, h4⟩ := hq
      refine ⟨n, ts', h', ?_, h4⟩
      simp only [runOps]
      rw [if_neg hw]
      exact h3

/-- A function that is known. -/
theorem Runs.known {f : FuncId} (hF : F f = some ⟨0, [], .skip, true⟩) (h : H) : Runs F f [] h (.bool true) h := by
  refine ⟨1, ?_⟩
  show callStep F 0 (mach F 0) f [] h = _
  unfold callStep
  rw [hF]
  rfl

end rules

/-- The walk: what simp takes. -/
theorem Runs.of' {F : FTab} {f : FuncId} {fn : IFunc} (hF : F f = some fn) {args : List AV} {h : H} {v : AV} {h' : H} {n : Nat} {R : List (Nat × Option (Option Nat))} {B : IC} (hfn : fn = ⟨n, R, B, false⟩)
    (hw : Wp F B (args ++ List.replicate (n - args.length) .undef, h) (fun e s => (e = .normal ∨ e = .ret) ∧ s.2 = h' ∧ retV s.2 s.1 R = some v)) : Runs F f args h v h' := by
  subst hfn
  exact Runs.of hF rfl hw

/-- The same where the result is not named ahead. -/
theorem Runs.ofP {F : FTab} {f : FuncId} {fn : IFunc} (hF : F f = some fn) {args : List AV} {h : H} {P : AV → H → Prop} {n : Nat} {R : List (Nat × Option (Option Nat))} {B : IC} (hfn : fn = ⟨n, R, B, false⟩)
    (hw : Wp F B (args ++ List.replicate (n - args.length) .undef, h) (fun e s => (e = .normal ∨ e = .ret) ∧ ∃ v, retV s.2 s.1 R = some v ∧ P v s.2)) : ∃ v h', Runs F f args h v h' ∧ P v h' := by
  obtain ⟨k, e, s', h1, h2, v, h3, h4⟩ := hw
  refine ⟨v, s'.2, Runs.of' hF hfn ⟨k, e, s', h1, h2, rfl, h3⟩, h4⟩

end Go.Det

/- Rows of bytes in the deterministic machine's memory: what is read of them, what is appended to them. -/
set_option linter.unusedVariables false
set_option linter.unusedSimpArgs false
set_option linter.unusedSectionVars false
namespace Go.Det

/-- What was there stands as it stood. -/
def Ext (h h' : H) : Prop := h.n ≤ h'.n ∧ ∀ b, b < h.n → h'.get b = h.get b

theorem Ext.refl (h : H) : Ext h h := ⟨Nat.le_refl _, fun _ _ => rfl⟩
theorem Ext.trans {h h' h'' : H} (a : Ext h h') (b : Ext h' h'') : Ext h h'' := ⟨Nat.le_trans a.1 b.1, fun k hk => (b.2 k (Nat.lt_of_lt_of_le hk a.1)).trans (a.2 k hk)⟩
theorem Ext.new (h : H) (B : Blk) : Ext h (h.new B) := ⟨by simp, fun b hb => h.get_new_ne b B (by omega)⟩

/-- A row of bytes as it reads. -/
def Bs (h : H) (v : AV) (l : List UInt8) : Prop := (v = .nils ∧ l = []) ∨ ∃ a c, v = .sl a l.length c ∧ a.b < h.n ∧ h.ldn a l.length = some (bytesAV l)

theorem row_same {h h' : H} {a : AA} (e : h'.get a.b = h.get a.b) : h'.row a = h.row a := by unfold H.row; rw [e]
theorem ldn_same {h h' : H} {a : AA} (e : h'.get a.b = h.get a.b) (n : Nat) : h'.ldn a n = h.ldn a n := by unfold H.ldn; rw [row_same e]

theorem Bs.ext {h h' : H} {v : AV} {l : List UInt8} (hb : Bs h v l) (he : Ext h h') : Bs h' v l := by
  rcases hb with ⟨rfl, rfl⟩ | ⟨a, c, rfl, h1, h2⟩
  · exact .inl ⟨rfl, rfl⟩
  · exact .inr ⟨a, c, rfl, Nat.lt_of_lt_of_le h1 he.1, by rw [ldn_same (he.2 _ h1)]; exact h2⟩

/-- A row of bytes of its own, made at lo or later: what is appended stands behind. -/
def Ow (lo : Nat) (h : H) (v : AV) (l : List UInt8) : Prop := (v = .nils ∧ l = []) ∨ ∃ b g, lo ≤ b ∧ b < h.n ∧ h.get b = some (.cells g 5 (bytesAV l) 0 false) ∧ (v = .sl ⟨b, g, 0⟩ l.length (.op 1) ∨ v = .sl ⟨b, g, 0⟩ l.length (.ex l.length))

theorem bytes_len (l : List UInt8) : (bytesAV l).length = l.length := by simp [bytesAV]
theorem bytes_app (l m : List UInt8) : bytesAV l ++ bytesAV m = bytesAV (l ++ m) := by simp [bytesAV]
theorem cut_all {α : Type} (c : List α) : cut c 0 c.length = some c := by simp [cut]

theorem Ow.bs {lo : Nat} {h : H} {v : AV} {l : List UInt8} (ho : Ow lo h v l) : Bs h v l := by
  rcases ho with ⟨rfl, rfl⟩ | ⟨b, g, _, h1, h2, h3⟩
  · exact .inl ⟨rfl, rfl⟩
  · have hl : h.ldn ⟨b, g, 0⟩ l.length = some (bytesAV l) := by
      unfold H.ldn H.row
      simp only [h2, BEq.rfl, if_true]
      rw [← bytes_len l]
      exact cut_all _
    rcases h3 with rfl | rfl <;> exact .inr ⟨_, _, rfl, h1, hl⟩

theorem Ow.mono {lo lo' : Nat} {h : H} {v : AV} {l : List UInt8} (ho : Ow lo h v l) (hl : lo' ≤ lo) : Ow lo' h v l := by
  rcases ho with h1 | ⟨b, g, h1, h2⟩
  · exact .inl h1
  · exact .inr ⟨b, g, Nat.le_trans hl h1, h2⟩

theorem Ow.ext {lo : Nat} {h h' : H} {v : AV} {l : List UInt8} (ho : Ow lo h v l) (he : Ext h h') : Ow lo h' v l := by
  rcases ho with h1 | ⟨b, g, h1, h2, h3, h4⟩
  · exact .inl h1
  · exact .inr ⟨b, g, h1, Nat.lt_of_lt_of_le h2 he.1, by rw [he.2 _ h2]; exact h3, h4⟩

theorem bytes_one (l : List UInt8) : (bytesAV l).all AV.one = true := by simp [bytesAV, AV.one]

theorem Bs.src {h : H} {v : AV} {l : List UInt8} (hb : Bs h v l) : srcCells h 1 v = some (l.length, bytesAV l) := by
  rcases hb with ⟨rfl, rfl⟩ | ⟨a, c, rfl, _, h2⟩
  · rfl
  · simp only [srcCells, Nat.mul_one, h2, Option.map_some]

theorem Bs.notStr {h : H} {v : AV} {l : List UInt8} (hb : Bs h v l) : isStrV v = false := by
  rcases hb with ⟨rfl, rfl⟩ | ⟨a, c, rfl, _, h2⟩ <;> rfl

/-- What lies at lo or later may change. -/
def Ext2 (lo : Nat) (h h' : H) : Prop := h.n ≤ h'.n ∧ ∀ b, b < lo → h'.get b = h.get b
theorem Ext2.trans {lo : Nat} {h h' h'' : H} (a : Ext2 lo h h') (b : Ext2 lo h' h'') : Ext2 lo h h'' := ⟨Nat.le_trans a.1 b.1, fun k hk => (b.2 k hk).trans (a.2 k hk)⟩
theorem Ext.two {lo : Nat} {h h' : H} (a : Ext h h') (hl : lo ≤ h.n) : Ext2 lo h h' := ⟨a.1, fun b hb => a.2 b (by omega)⟩
theorem Ext2.one {h h' : H} (a : Ext2 h.n h h') : Ext h h' := a

/-- Bytes appended to a row of its own. -/
theorem Ow.app {lo : Nat} {h : H} {x y : AV} {l m : List UInt8} (hx : Ow lo h x l) (hy : Bs h y m) (hlo : lo ≤ h.n) (hl : l.length + m.length ≤ maxRow) :
    ∃ v h', append h 5 1 1 x y = some (.val v h') ∧ Ow lo h' v (l ++ m) ∧ Ext2 lo h h' ∧ (∀ b, b < h.n → (∀ g n c, x ≠ .sl ⟨b, g, 0⟩ n c) → h'.get b = h.get b) := by
  have hmr : maxRow ≤ 9223372036854775807 := by unfold maxRow; omega
  unfold append
  rw [hy.src]
  simp only []
  rcases hx with ⟨rfl, rfl⟩ | ⟨b, g, h1, h2, h3, h4⟩
  · simp only [List.length_nil, Nat.zero_add, Nat.mul_one] at *
    by_cases hm : m = []
    · subst hm
      exact ⟨.nils, h, by simp, .inl ⟨rfl, rfl⟩, ⟨Nat.le_refl _, fun _ _ => rfl⟩, fun _ _ _ => rfl⟩
    · have hm0 : m.length ≠ 0 := by simpa using hm
      refine ⟨_, _, by rw [if_neg (by simpa using hm0), if_pos (by simp [bytes_one]; omega)], .inr ⟨h.n, 0, hlo, by simp, by rw [h.get_new]; simp, .inl (by simp)⟩, (Ext.new h _).two hlo, fun b hb _ => h.get_new_ne b _ (by omega)⟩
  · have hbl := bytes_len l
    rcases h4 with rfl | rfl
    · simp only []
      by_cases hm : m = []
      · subst hm
        exact ⟨.sl ⟨b, g, 0⟩ l.length (.op 1), h, by simp, .inr ⟨b, g, h1, h2, by simpa using h3, .inl (by simp)⟩, ⟨Nat.le_refl _, fun _ _ => rfl⟩, fun _ _ _ => rfl⟩
      · have hm0 : m.length ≠ 0 := by simpa using hm
        rw [if_neg (by simpa using hm0), if_neg (by simp [bytes_one]; omega)]
        simp only [h3]
        rw [if_pos (by simp [hbl])]
        refine ⟨_, _, rfl, .inr ⟨b, g + 1, h1, by simpa using h2, by rw [h.get_set, bytes_app], .inl (by simp)⟩, ⟨Nat.le_refl _, fun k hk => h.get_set_ne b k _ (by omega)⟩, fun k hk hne => h.get_set_ne b k _ (fun e => hne g l.length (.op 1) (by rw [e]))⟩
    · simp only []
      by_cases hm : m = []
      · subst hm
        exact ⟨.sl ⟨b, g, 0⟩ l.length (.ex l.length), h, by simp, .inr ⟨b, g, h1, h2, by simpa using h3, .inr (by simp)⟩, ⟨Nat.le_refl _, fun _ _ => rfl⟩, fun _ _ _ => rfl⟩
      · have hm0 : m.length ≠ 0 := by simpa using hm
        have hm1 : l.length < l.length + m.length := by omega
        have hld : h.ldn ⟨b, g, 0⟩ (l.length * 1) = some (bytesAV l) := by
          unfold H.ldn H.row
          simp only [h3, BEq.rfl, if_true, Nat.mul_one]
          rw [← hbl]
          exact cut_all _
        rw [if_neg (by simpa using hm0), if_neg (by simp [bytes_one]; omega), if_pos hm1, hld]
        refine ⟨_, _, rfl, .inr ⟨h.n, 0, hlo, by simp, by rw [h.get_new, bytes_app], .inl (by simp)⟩, (Ext.new h _).two hlo, fun k hk _ => h.get_new_ne k _ (by omega)⟩

def b8 (x : Int) : UInt8 := UInt8.ofNat (x % 256).toNat

theorem wrap_u8 (x : Int) : IntKind.u8.wrap x = ((b8 x).toNat : Int) := by
  have h1 : IntKind.u8.wrap x = x % 256 := by simp [IntKind.wrap, IntKind.bits, IntKind.signed]
  rw [h1, b8, UInt8.toNat_ofNat']
  omega

end Go.Det

/- What a walk needs: slots behind writes, numbers that fit. -/
set_option linter.unusedVariables false
set_option linter.unusedSimpArgs false
set_option linter.unusedSectionVars false
namespace Go.Det

theorem getL_put {α : Type} : ∀ (l : List α) (i : Nat) (v : α) (t : Nat), getL (setL l i v) t = if t = i ∧ t < l.length then some v else getL l t
  | [], i, v, t => by simp [setL, getL]
  | x :: l, 0, v, 0 => by simp [setL, getL]
  | x :: l, 0, v, t + 1 => by simp [setL, getL]
  | x :: l, i + 1, v, 0 => by simp [setL, getL]
  | x :: l, i + 1, v, t + 1 => by simp [setL, getL, getL_put l i v t]
theorem len_put {α : Type} : ∀ (l : List α) (i : Nat) (v : α), (setL l i v).length = l.length
  | [], _, _ => rfl
  | _ :: _, 0, _ => rfl
  | _ :: l, i + 1, v => by simp [setL, len_put l i v]

theorem i64_fit (x : Int) (h : -(2 ^ 63) ≤ x ∧ x < 2 ^ 63) : IntKind.i64.wrap x = x := by simp [IntKind.wrap, IntKind.bits, IntKind.signed]; omega
theorem u64_fit (x : Int) (h : 0 ≤ x ∧ x < 2 ^ 64) : IntKind.u64.wrap x = x := by simp [IntKind.wrap, IntKind.bits, IntKind.signed]; omega
/-- A row of one byte, just made. -/
theorem Bs.one (h : H) (c : UInt8) : Bs (h.new (.cells 0 5 [.int .u8 c.toNat] 0 false)) (.sl ⟨h.n, 0, 0⟩ 1 (.ex 1)) [c] := by
  refine .inr ⟨⟨h.n, 0, 0⟩, .ex 1, rfl, by simp, ?_⟩
  unfold H.ldn H.row
  simp only [h.get_new, BEq.rfl, if_true]
  rfl

theorem get_byte : ∀ (l : List UInt8) (k : Nat), getL (bytesAV l) k = (l[k]?).map fun c => AV.int .u8 c.toNat
  | [], k => by simp [bytesAV, getL]
  | x :: l, 0 => by simp [bytesAV, getL]
  | x :: l, k + 1 => by
    have := get_byte l k
    simp only [bytesAV, List.map_cons, getL, List.getElem?_cons_succ] at this ⊢
    exact this

theorem ofNat_mod (x : Nat) : UInt8.ofNat (x % 256) = UInt8.ofNat x := by
  apply UInt8.toNat_inj.1
  simp

theorem iop_ld {x : IX} {ρ : IX → AV} {h : H} {ag : Option Nat} {a : AA} {v : AV} (hx : ρ x = .ptr a) (hv : h.ldg a ag = some v) : iop (.ld ag x) ρ h = some (.val v h) := by
  simp only [iop, hx, hv, Option.map_some]

theorem Bs.len {h : H} {v : AV} {l : List UInt8} (hb : Bs h v l) {x : IX} {ρ : IX → AV} (hx : ρ x = v) : iop (.len false x) ρ h = some (.val (.int .i64 l.length) h) := by
  rcases hb with ⟨rfl, rfl⟩ | ⟨a, c, rfl, _, _⟩ <;> simp only [iop, hx] <;> rfl

/-- The slots behind operations that call nothing and leave the memory: not laid out; the kernel reckons them where a fact asks. -/
def slots (l : List IOper) (ts : List AV) (h : H) : List AV := match runOps (fun _ _ _ => none) l ts h with
  | some (ts', _) => ts'
  | none => []

def quiets (l : List IOper) (ts : List AV) (h : H) : Option H := match runOps (fun _ _ _ => none) l ts h with
  | some (_, h') => some h'
  | none => none

theorem runOps_app (cf : CallF) : ∀ (l m : List IOper) (ts : List AV) (h : H), runOps cf (l ++ m) ts h = match runOps cf l ts h with
    | some (ts', h') => runOps cf m ts' h'
    | none => none
  | [], m, ts, h => rfl
  | o :: l, m, ts, h => by
    simp only [List.cons_append, runOps]
    split
    · split
      · exact runOps_app cf l m _ _
      · rfl
    · exact runOps_app cf l m _ _

/-- The first k operations, run by the kernel. -/
theorem Wo.pre {F : FTab} (k : Nat) {l : List IOper} {ts : List AV} {h : H} {Q : List AV → H → Prop} (hq : quiets (l.take k) ts h = some h) (hw : Wo F (l.drop k) (slots (l.take k) ts h) h Q) : Wo F l ts h Q := by
  unfold quiets at hq
  split at hq
  · rename_i ts' h' hr
    simp only [Option.some.injEq] at hq
    subst hq
    have e : slots (l.take k) ts h' = ts' := by unfold slots; rw [hr]
    rw [e] at hw
    obtain ⟨n, ts2, h2, h3, h4⟩ := hw
    refine ⟨n, ts2, h2, ?_, h4⟩
    rw [← List.take_append_drop k l, runOps_app, runOps_mono (cf' := (mach F n).call) (fun _ _ _ _ x => by simp at x) _ _ _ _ hr]
    exact h3
  · simp at hq

theorem Wo.all {F : FTab} {l : List IOper} {ts : List AV} {h : H} {Q : List AV → H → Prop} (hq : quiets l ts h = some h) (hw : Q (slots l ts h) h) : Wo F l ts h Q := by
  refine Wo.pre l.length (by simpa using hq) ?_
  simp only [List.drop_length, List.take_length]
  exact Wo.nil hw

theorem ldn_take {h : H} {a : AA} {m : Nat} {c : List AV} (hc : h.ldn a m = some c) {n : Nat} (hn : n ≤ m) : h.ldn a n = some (c.take n) := by
  unfold H.ldn at hc ⊢
  cases hr : h.row a with
  | some c0 =>
    rw [hr] at hc
    simp only [] at hc ⊢
    simp only [cut] at hc ⊢
    split at hc
    · rename_i hl
      simp only [Option.some.injEq] at hc
      subst hc
      have hl : ((c0.drop a.o).take m).length = m := by simpa using hl
      rw [List.length_take] at hl
      rw [if_pos (by simp [List.length_take]; simp at hl; omega), List.take_take, Nat.min_eq_left hn]
    · simp at hc
  | none => rw [hr] at hc; simp at hc

theorem row_drop {h : H} {a : AA} {c : List AV} (hr : h.row a = some c) (n : Nat) : h.row ⟨a.b, a.g, a.o + n⟩ = some c := by
  unfold H.row at hr ⊢
  simp only [] at hr ⊢
  split at hr
  · rename_i hg
    split at hr
    · rename_i hk
      simp only [Bool.and_eq_true, Bool.or_eq_true, decide_eq_true_eq] at hk
      rw [if_pos (by simp only [Bool.and_eq_true, Bool.or_eq_true, decide_eq_true_eq]; exact ⟨hk.1, hk.2.imp id (fun x => Nat.le_add_right_of_le x)⟩)]
      exact hr
    · simp at hr
  · simp at hr

theorem ldn_drop {h : H} {a : AA} {m : Nat} {c : List AV} (hc : h.ldn a m = some c) {n : Nat} (hn : n ≤ m) : h.ldn ⟨a.b, a.g, a.o + n⟩ (m - n) = some (c.drop n) := by
  unfold H.ldn at hc ⊢
  cases hr : h.row a with
  | some c0 =>
    rw [row_drop hr n]
    rw [hr] at hc
    simp only [] at hc ⊢
    simp only [cut] at hc ⊢
    split at hc
    · rename_i hl
      simp only [Option.some.injEq] at hc
      subst hc
      have hl : ((c0.drop a.o).take m).length = m := by simpa using hl
      rw [List.length_take] at hl
      rw [if_pos (by simp [List.length_take]; simp at hl; omega), List.drop_take, List.drop_drop]
    · simp at hc
  | none => rw [hr] at hc; simp at hc

theorem bytes_take (l : List UInt8) (n : Nat) : (bytesAV l).take n = bytesAV (l.take n) := by simp [bytesAV, List.map_take]
theorem bytes_drop (l : List UInt8) (n : Nat) : (bytesAV l).drop n = bytesAV (l.drop n) := by simp [bytesAV, List.map_drop]

/-- The rest of a row. -/
theorem Bs.drop {h : H} {v : AV} {l : List UInt8} (hb : Bs h v l) (hok : ∀ a m c, v = .sl a m c → (∃ k, c = .ex k ∧ m ≤ k) ∨ c = .op 1) {n : Nat} (hn : n ≤ l.length) :
    ∃ v', (∀ (x y : IX) (ρ : IX → AV), ρ x = v → ρ y = .int .i64 n → iop (.slL 1 x (some y) none none) ρ h = some (.val v' h)) ∧ Bs h v' (l.drop n) ∧ (∀ a m c, v' = .sl a m c → (∃ a0 m0 c0, v = .sl a0 m0 c0 ∧ a0.b = a.b) ∧ ((∃ k, c = .ex k ∧ m ≤ k) ∨ c = .op 1)) ∧ v'.cells = [v'] ∧ v'.one = true := by
  rcases hb with ⟨rfl, rfl⟩ | ⟨a, c, rfl, ha, hld⟩
  · have : n = 0 := by simpa using hn
    subst this
    refine ⟨.nils, ?_, .inl ⟨rfl, rfl⟩, by simp, rfl, rfl⟩
    intro x y ρ hx hy
    simp [iop, hx, hy, bounds, asI]
  · have h1 : (0 : Int) ≤ (n : Int) ∧ (n : Int) ≤ (l.length : Int) := by omega
    have hd := ldn_drop hld hn
    rw [bytes_drop] at hd
    rcases hok a _ c rfl with ⟨k, rfl, hk⟩ | rfl
    · by_cases hkn : k = n
      · have hln : l.length = n := by omega
        refine ⟨.sl a (l.length - n) (.ex (k - n)), ?_, ?_, ?_, rfl, rfl⟩
        · intro x y ρ hx hy
          simp [iop, hx, hy, bounds, asI, hn, hkn]
        · refine .inr ⟨a, .ex (k - n), by simp, ha, ?_⟩
          have := ldn_take hld (n := 0) (by omega)
          rw [show (l.drop n).length = 0 by simp; omega, this]
          rw [show l.drop n = [] by rw [← hln]; simp]
          rfl
        · intro a' m' c' e
          simp only [AV.sl.injEq] at e
          obtain ⟨rfl, rfl, rfl⟩ := e
          exact ⟨⟨a, _, _, rfl, rfl⟩, .inl ⟨_, rfl, by omega⟩⟩
      · refine ⟨.sl ⟨a.b, a.g, a.o + n⟩ (l.length - n) (.ex (k - n)), ?_, ?_, ?_, rfl, rfl⟩
        · intro x y ρ hx hy
          simp [iop, hx, hy, bounds, asI, hn, hkn]
        · exact .inr ⟨⟨a.b, a.g, a.o + n⟩, .ex (k - n), by simp, ha, by rw [List.length_drop]; exact hd⟩
        · intro a' m' c' e
          simp only [AV.sl.injEq] at e
          obtain ⟨rfl, rfl, rfl⟩ := e
          exact ⟨⟨a, _, _, rfl, rfl⟩, .inl ⟨_, rfl, by omega⟩⟩
    · refine ⟨.sl ⟨a.b, a.g, a.o + n⟩ (l.length - n) (.op 1), ?_, ?_, ?_, rfl, rfl⟩
      · intro x y ρ hx hy
        simp [iop, hx, hy, bounds, asI, hn]
      · exact .inr ⟨⟨a.b, a.g, a.o + n⟩, .op 1, by simp, ha, by rw [List.length_drop]; exact hd⟩
      · intro a' m' c' e
        simp only [AV.sl.injEq] at e
        obtain ⟨rfl, rfl, rfl⟩ := e
        exact ⟨⟨a, _, _, rfl, rfl⟩, .inr rfl⟩

/-- A slice's capacity is known, or open. -/
def Cok (v : AV) : Prop := ∀ a m c, v = .sl a m c → (∃ k, c = .ex k ∧ m ≤ k) ∨ c = .op 1

theorem Ow.cok {lo : Nat} {h : H} {v : AV} {l : List UInt8} (ho : Ow lo h v l) : Cok v := by
  rintro a m c rfl
  rcases ho with ⟨e, _⟩ | ⟨b, g, _, _, _, e | e⟩
  · simp at e
  · simp only [AV.sl.injEq] at e; exact .inr e.2.2
  · simp only [AV.sl.injEq] at e; exact .inl ⟨_, e.2.2, by omega⟩

/-- The beginning of a row. -/
theorem Bs.take {h : H} {v : AV} {l : List UInt8} (hb : Bs h v l) (hok : Cok v) {n : Nat} (hn : n ≤ l.length) :
    ∃ v', (∀ (x y : IX) (ρ : IX → AV), ρ x = v → ρ y = .int .i64 n → iop (.slL 1 x none (some y) none) ρ h = some (.val v' h)) ∧ Bs h v' (l.take n) ∧ Cok v' := by
  rcases hb with ⟨rfl, rfl⟩ | ⟨a, c, rfl, ha, hld⟩
  · have : n = 0 := by simpa using hn
    subst this
    refine ⟨.nils, ?_, .inl ⟨rfl, rfl⟩, by rintro a m c e; simp at e⟩
    intro x y ρ hx hy
    simp [iop, hx, hy, bounds, asI]
  · have hd := ldn_take hld hn
    rw [bytes_take] at hd
    have hln : (l.take n).length = n := by rw [List.length_take]; omega
    rcases hok a _ c rfl with ⟨k, rfl, hk⟩ | rfl
    · have h1 : (n : Int) ≤ (k : Int) := by omega
      by_cases hk0 : k = 0
      · have hn0 : n = 0 := by omega
        subst hn0
        refine ⟨.sl a 0 (.ex k), ?_, .inr ⟨a, .ex k, by simp, ha, by simpa using hd⟩, ?_⟩
        · intro x y ρ hx hy
          simp [iop, hx, hy, bounds, asI, hk0]
        · rintro a' m' c' e
          simp only [AV.sl.injEq] at e
          obtain ⟨rfl, rfl, rfl⟩ := e
          exact .inl ⟨_, rfl, by omega⟩
      · refine ⟨.sl a n (.ex k), ?_, .inr ⟨a, .ex k, by rw [hln], ha, by rw [hln]; exact hd⟩, ?_⟩
        · intro x y ρ hx hy
          have h0 : (0 : Int) ≤ n := by omega
          have : (k == 0) = false := by simpa using hk0
          simp [iop, hx, hy, bounds, asI, h1, hk0]
        · rintro a' m' c' e
          simp only [AV.sl.injEq] at e
          obtain ⟨rfl, rfl, rfl⟩ := e
          exact .inl ⟨_, rfl, by omega⟩
    · refine ⟨.sl a n (.op 1), ?_, .inr ⟨a, .op 1, by rw [hln], ha, by rw [hln]; exact hd⟩, ?_⟩
      · intro x y ρ hx hy
        have h0 : (0 : Int) ≤ n := by omega
        have h1 : (n : Int) ≤ (l.length : Int) := by omega
        simp [iop, hx, hy, bounds, asI, hn]
      · rintro a' m' c' e
        simp only [AV.sl.injEq] at e
        obtain ⟨rfl, rfl, rfl⟩ := e
        exact .inr rfl

end Go.Det

/- Walks through regions whose order is drawn. -/
set_option linter.unusedVariables false
set_option linter.unusedSimpArgs false
set_option linter.unusedSectionVars false
namespace Go.Det

def Wd (F : FTab) (l : List DOper) (ts : List AV) (h : H) (pe : Pend) (Q : List AV → H → Prop) : Prop := ∃ n ts' h', runDraw (mach F n).call l ts h pe = some (ts', h') ∧ Q ts' h'

section
variable {F : FTab}

theorem draw_iff {l : List DOper} {ts : List AV} {h : H} {Q : Ex → St → Prop} : Wp F (.draw l) (ts, h) Q ↔ Wd F l ts h [] (fun ts' h' => Q .normal (ts', h')) := by
  constructor
  · rintro ⟨n, e, s', h1, h2⟩
    simp only [exec, Option.map_eq_some_iff, Prod.mk.injEq] at h1
    obtain ⟨⟨ts', h'⟩, h3, rfl, rfl⟩ := h1
    exact ⟨n, ts', h', h3, h2⟩
  · rintro ⟨n, ts', h', h1, h2⟩
    exact ⟨n, .normal, (ts', h'), by simp only [exec, h1]; rfl, h2⟩

theorem wd_nil {ts : List AV} {h : H} {pe : Pend} {Q : List AV → H → Prop} : Wd F [] ts h pe Q ↔ pe.holds h = true ∧ Q ts h := by
  constructor
  · rintro ⟨n, ts', h', h1, h2⟩
    simp only [runDraw] at h1
    split at h1
    · rename_i hp
      simp only [Option.some.injEq, Prod.mk.injEq] at h1
      obtain ⟨rfl, rfl⟩ := h1
      exact ⟨hp, h2⟩
    · simp at h1
  · rintro ⟨hp, hq⟩
    exact ⟨0, ts, h, by simp only [runDraw, hp, if_true], hq⟩

theorem ans_iff {op : IOp} {ts : List AV} {h : H} {K : AV → H → Prop} : ansQ F (iop op (ev ts) h) h K ↔ ∃ n v h', oneOp (mach F n).call op ts h = some (v, h') ∧ K v h' := by
  unfold ansQ
  constructor
  · intro hq
    split at hq
    · rename_i v h' hi; exact ⟨0, v, h', by simp only [oneOp, hi], hq⟩
    · rename_i f args hi
      obtain ⟨v, h', ⟨n, h1⟩, h2⟩ := hq
      exact ⟨n, v, h', by simp only [oneOp, hi]; exact h1, h2⟩
    · exact hq.elim
  · rintro ⟨n, v, h', h1, h2⟩
    unfold oneOp at h1
    split at h1
    · rename_i hi
      simp only [Option.some.injEq, Prod.mk.injEq] at h1
      obtain ⟨rfl, rfl⟩ := h1
      rw [hi]; exact h2
    · rename_i hi; rw [hi]; exact ⟨v, h', ⟨n, h1⟩, h2⟩
    · simp at h1

theorem wd_quiet {d : Option Nat} {op : IOp} {g : Option (Nat × Bool)} {id mask : Nat} {l : List DOper} {ts : List AV} {h : H} {pe : Pend} {Q : List AV → H → Prop} :
    Wd F (⟨⟨d, op, g⟩, false, id, mask⟩ :: l) ts h pe Q ↔ if wanted g ts = true then ansQ F (iop op (ev ts) h) h (fun v h' => Wd F l (put ts d v) h' (pe.add ts ⟨⟨d, op, g⟩, false, id, mask⟩ v) Q) else Wd F l (put ts d .undef) h pe Q := by
  constructor
  · rintro ⟨n, ts', h', h1, h2⟩
    simp only [runDraw, Bool.false_eq_true, if_false] at h1
    split at h1
    · rename_i hw
      rw [if_pos hw, ans_iff]
      split at h1
      · rename_i v h3 ho; exact ⟨n, v, h3, ho, n, ts', h', h1, h2⟩
      · simp at h1
    · rename_i hw
      rw [if_neg hw]
      exact ⟨n, ts', h', h1, h2⟩
  · intro hq
    split at hq
    · rename_i hw
      rw [ans_iff] at hq
      obtain ⟨n, v, h3, ho, m, ts', h', h1, h2⟩ := hq
      refine ⟨max n m, ts', h', ?_, h2⟩
      simp only [runDraw, Bool.false_eq_true, if_false, hw, if_true, oneOp_mono (mach_le F (Nat.le_max_left n m)).1 ho]
      exact runDraw_mono (mach_le F (Nat.le_max_right n m)).1 _ _ _ _ _ h1
    · rename_i hw
      obtain ⟨n, ts', h', h1, h2⟩ := hq
      refine ⟨n, ts', h', ?_, h2⟩
      simp only [runDraw, Bool.false_eq_true, if_false]
      rw [if_neg hw]
      exact h1

theorem wd_act {d : Option Nat} {op : IOp} {g : Option (Nat × Bool)} {id mask : Nat} {l : List DOper} {ts : List AV} {h : H} {pe : Pend} {Q : List AV → H → Prop} :
    Wd F (⟨⟨d, op, g⟩, true, id, mask⟩ :: l) ts h pe Q ↔ pe.holds h = true ∧ if wanted g ts = true then ansQ F (iop op (ev ts) h) h (fun v h' => Wd F l (put ts d v) h' (pe.filter fun p => !mask.testBit p.2.2) Q) else Wd F l (put ts d .undef) h (pe.filter fun p => !mask.testBit p.2.2) Q := by
  constructor
  · rintro ⟨n, ts', h', h1, h2⟩
    simp only [runDraw, if_true] at h1
    split at h1
    · rename_i hp
      refine ⟨hp, ?_⟩
      split at h1
      · rename_i hw
        rw [if_pos hw, ans_iff]
        split at h1
        · rename_i v h3 ho; exact ⟨n, v, h3, ho, n, ts', h', h1, h2⟩
        · simp at h1
      · rename_i hw
        rw [if_neg hw]
        exact ⟨n, ts', h', h1, h2⟩
    · simp at h1
  · rintro ⟨hp, hq⟩
    split at hq
    · rename_i hw
      rw [ans_iff] at hq
      obtain ⟨n, v, h3, ho, m, ts', h', h1, h2⟩ := hq
      refine ⟨max n m, ts', h', ?_, h2⟩
      simp only [runDraw, if_true, hp, hw, oneOp_mono (mach_le F (Nat.le_max_left n m)).1 ho]
      exact runDraw_mono (mach_le F (Nat.le_max_right n m)).1 _ _ _ _ _ h1
    · rename_i hw
      obtain ⟨n, ts', h', h1, h2⟩ := hq
      refine ⟨n, ts', h', ?_, h2⟩
      simp only [runDraw, if_true, hp]
      rw [if_neg hw]
      exact h1

theorem Wd_congr {l : List DOper} {ts ts' : List AV} {h h' : H} {pe pe' : Pend} {Q : List AV → H → Prop} (e : ts = ts') (e' : h = h') (e2 : pe = pe') : Wd F l ts h pe Q = Wd F l ts' h' pe' Q := by rw [e, e', e2]

theorem holds_nil (h : H) : Pend.holds [] h = true := rfl
theorem holds_cons {r : IOp} {v : AV} {i : Nat} {pe : Pend} {h : H} : Pend.holds ((r, v, i) :: pe) h = true ↔ readsAs r v h = true ∧ Pend.holds pe h = true := by simp [Pend.holds]
/-- A reader that reads the same. -/
theorem reads_ok {r : IOp} {v : AV} {h h' : H} (hi : iop r (ev []) h = some (.val v h')) : readsAs r v h = true := by
  unfold readsAs; rw [hi]; exact same_refl v
end
end Go.Det

/- Walks by the kernel through regions whose order is drawn; what a loop leaves, laid out; some operations' facts. -/
set_option linter.unusedVariables false
set_option linter.unusedSimpArgs false
set_option linter.unusedSectionVars false
namespace Go.Det
section
variable {F : FTab}

/-- An operation that reads nothing that may move, run by the kernel. -/
theorem Wd.pure {o : IOper} {id mask : Nat} {l : List DOper} {ts : List AV} {h : H} {pe : Pend} {Q : List AV → H → Prop} (hq : quiets [o] ts h = some h) (hr : (rdOp (ev ts) o.op).isNone = true) (hw : Wd F l (slots [o] ts h) h pe Q) : Wd F (⟨o, false, id, mask⟩ :: l) ts h pe Q := by
  obtain ⟨d, op, g⟩ := o
  rw [wd_quiet]
  unfold quiets at hq
  unfold slots at hw
  simp only [runOps] at hq hw
  split
  · rename_i hg
    rw [if_pos hg] at hq hw
    cases hi : iop op (ev ts) h with
    | none => simp [hi, oneOp] at hq
    | some a =>
      cases a with
      | val v h' =>
        simp only [hi, oneOp, Option.some.injEq] at hq hw
        subst hq
        have hp : pe.add ts ⟨⟨d, op, g⟩, false, id, mask⟩ v = pe := by
          unfold Pend.add
          simp only []
          simp only [Option.isNone_iff_eq_none] at hr
          rw [hr]
        show Wd F l (put ts d v) h' (pe.add ts ⟨⟨d, op, g⟩, false, id, mask⟩ v) Q
        rw [hp]
        exact hw
      | call f args => simp [hi, oneOp] at hq
  · rename_i hg
    rw [if_neg hg] at hq hw
    exact hw

theorem Wd.not {o : IOper} {b : Bool} {id mask : Nat} {l : List DOper} {ts : List AV} {h : H} {pe : Pend} {Q : List AV → H → Prop} (hg : wanted o.guard ts = false) (hb : b = false) (hw : Wd F l (put ts o.dst .undef) h pe Q) : Wd F (⟨o, b, id, mask⟩ :: l) ts h pe Q := by
  obtain ⟨d, op, g⟩ := o
  subst hb
  have hg : wanted g ts = false := hg
  rw [wd_quiet, if_neg (by rw [hg]; simp)]
  exact hw

/-- A reader. -/
theorem Wd.read {o : IOper} {id mask : Nat} {l : List DOper} {ts : List AV} {h : H} {pe : Pend} {Q : List AV → H → Prop} (v : AV) (r : IOp) (hg : wanted o.guard ts = true) (hr : rdOp (ev ts) o.op = some r) (hi : iop o.op (ev ts) h = some (.val v h)) (hw : Wd F l (put ts o.dst v) h ((r, v, id) :: pe) Q) : Wd F (⟨o, false, id, mask⟩ :: l) ts h pe Q := by
  obtain ⟨d, op, g⟩ := o
  have hg : wanted g ts = true := hg
  have hi : iop op (ev ts) h = some (.val v h) := hi
  rw [wd_quiet, if_pos hg, hi]
  show Wd F l (put ts d v) h (pe.add ts ⟨⟨d, op, g⟩, false, id, mask⟩ v) Q
  have hp : pe.add ts ⟨⟨d, op, g⟩, false, id, mask⟩ v = (r, v, id) :: pe := by
    unfold Pend.add
    have hr : rdOp (ev ts) op = some r := hr
    simp only [hr]
  rw [hp]
  exact hw

/-- Something that is made, quietly. -/
theorem Wd.make {o : IOper} {id mask : Nat} {l : List DOper} {ts : List AV} {h : H} {pe : Pend} {Q : List AV → H → Prop} (v : AV) (h' : H) (hg : wanted o.guard ts = true) (hr : (rdOp (ev ts) o.op).isNone = true) (hi : iop o.op (ev ts) h = some (.val v h')) (hw : Wd F l (put ts o.dst v) h' pe Q) : Wd F (⟨o, false, id, mask⟩ :: l) ts h pe Q := by
  obtain ⟨d, op, g⟩ := o
  have hg : wanted g ts = true := hg
  have hi : iop op (ev ts) h = some (.val v h') := hi
  rw [wd_quiet, if_pos hg, hi]
  show Wd F l (put ts d v) h' (pe.add ts ⟨⟨d, op, g⟩, false, id, mask⟩ v) Q
  have hp : pe.add ts ⟨⟨d, op, g⟩, false, id, mask⟩ v = pe := by
    unfold Pend.add
    simp only []
    simp only [Option.isNone_iff_eq_none] at hr
    rw [hr]
  rw [hp]
  exact hw

/-- An act that calls. -/
theorem Wd.call {o : IOper} {id mask : Nat} {l : List DOper} {ts : List AV} {h : H} {pe : Pend} {Q : List AV → H → Prop} {f : FuncId} {args : List AV} (hg : wanted o.guard ts = true) (hi : iop o.op (ev ts) h = some (.call f args)) {v : AV} {h' : H} (hr : Runs F f args h v h') (hp : pe.holds h = true) (hw : Wd F l (put ts o.dst v) h' (pe.filter fun p => !mask.testBit p.2.2) Q) : Wd F (⟨o, true, id, mask⟩ :: l) ts h pe Q := by
  obtain ⟨d, op, g⟩ := o
  have hg : wanted g ts = true := hg
  have hi : iop op (ev ts) h = some (.call f args) := hi
  rw [wd_act]
  refine ⟨hp, ?_⟩
  rw [if_pos hg, hi]
  exact ⟨v, h', hr, hw⟩

/-- An act that answers by itself. -/
theorem Wd.act {o : IOper} {id mask : Nat} {l : List DOper} {ts : List AV} {h : H} {pe : Pend} {Q : List AV → H → Prop} (v : AV) (h' : H) (hg : wanted o.guard ts = true) (hi : iop o.op (ev ts) h = some (.val v h')) (hp : pe.holds h = true) (hw : Wd F l (put ts o.dst v) h' (pe.filter fun p => !mask.testBit p.2.2) Q) : Wd F (⟨o, true, id, mask⟩ :: l) ts h pe Q := by
  obtain ⟨d, op, g⟩ := o
  have hg : wanted g ts = true := hg
  have hi : iop op (ev ts) h = some (.val v h') := hi
  rw [wd_act]
  refine ⟨hp, ?_⟩
  rw [if_pos hg, hi]
  exact hw

theorem Wd.actNot {o : IOper} {id mask : Nat} {l : List DOper} {ts : List AV} {h : H} {pe : Pend} {Q : List AV → H → Prop} (hg : wanted o.guard ts = false) (hp : pe.holds h = true) (hw : Wd F l (put ts o.dst .undef) h (pe.filter fun p => !mask.testBit p.2.2) Q) : Wd F (⟨o, true, id, mask⟩ :: l) ts h pe Q := by
  obtain ⟨d, op, g⟩ := o
  have hg : wanted g ts = false := hg
  rw [wd_act]
  refine ⟨hp, ?_⟩
  rw [if_neg (by rw [hg]; simp)]
  exact hw

theorem Wd.done {ts : List AV} {h : H} {pe : Pend} {Q : List AV → H → Prop} (hp : pe.holds h = true) (hw : Q ts h) : Wd F [] ts h pe Q := wd_nil.2 ⟨hp, hw⟩
theorem Wp.draw {l : List DOper} {ts : List AV} {h : H} {Q : Ex → St → Prop} (hw : Wd F l ts h [] (fun ts' h' => Q .normal (ts', h'))) : Wp F (.draw l) (ts, h) Q := draw_iff.2 hw

/-- What still may stand behind, laid out. -/
theorem holds_of {pe : Pend} (pe' : Pend) {h : H} (e : pe = pe') (hp : pe'.holds h = true) : pe.holds h = true := by rw [e]; exact hp
theorem rd_ld {a : AA} {ag : Option Nat} {v : AV} {h : H} (hv : h.ldg a ag = some v) : readsAs (.ld ag (.c (.ptr a))) v h = true := reads_ok (h' := h) (by simp [iop, ev, hv])
theorem holds_and {r : IOp} {v : AV} {i : Nat} {pe : Pend} {h : H} (h1 : readsAs r v h = true) (h2 : pe.holds h = true) : Pend.holds ((r, v, i) :: pe) h = true := holds_cons.2 ⟨h1, h2⟩
end

/-! ### What a loop leaves, laid out -/
def laid (n : Nat) (ts : List AV) (ov : List (Nat × AV)) : List AV := (List.range n).map fun i => match ov.find? fun p => p.1 == i with
  | some p => p.2
  | none => (getL ts i).getD .undef
theorem laid_eq {n : Nat} {ts : List AV} (hl : ts.length = n) (ov : List (Nat × AV)) (ho : ∀ p ∈ ov, getL ts p.1 = some p.2) : ts = laid n ts ov := by
  apply List.ext_getElem?
  intro i
  unfold laid
  rw [List.getElem?_map]
  by_cases hi : i < n
  · rw [List.getElem?_range hi]
    simp only [Option.map_some]
    have hg : ts[i]? = some (ts[i]'(by omega)) := List.getElem?_eq_getElem (by omega)
    split
    · rename_i p hp
      have h1 := List.mem_of_find?_eq_some hp
      have h2 : p.1 = i := by simpa using List.find?_some hp
      have h3 := ho p h1
      rw [getL_eq, h2] at h3
      exact h3
    · rw [getL_eq, hg]
      rfl
  · rw [List.getElem?_eq_none (by omega), List.getElem?_eq_none (by simp; omega)]
    rfl

/-! ### Operations -/
theorem Bs.parts {h : H} {v : AV} {l : List UInt8} (hb : Bs h v l) : v.cells = [v] ∧ v.one = true ∧ isStrV v = false := by
  rcases hb with ⟨rfl, _⟩ | ⟨_, _, rfl, _, _⟩ <;> exact ⟨rfl, rfl, rfl⟩

theorem iop_new {x : IX} {ρ : IX → AV} {h : H} {t : TypeId} {cs : List AV} (hx : ρ x = .agg cs) (h1 : cs.all AV.one = true) : iop (.new t x) ρ h = some (.val (.ptr ⟨h.n, 0, 0⟩) (h.new (.cells 0 t cs 0 false))) := by
  have e : (AV.agg cs).cells = cs := rfl
  simp only [iop, hx, e, h1, if_true]

/-- A row that is written out. -/
theorem Ow.lit (h : H) (l : List UInt8) : Ow h.n (h.new (.cells 0 5 (bytesAV l) 0 false)) (.sl ⟨h.n, 0, 0⟩ l.length (.ex l.length)) l :=
  .inr ⟨h.n, 0, Nat.le_refl _, by simp, by rw [h.get_new], .inr rfl⟩

/-- The rest of a row, from a place on; between two places. -/
theorem Bs.sub {h : H} {v : AV} {l : List UInt8} (hb : Bs h v l) (hok : Cok v) {i j : Nat} (hi : i ≤ j) (hj : j ≤ l.length) :
    ∃ v', (∀ (x y z : IX) (ρ : IX → AV), ρ x = v → ρ y = .int .i64 i → ρ z = .int .i64 j → iop (.slL 1 x (some y) (some z) none) ρ h = some (.val v' h)) ∧ Bs h v' ((l.take j).drop i) ∧ Cok v' := by
  have hlen : ((l.take j).drop i).length = j - i := by rw [List.length_drop, List.length_take]; omega
  have c1 : (0 : Int) ≤ (i : Int) ∧ (i : Int) ≤ (j : Int) ∧ (0 : Int) ≤ (j : Int) ∧ (j : Int) ≤ (l.length : Int) := by omega
  rcases hb with ⟨rfl, rfl⟩ | ⟨a, c, rfl, ha, hld⟩
  · have hj0 : j = 0 := by simpa using hj
    have hi0 : i = 0 := by omega
    subst hj0; subst hi0
    refine ⟨.nils, ?_, .inl ⟨rfl, rfl⟩, by rintro a m c e; simp at e⟩
    intro x y z ρ hx hy hz
    simp [iop, hx, hy, hz, bounds, asI]
  · have hd := ldn_take (ldn_drop hld (n := i) (by omega)) (n := j - i) (by omega)
    rw [bytes_drop, bytes_take] at hd
    have e : (l.drop i).take (j - i) = (l.take j).drop i := by rw [List.drop_take]
    rw [e] at hd
    rcases hok a _ c rfl with ⟨k, rfl, hk⟩ | rfl
    · have h1 : (j : Int) ≤ (k : Int) := by omega
      by_cases hkn : k = i
      · have hij : j = i := by omega
        subst hij
        refine ⟨.sl a (j - j) (.ex (k - j)), ?_, .inr ⟨a, .ex (k - j), by rw [hlen], ha, ?_⟩, ?_⟩
        · intro x y z ρ hx hy hz
          simp [iop, hx, hy, hz, bounds, asI, hkn]
        · have := ldn_take hld (n := 0) (by omega)
          have e0 : (l.take j).drop j = [] := List.eq_nil_of_length_eq_zero (by rw [hlen]; omega)
          rw [hlen, e0, show j - j = 0 by omega, this]
          rfl
        · rintro a' m' c' e
          simp only [AV.sl.injEq] at e
          obtain ⟨rfl, rfl, rfl⟩ := e
          exact .inl ⟨_, rfl, by omega⟩
      · refine ⟨.sl ⟨a.b, a.g, a.o + i⟩ (j - i) (.ex (k - i)), ?_, .inr ⟨⟨a.b, a.g, a.o + i⟩, .ex (k - i), by rw [hlen], ha, by rw [hlen]; exact hd⟩, ?_⟩
        · intro x y z ρ hx hy hz
          simp [iop, hx, hy, hz, bounds, asI, h1, hkn, hi]
        · rintro a' m' c' e
          simp only [AV.sl.injEq] at e
          obtain ⟨rfl, rfl, rfl⟩ := e
          exact .inl ⟨_, rfl, by omega⟩
    · refine ⟨.sl ⟨a.b, a.g, a.o + i⟩ (j - i) (.op 1), ?_, .inr ⟨⟨a.b, a.g, a.o + i⟩, .op 1, by rw [hlen], ha, by rw [hlen]; exact hd⟩, ?_⟩
      · intro x y z ρ hx hy hz
        simp [iop, hx, hy, hz, bounds, asI, hi, hj]
      · rintro a' m' c' e
        simp only [AV.sl.injEq] at e
        obtain ⟨rfl, rfl, rfl⟩ := e
        exact .inr rfl
end Go.Det

/- From a run of the deterministic machine to the real program's call; arguments that are numbers. -/
set_option linter.unusedVariables false
set_option linter.unusedSimpArgs false
set_option linter.unusedSectionVars false
namespace Go.Det
open Go.RowKit

end Go.Det

/- Arguments that lie in memory: each slice's block becomes a block of the machine's that is only read. -/
set_option linter.unusedVariables false
set_option linter.unusedSimpArgs false
set_option linter.unusedSectionVars false
namespace Go.Det
open Go.RowKit

/-- The blocks that arguments have become, each with the real one that it is. -/
abbrev Lays := List (Option RB × Blk)
def Lays.mu (L : Lays) : Mu := fun b g => if g = 0 then (L[b]?).bind (·.1) else none
def Lays.heap (L : Lays) : H := L.foldl (fun h x => h.new x.2) H0

theorem foldl_new : ∀ (L : Lays) (h : H), (∀ k, h.n ≤ k → h.get k = none) → (L.foldl (fun h x => h.new x.2) h).n = h.n + L.length ∧
    ∀ k, (L.foldl (fun h x => h.new x.2) h).get k = if k < h.n then h.get k else (L[k - h.n]?).map (·.2)
  | [], h, h0 => ⟨rfl, fun k => by
    simp only [List.foldl_nil]
    split
    · rfl
    · rename_i hk; rw [h0 k (by omega)]; rfl⟩
  | x :: L, h, h0 => by
    obtain ⟨h1, h2⟩ := foldl_new L (h.new x.2) (fun k hk => by
      have hk : h.n + 1 ≤ k := hk
      rw [h.get_new_ne k x.2 (by omega)]
      exact h0 k (by omega))
    refine ⟨by simp only [List.foldl_cons, h1, List.length_cons]; show h.n + 1 + _ = _; omega, fun k => ?_⟩
    simp only [List.foldl_cons, h2]
    show (if k < h.n + 1 then _ else _) = _
    by_cases e : k < h.n
    · rw [if_pos (by omega), if_pos e, h.get_new_ne k x.2 (by omega)]
    · by_cases e2 : k = h.n
      · subst e2
        rw [if_pos (by omega), if_neg e, h.get_new]
        simp
      · rw [if_neg (by omega), if_neg e]
        have : k - h.n = k - (h.n + 1) + 1 := by omega
        rw [this]
        rfl

theorem H0_get (k : Nat) : H0.get k = none := by
  unfold H0 H.get
  cases k <;> simp [Tr.get]

theorem Lays.heap_n (L : Lays) : L.heap.n = L.length := by
  have := (foldl_new L H0 (fun k _ => H0_get k)).1
  unfold Lays.heap
  rw [this]
  show 0 + _ = _
  omega
theorem Lays.heap_get (L : Lays) (k : Nat) : L.heap.get k = (L[k]?).map (·.2) := by
  have := (foldl_new L H0 (fun k _ => H0_get k)).2 k
  unfold Lays.heap
  rw [this]
  show (if k < 0 then _ else _) = _
  rw [if_neg (by omega)]
  rfl
theorem Lays.mu_le (L M : Lays) : L.mu.le (L ++ M).mu := by
  intro b g rb e
  unfold Lays.mu at e ⊢
  split at e
  · rename_i hg
    rw [if_pos hg]
    obtain ⟨x, h1, h2⟩ := Option.bind_eq_some_iff.1 e
    rw [List.getElem?_append_left (List.getElem?_eq_some_iff.1 h1).1, h1]
    exact h2
  · simp at e
theorem Lays.ext (L M : Lays) : Ext L.heap (L ++ M).heap := by
  refine ⟨by rw [Lays.heap_n, Lays.heap_n, List.length_append]; omega, fun b hb => ?_⟩
  rw [Lays.heap_n] at hb
  rw [Lays.heap_get, Lays.heap_get, List.getElem?_append_left hb]

/-- The blocks are what they say. -/
def Lays.Ok (L : Lays) (w : World) : Prop := ∀ (b : Nat) (rb : RB) (B : Blk), L[b]? = some (some rb, B) → BRel L.mu B rb w ∧ B.gen = 0 ∧ B.ro = true

theorem Lays.start {L : Lays} {w : World} (h : L.Ok w) : WRel L.mu w 0 L.heap w := by
  have hm : ∀ b g rb, L.mu b g = some rb → g = 0 ∧ ∃ B, L[b]? = some (some rb, B) := by
    intro b g rb e
    unfold Lays.mu at e
    split at e
    · rename_i hg
      obtain ⟨⟨r, B⟩, h1, h2⟩ := Option.bind_eq_some_iff.1 e
      have h2 : r = some rb := h2
      subst h2
      exact ⟨hg, B, h1⟩
    · simp at e
  have hg : ∀ b B, L.heap.get b = some B → ∃ rb, L[b]? = some (rb, B) := by
    intro b B e
    rw [Lays.heap_get] at e
    obtain ⟨⟨r, B'⟩, h1, rfl⟩ := Option.map_eq_some_iff.1 e
    exact ⟨r, h1⟩
  refine ⟨Below.refl _ _, fun _ x => absurd x (Nat.not_lt_zero _), ?_, ?_, ?_⟩
  · intro b g rb e
    obtain ⟨rfl, B, h1⟩ := hm b g rb e
    obtain ⟨⟨o, h2, _⟩, h3, _⟩ := h b rb B h1
    refine ⟨(Array.getElem?_eq_some_iff.1 h2).1, by rw [Lays.heap_n]; exact (List.getElem?_eq_some_iff.1 h1).1, B, by rw [Lays.heap_get, h1]; rfl, Nat.zero_le _⟩
  · intro b B rb h1 h2
    obtain ⟨rb', h3⟩ := hg b B h1
    obtain ⟨h4, B', h5⟩ := hm b _ rb h2
    rw [h3] at h5
    simp only [Option.some.injEq, Prod.mk.injEq] at h5
    obtain ⟨rfl, rfl⟩ := h5
    obtain ⟨h6, _, h7⟩ := h b rb B h3
    exact ⟨h6, fun h8 => by rw [h7] at h8; cases h8⟩
  · intro b B rb b' B' rb' h1 _ h2 _ h5 _
    obtain ⟨rb', h3⟩ := hg b B h1
    obtain ⟨h4, B', h8⟩ := hm b _ rb h2
    rw [h3] at h8
    simp only [Option.some.injEq, Prod.mk.injEq] at h8
    obtain ⟨rfl, rfl⟩ := h8
    obtain ⟨_, _, h7⟩ := h b rb B h3
    rw [h7] at h5
    cases h5

/-- A law that the machine finds true at arguments that lie in blocks. -/
theorem law_true_at {P : Program} {F : FTab} (hF : FOk P F) (hm : P.follows .mixedOrders = true) (hg : P.globals.size = 0) {f : FuncId} {args : List AV} {args' : Array Value} {W : World} {L : Lays} (hL : L.Ok W) (ha : VRels L.mu args args'.toList) {v : AV} {h' : H} (hr : Runs F f args L.heap v h') (hv : v = .bool true) :
    Calls P f args' W (fun e W' => e = .returned (.bool true) ∧ Below W.heap.size W W') := by
  subst hv
  obtain ⟨n, hr⟩ := hr
  have := (mach_all hF hm W n f args L.heap _ h' hr L.mu W args' ha (hg ▸ Lays.start hL)).2
  refine this.mono ?_
  rintro e W' ⟨v', μ', rfl, rfl, hW, _⟩
  exact ⟨rfl, hW.base⟩

/-- One more block: from its cell o on it is read. -/
theorem Lays.snoc {L : Lays} {w : World} (hL : L.Ok w) {r o : Nat} {c : Array Value} {e : TypeId} {fz : Nat × Nat} (hr : w.heap[r]? = some (.cells c e fz)) {avs : List AV} {vs : List Value} (hv : VRels L.mu avs vs) (hc : ∀ (i : Nat) (v : Value), vs[i]? = some v → c.toList[o + i]? = some v) :
    Lays.Ok (L ++ [(some (⟨r, c.size⟩ : RB), Blk.cells 0 e (List.replicate o (.bool false) ++ avs) o true)]) w := by
  have hle := Lays.mu_le L [(some (⟨r, c.size⟩ : RB), Blk.cells 0 e (List.replicate o (.bool false) ++ avs) o true)]
  intro b rb B hb
  by_cases hlt : b < L.length
  · rw [List.getElem?_append_left hlt] at hb
    obtain ⟨⟨ob, h1, h2⟩, h3⟩ := hL b rb B hb
    exact ⟨⟨ob, h1, h2.imp (·.mono hle) (·.mono hle)⟩, h3⟩
  · rw [List.getElem?_append_right (by omega)] at hb
    have : b - L.length = 0 := by
      cases hk : b - L.length with
      | zero => rfl
      | succ k => rw [hk] at hb; simp at hb
    rw [this] at hb
    simp only [List.getElem?_cons_zero, Option.some.injEq, Prod.mk.injEq] at hb
    obtain ⟨rfl, rfl⟩ := hb
    refine ⟨⟨_, hr, .inr ?_⟩, rfl, rfl⟩
    have hlen := hv.length
    refine ⟨c, fz, List.replicate o (.bool false) ++ (vs ++ c.toList.drop (o + vs.length)), rfl, ?_, ?_⟩
    · rw [← List.append_assoc]
      exact VPre.of ((VRels.replicate (a := .bool false) (v := .bool false) rfl o).append (VRels.mono hle _ _ hv))
    · intro i hi
      rw [List.getElem?_append_right (by simpa using hi), List.length_replicate]
      by_cases h1 : i - o < vs.length
      · rw [List.getElem?_append_left h1]
        have := hc (i - o) _ (List.getElem?_eq_getElem h1)
        rw [show o + (i - o) = i by omega] at this
        rw [this, List.getElem?_eq_getElem h1]
      · rw [List.getElem?_append_right (by omega), List.getElem?_drop]
        congr 1
        omega

/-- One more block that is none: a slice without a cell. -/
theorem Lays.hole {L : Lays} {w : World} (hL : L.Ok w) : Lays.Ok (L ++ [((none : Option RB), Blk.cells 0 0 [] 0 true)]) w := by
  have hle := Lays.mu_le L [((none : Option RB), Blk.cells 0 0 [] 0 true)]
  intro b rb B hb
  by_cases hlt : b < L.length
  · rw [List.getElem?_append_left hlt] at hb
    obtain ⟨⟨ob, h1, h2⟩, h3⟩ := hL b rb B hb
    exact ⟨⟨ob, h1, h2.imp (·.mono hle) (·.mono hle)⟩, h3⟩
  · rw [List.getElem?_append_right (by omega)] at hb
    cases hk : b - L.length with
    | zero => rw [hk] at hb; simp at hb
    | succ k => rw [hk] at hb; simp at hb

/-! ### Data that is told, opened -/

structure Opn (P : Program) (t : TypeId) {α : Type} (K : H → α → List AV → Prop) (wf : α → Prop) (sz : Nat) : Prop where
  cells : P.cellsOf t = sz
  ext : ∀ {h h' : H} {a : α} {cs : List AV}, Ext h h' → K h a cs → K h' a cs
  len : ∀ {h : H} {a : α} {cs : List AV}, K h a cs → cs.length = sz
  op : ∀ {D : Type} {enc : TypeId × Value → D} {w : World} {base : Nat} {held : Bool} {fuel : Nat} {cs : List Value} {x : DataW D × List MemPlace},
    DataW.trod enc P w base (fun _ => true) held fuel t cs = some x → ∀ L : Lays, L.Ok w →
      ∃ (M : Lays) (avs : List AV) (a : α), (L ++ M).Ok w ∧ VRels (L ++ M).mu avs cs ∧ K (L ++ M).heap a avs ∧ ((∀ n ∈ x.1.weights P t, n ≤ reachBytes) → wf a)

def KInt (k : IntKind) (_ : H) (n : Int) (cs : List AV) : Prop := cs = [.int k n]
theorem Opn.int {P : Program} {t : TypeId} {k : IntKind} (ht : P.underlying t = some (.int k)) (hc : P.cellsOf t = 1) : Opn P t (KInt k) (fun n => k.min ≤ n ∧ n ≤ k.max) 1 :=
  ⟨hc, fun _ h => h, fun h => by cases h; rfl, fun h L hL => by
    obtain ⟨n, rfl, rfl, hw⟩ := DataW.trod_int ht h
    refine ⟨[], [.int k n], n, by simpa using hL, ⟨_, _, rfl, rfl, rfl⟩, rfl, fun _ => ?_⟩
    simpa [Lit.wf] using hw⟩
def KBool (_ : H) (b : Bool) (cs : List AV) : Prop := cs = [.bool b]
theorem Opn.bool {P : Program} {t : TypeId} (ht : P.underlying t = some .bool) (hc : P.cellsOf t = 1) : Opn P t KBool (fun _ => True) 1 :=
  ⟨hc, fun _ h => h, fun h => by cases h; rfl, fun h L hL => by
    obtain ⟨n, rfl, rfl⟩ := DataW.trod_bool ht h
    exact ⟨[], [.bool n], n, by simpa using hL, ⟨_, _, rfl, rfl, rfl⟩, rfl, fun _ => trivial⟩⟩
def KStr (_ : H) (s : List UInt8) (cs : List AV) : Prop := cs = [.str s]
theorem Opn.string {P : Program} {t : TypeId} (ht : P.underlying t = some .string) (hc : P.cellsOf t = 1) : Opn P t KStr (fun s => s.length ≤ reachBytes) 1 :=
  ⟨hc, fun _ h => h, fun h => by cases h; rfl, fun h L hL => by
    obtain ⟨s, rfl, rfl, hs⟩ := DataW.trod_string ht h
    refine ⟨[], [.str s.data.toList], s.data.toList, by simpa using hL, ⟨_, _, rfl, ?_, rfl⟩, rfl, fun hw => ?_⟩
    · show Value.string s = .string ⟨s.data.toList.toArray⟩
      simp
    · exact hw _ (by simp [DataW.weights])⟩

/-- A slice's elements, each laid out. -/
def KSl {α : Type} (K : H → α → List AV → Prop) (sz : Nat) (h : H) (xs : List α) (cs : List AV) : Prop :=
  ∃ v, cs = [v] ∧ ((v = .nils ∧ xs = []) ∨ ∃ a c, v = .sl a xs.length (.ex c) ∧ xs.length ≤ c ∧ a.b < h.n ∧ ∃ cc : List (List AV), h.ldn a (xs.length * sz) = some cc.flatten ∧ cc.length = xs.length ∧ ∀ (j : Nat) (x : α), xs[j]? = some x → ∃ c, cc[j]? = some c ∧ K h x c)
def WSl {α : Type} (B : Nat) (wf : α → Prop) (xs : List α) : Prop := xs.length * B ≤ reachBytes ∧ ∀ x ∈ xs, wf x

theorem weightsAll_mem {D : Type} {P : Program} {e : TypeId} : ∀ {ds : List (DataW D)} {d : DataW D}, d ∈ ds → ∀ n ∈ d.weights P e, n ∈ DataW.weightsAll P e ds
  | d0 :: ds, d, hd, n, hn => by
    simp only [DataW.weightsAll, List.mem_append]
    rcases List.mem_cons.1 hd with rfl | hd
    · exact .inl hn
    · exact .inr (weightsAll_mem hd n hn)

theorem addr_add_add (a : Addr) (i j : Nat) : (a.add i).add j = a.add (i + j) := by
  unfold Addr.add
  by_cases hi : i = 0 <;> by_cases hj : j = 0 <;> simp_all [Nat.add_assoc]

/-- A row of elements, opened one behind the other. -/
theorem Opn.all {P : Program} {t : TypeId} {α : Type} {K : H → α → List AV → Prop} {wf : α → Prop} {sz : Nat} (O : Opn P t K wf sz) {D : Type} {enc : TypeId × Value → D} {w : World} {base : Nat} {held : Bool} {fuel : Nat} {a : Addr} :
    ∀ (ys : List (DataW D × List MemPlace)) (from_ : Nat) (L : Lays), L.Ok w → (∀ i, i < ys.length → (w.cells? base (a.add ((from_ + i) * sz)) sz).bind (DataW.trod enc P w base (fun _ => true) held fuel t) = ys[i]?) →
      ∃ (M : Lays) (cc : List (List AV)) (xs : List α) (vs : List Value), (L ++ M).Ok w ∧ xs.length = ys.length ∧ cc.length = ys.length ∧ vs.length = ys.length * sz ∧ VRels (L ++ M).mu cc.flatten vs ∧ (∀ i v, vs[i]? = some v → w.cell? (a.add (from_ * sz + i)) = some v) ∧
        (∀ (j : Nat) (x : α), xs[j]? = some x → ∃ c, cc[j]? = some c ∧ K (L ++ M).heap x c) ∧ ((∀ y ∈ ys, ∀ n ∈ y.1.weights P t, n ≤ reachBytes) → ∀ x ∈ xs, wf x) := by
  intro ys
  induction ys with
  | nil => intro f L hL _; exact ⟨[], [], [], [], by simpa using hL, rfl, rfl, by simp, VRels.nil, fun _ _ h => by simp at h, fun _ _ h => by simp at h, fun _ _ h => by simp at h⟩
  | cons y ys ih =>
    intro f L hL h
    have h0 := h 0 (by simp)
    simp only [List.getElem?_cons_zero, Nat.add_zero, Option.bind_eq_some_iff] at h0
    obtain ⟨cs, hcs, hy⟩ := h0
    obtain ⟨M, avs, x, h1, h2, h3, h4⟩ := O.op hy L hL
    obtain ⟨M', cc, xs, vs, g0, g1, g2, g3, g4, g5, g6, g7⟩ := ih (f + 1) (L ++ M) h1 (fun i hi => by
      have := h (i + 1) (by simp; omega)
      simpa [show f + (i + 1) = f + 1 + i by omega] using this)
    have hs := World.cells?_some hcs
    have eM : L ++ (M ++ M') = L ++ M ++ M' := (List.append_assoc _ _ _).symm
    refine ⟨M ++ M', avs :: cc, x :: xs, cs ++ vs, by rw [eM]; exact g0, by simp [g1], by simp [g2], by rw [List.length_append, g3, hs.2.1, List.length_cons, Nat.succ_mul, Nat.add_comm], by rw [eM, List.flatten_cons]; exact (VRels.mono (Lays.mu_le _ _) _ _ h2).append g4, ?_, ?_, ?_⟩
    · intro i v hi
      by_cases hlt : i < sz
      · rw [List.getElem?_append_left (by rw [hs.2.1]; exact hlt)] at hi
        have := hs.2.2 i hlt
        rw [addr_add_add, hi] at this
        exact this
      · rw [List.getElem?_append_right (by rw [hs.2.1]; omega), hs.2.1] at hi
        have := g5 _ _ hi
        rw [Nat.succ_mul, show f * sz + sz + (i - sz) = f * sz + i by omega] at this
        exact this
    · intro j x' hj
      rw [eM]
      cases j with
      | zero => simp only [List.getElem?_cons_zero, Option.some.injEq] at hj; subst hj; exact ⟨avs, rfl, O.ext (Lays.ext _ _) h3⟩
      | succ j => exact g6 j x' (by simpa using hj)
    · intro hw x' hx'
      rcases List.mem_cons.1 hx' with rfl | hx'
      · exact h4 (hw y (by simp))
      · exact g7 (fun y' hy' => hw y' (by simp [hy'])) x' hx'

theorem cut_pad {α : Type} (o : Nat) (z : α) (c : List α) : cut (List.replicate o z ++ c) o c.length = some c := by
  unfold cut
  have : (List.replicate o z ++ c).drop o = c := by
    rw [List.drop_append_of_le_length (by simp)]
    simp
  simp [this]

theorem Opn.slice' {P : Program} {t e : TypeId} {α : Type} {K : H → α → List AV → Prop} {wf : α → Prop} {sz : Nat} (ht : P.underlying t = some (.slice e)) (hc : P.cellsOf t = 1) {B : Nat} (hB : P.bytesOf e = B) (O : Opn P e K wf (sz + 1)) :
    Opn P t (KSl K (sz + 1)) (WSl B wf) 1 :=
  ⟨hc, by
    rintro h h' xs cs hx ⟨v, rfl, hv⟩
    refine ⟨v, rfl, hv.imp id ?_⟩
    rintro ⟨a, c, rfl, h1, h2, cc, h3, h4, h5⟩
    refine ⟨a, c, rfl, h1, Nat.lt_of_lt_of_le h2 hx.1, cc, by rw [ldn_same (hx.2 _ h2)]; exact h3, h4, fun j x hj => ?_⟩
    obtain ⟨c, g1, g2⟩ := h5 j x hj
    exact ⟨c, g1, O.ext hx g2⟩, fun ⟨v, h, _⟩ => by rw [h]; rfl, fun {D enc w base held fuel cs x} h L hL => by
    rcases DataW.trod_slice ht h with ⟨rfl, rfl⟩ | ⟨a, len, cap, elems, rest, n, _, rfl, rfl, hb, hl, hm, hlen, hel, hsp, hns⟩
    · exact ⟨[], [.nils], [], by simpa using hL, ⟨_, _, rfl, rfl, rfl⟩, ⟨_, rfl, .inl ⟨rfl, rfl⟩⟩, fun _ => ⟨by simp, fun x hx => by simp at hx⟩⟩
    · by_cases h0 : cap = 0
      · -- no cell at all
        have hl0 : len = 0 := by omega
        subst h0; subst hl0
        obtain ⟨Z, hZ⟩ : ∃ Z : Option RB × Blk, Z = ((none : Option RB), Blk.cells 0 0 [] 0 true) := ⟨_, rfl⟩
        have hO := Lays.hole hL
        rw [← hZ] at hO
        have hget : (L ++ [Z]).heap.get L.length = some (.cells 0 0 [] 0 true) := by rw [Lays.heap_get]; simp [hZ]
        refine ⟨[Z], [.sl ⟨L.length, 0, 0⟩ 0 (.ex 0)], [], hO, ⟨_, _, rfl, .inr ⟨rfl, rfl, a, rfl⟩, rfl⟩, ⟨_, rfl, .inr ⟨⟨L.length, 0, 0⟩, 0, rfl, Nat.le_refl _, by rw [Lays.heap_n]; simp, [], ?_, rfl, fun j x hj => by simp at hj⟩⟩, fun _ => ⟨by simp, fun x hx => by simp at hx⟩⟩
        unfold H.ldn H.row
        simp [hget, cut]
      · have hfirst : ∃ u, w.cell? a = some u := by
          have get0 : ∀ (i : Nat) (y : Option (DataW D × List MemPlace)), (w.cells? base (a.add (i * P.cellsOf e)) (P.cellsOf e)).bind (DataW.trod enc P w base (fun _ => true) held n e) = y → y.isSome = true → i = 0 → ∃ u, w.cell? a = some u := by
            intro i y hy hs hi
            subst hi
            rw [Nat.zero_mul] at hy
            cases hcs : w.cells? base (a.add 0) (P.cellsOf e) with
            | none => rw [hcs] at hy; simp at hy; subst hy; simp at hs
            | some cs =>
              have := World.cells?_some hcs
              rw [O.cells] at this
              have h3 := this.2.2 0 (by omega)
              have e0 : (a.add 0).add 0 = a := by simp [Addr.add]
              rw [e0] at h3
              cases cs with
              | nil => simp at this
              | cons u cs => exact ⟨u, by simpa using h3⟩
          by_cases hl0 : len = 0
          · obtain ⟨q1, q2⟩ := hsp rfl
            have := q2 0 (by omega)
            refine get0 (len + 0) _ this ?_ (by omega)
            rw [List.getElem?_eq_getElem (by omega)]; rfl
          · have := hel 0 (by omega)
            refine get0 0 _ this ?_ rfl
            rw [List.getElem?_eq_getElem (by omega)]; rfl
        obtain ⟨hspot, c, e', fz, hr⟩ : a.spot = none ∧ ∃ c e fz, w.heap[a.block]? = some (.cells c e fz) := by
          obtain ⟨u, hu⟩ := hfirst
          unfold World.cell? at hu
          split at hu
          · rename_i c e fz hh
            split at hu
            · simp at hu
            · rename_i hs
              exact ⟨by simpa using hs, c, e, fz, hh⟩
          · simp at hu
        obtain ⟨M, cc, xs, vs, g0, g1, g2, g3, g4, g5, g6, g7⟩ := Opn.all O (a := a) elems 0 L hL (fun i hi => by
          rw [Nat.zero_add]
          have := hel i (by omega)
          rwa [O.cells] at this)
        have hsn := Lays.snoc g0 (o := a.off) hr g4 (fun i v hi => by
          have := g5 i v hi
          rw [Nat.zero_mul, Nat.zero_add] at this
          have h2 : w.cell? (a.add i) = c[a.off + i]? := by
            unfold World.cell? Addr.add
            by_cases hi0 : i = 0 <;> simp [hi0, hr, hspot]
          rw [h2] at this
          simpa using this)
        have hflat : cc.flatten.length = xs.length * (sz + 1) := by rw [g4.length, g3, g1]
        obtain ⟨Z, hZ⟩ : ∃ Z : Option RB × Blk, Z = (some ⟨a.block, c.size⟩, .cells 0 e' (List.replicate a.off (.bool false) ++ cc.flatten) a.off true) := ⟨_, rfl⟩
        rw [← hZ] at hsn
        have eM : L ++ (M ++ [Z]) = L ++ M ++ [Z] := (List.append_assoc _ _ _).symm
        have hmu : (L ++ M ++ [Z]).mu (L ++ M).length 0 = some ⟨a.block, c.size⟩ := by
          unfold Lays.mu
          rw [if_pos rfl, List.getElem?_append_right (Nat.le_refl _), Nat.sub_self]
          simp [hZ]
        have hget : (L ++ M ++ [Z]).heap.get (L ++ M).length = some (.cells 0 e' (List.replicate a.off (.bool false) ++ cc.flatten) a.off true) := by
          rw [Lays.heap_get, List.getElem?_append_right (Nat.le_refl _), Nat.sub_self]
          simp [hZ]
        refine ⟨M ++ [Z], [.sl ⟨(L ++ M).length, 0, a.off⟩ xs.length (.ex cap)], xs, by rw [eM]; exact hsn, ?_, ?_, fun hw => ⟨?_, g7 ?_⟩⟩
        · rw [eM]
          refine ⟨_, _, rfl, .inl ⟨_, hmu, ?_, by omega⟩, rfl⟩
          rw [g1, hlen]
          congr 2
          obtain ⟨b, o, s⟩ := a
          simp only at hspot
          subst hspot
          rfl
        · rw [eM]
          refine ⟨_, rfl, .inr ⟨_, cap, rfl, by omega, by rw [Lays.heap_n]; simp, cc, ?_, by omega, fun j x hj => ?_⟩⟩
          · unfold H.ldn H.row
            simp only [hget, BEq.rfl, Bool.not_true, Bool.false_or, Nat.le_refl, decide_true, Bool.and_self, if_true]
            rw [← hflat]
            exact cut_pad _ _ _
          · obtain ⟨c, q1, q2⟩ := g6 j x hj
            exact ⟨c, q1, O.ext (Lays.ext _ _) q2⟩
        · have h0 := hw (((elems.map (·.1)).length + (rest.map (·.1)).length) * P.bytesOf e) (by simp [DataW.weights, ht])
          rw [List.length_map, List.length_map, hB] at h0
          have h1 : xs.length * B ≤ (elems.length + rest.length) * B := Nat.mul_le_mul_right _ (by omega)
          omega
        · intro y hy n hn
          refine hw n ?_
          simp only [DataW.weights, ht, List.mem_cons, List.mem_append]
          exact .inr (.inl (weightsAll_mem (List.mem_map_of_mem hy) n hn))⟩

theorem Opn.slice {P : Program} {t e : TypeId} {α : Type} {K : H → α → List AV → Prop} {wf : α → Prop} {sz : Nat} (ht : P.underlying t = some (.slice e)) (hc : P.cellsOf t = 1) {B : Nat} (hB : P.bytesOf e = B) (O : Opn P e K wf sz) (h0 : sz ≠ 0 := by decide) :
    Opn P t (KSl K sz) (WSl B wf) 1 := by
  cases sz with
  | zero => exact absurd rfl h0
  | succ s => exact Opn.slice' ht hc hB O

/-! Arrays of numbers -/
def KInts (k : IntKind) (n : Nat) (_ : H) (xs : List Int) (cs : List AV) : Prop := cs = xs.map (AV.int k) ∧ xs.length = n
theorem rels_map {k : IntKind} {μ : Mu} : ∀ (xs : List Int), VRels μ (xs.map (AV.int k)) (xs.map (Value.int k))
  | [] => rfl
  | x :: xs => ⟨_, _, rfl, rfl, rels_map xs⟩
theorem Opn.ints {P : Program} {t e : TypeId} {k : IntKind} {n : Nat} (ht : P.underlying t = some (.array n e)) (he : P.underlying e = some (.int k)) (hce : P.cellsOf e = 1) (hc : P.cellsOf t = n) : Opn P t (KInts k n) (fun xs => ∀ x ∈ xs, k.min ≤ x ∧ x ≤ k.max) n :=
  ⟨hc, fun _ h => h, fun h => by rw [h.1, List.length_map]; exact h.2, fun {D enc w base held fuel cs x} h L hL => by
    obtain ⟨xs, m, _, rfl, hl, hn, hel⟩ := DataW.trod_array ht h
    rw [hc] at hl
    have key : ∀ (cs : List Value), (∀ (i : Nat), i < cs.length → ∃ z, DataW.trod enc P w base (fun _ => true) held m e ((cs.drop (i * 1)).take 1) = some z) → ∃ ns : List Int, cs = ns.map (Value.int k) ∧ ∀ x ∈ ns, k.min ≤ x ∧ x ≤ k.max := by
      intro cs
      induction cs with
      | nil => exact fun _ => ⟨[], rfl, fun x hx => by simp at hx⟩
      | cons c cs ih =>
        intro hall
        obtain ⟨z, hz⟩ := hall 0 (by simp)
        simp only [Nat.zero_mul, List.drop_zero, List.take_succ_cons, List.take_zero] at hz
        obtain ⟨n0, e1, e2, hw⟩ := DataW.trod_int he hz
        simp only [List.cons.injEq, and_true] at e1
        obtain ⟨ns, e3, h3⟩ := ih (fun i hi => by
          obtain ⟨z, hz⟩ := hall (i + 1) (by simp; omega)
          exact ⟨z, by simpa using hz⟩)
        refine ⟨n0 :: ns, by rw [e1, e3]; rfl, fun x hx => ?_⟩
        rcases List.mem_cons.1 hx with rfl | hx
        · simpa [Lit.wf] using hw
        · exact h3 x hx
    obtain ⟨ns, rfl, hb⟩ := key cs (fun i hi => by
      have := hel i (by omega)
      rw [hce] at this
      rw [this, List.getElem?_eq_getElem (by omega)]
      exact ⟨_, rfl⟩)
    exact ⟨[], ns.map (AV.int k), ns, by simpa using hL, by simpa using rels_map ns, ⟨rfl, by simpa using hl⟩, fun _ => hb⟩⟩

/-! Structs -/
structure OpnF (P : Program) (fs : List Field) (o : Nat) {α : Type} (K : H → α → List AV → Prop) (wf : α → Prop) (sz : Nat) : Prop where
  ext : ∀ {h h' : H} {a : α} {cs : List AV}, Ext h h' → K h a cs → K h' a cs
  len : ∀ {h : H} {a : α} {cs : List AV}, K h a cs → cs.length = sz
  op : ∀ {D : Type} {enc : TypeId × Value → D} {w : World} {base : Nat} {held : Bool} {n : Nat} {cs : List Value} {xs : List (DataW D × List MemPlace)},
    (∀ (i : Nat) (f : Field), fs[i]? = some f → DataW.trod enc P w base (fun _ => true) held n f.type ((cs.drop f.offset).take (P.cellsOf f.type)) = xs[i]?) → xs.length = fs.length → o + sz ≤ cs.length → ∀ L : Lays, L.Ok w →
    ∃ (M : Lays) (avs : List AV) (a : α), (L ++ M).Ok w ∧ VRels (L ++ M).mu avs ((cs.drop o).take sz) ∧ K (L ++ M).heap a avs ∧ ((∀ n ∈ DataW.weightsEach P (fs.map (·.type)) (xs.map (·.1)), n ≤ reachBytes) → wf a)

theorem OpnF.one {P : Program} {f : Field} {o : Nat} {α : Type} {K : H → α → List AV → Prop} {wf : α → Prop} {sz : Nat} (O : Opn P f.type K wf sz) (ho : f.offset = o) : OpnF P [f] o K wf sz :=
  ⟨O.ext, O.len, fun {D enc w base held n cs xs} h hl hc L hL => by
    obtain ⟨x, rfl⟩ : ∃ x, xs = [x] := by
      cases xs with
      | nil => simp at hl
      | cons x xs => cases xs with
        | nil => exact ⟨x, rfl⟩
        | cons y ys => simp at hl
    have h0 := h 0 f rfl
    simp only [List.getElem?_cons_zero] at h0
    obtain ⟨M, avs, a, h1, h2, h3, h4⟩ := O.op h0 L hL
    rw [ho, O.cells] at h2
    exact ⟨M, avs, a, h1, h2, h3, fun hh => h4 (fun n hn => hh n (by simp only [List.map_cons, List.map_nil, DataW.weightsEach, List.mem_append]; exact .inl hn))⟩⟩

def KPair {α β : Type} (K : H → α → List AV → Prop) (K' : H → β → List AV → Prop) (h : H) (p : α × β) (cs : List AV) : Prop := ∃ x y, cs = x ++ y ∧ K h p.1 x ∧ K' h p.2 y
theorem OpnF.more {P : Program} {f : Field} {fs : List Field} {o o' : Nat} {α β : Type} {K : H → α → List AV → Prop} {wf : α → Prop} {K' : H → β → List AV → Prop} {wf' : β → Prop} {sz sz' : Nat} (O : Opn P f.type K wf sz) (ho : f.offset = o) (ho' : o + sz = o') (F : OpnF P fs o' K' wf' sz') :
    OpnF P (f :: fs) o (KPair K K') (fun p => wf p.1 ∧ wf' p.2) (sz + sz') :=
  ⟨by
    rintro h h' p cs hx ⟨x, y, rfl, h1, h2⟩
    exact ⟨x, y, rfl, O.ext hx h1, F.ext hx h2⟩, by
    rintro h p cs ⟨x, y, rfl, h1, h2⟩
    rw [List.length_append, O.len h1, F.len h2], fun {D enc w base held n cs xs} h hl hc L hL => by
    obtain ⟨x, xs, rfl⟩ : ∃ x xs', xs = x :: xs' := by
      cases xs with
      | nil => simp at hl
      | cons x xs => exact ⟨x, xs, rfl⟩
    subst ho'
    have h0 := h 0 f rfl
    simp only [List.getElem?_cons_zero] at h0
    obtain ⟨M, avs, a, h1, h2, h3, h4⟩ := O.op h0 L hL
    rw [ho, O.cells] at h2
    obtain ⟨M', avs', b, g1, g2, g3, g4⟩ := F.op (xs := xs) (cs := cs) (fun i g hg => by have := h (i + 1) g (by simpa using hg); simpa using this) (by simpa using hl) (by omega) (L ++ M) h1
    have eM : L ++ (M ++ M') = L ++ M ++ M' := (List.append_assoc _ _ _).symm
    refine ⟨M ++ M', avs ++ avs', (a, b), by rw [eM]; exact g1, ?_, ⟨avs, avs', rfl, ?_, by rw [eM]; exact g3⟩, fun hh => ⟨h4 (fun n hn => hh n ?_), g4 (fun n hn => hh n ?_)⟩⟩
    · rw [eM, List.take_add, List.drop_drop]
      exact (VRels.mono (Lays.mu_le _ _) _ _ h2).append g2
    · rw [eM]; exact O.ext (Lays.ext _ _) h3
    · simp only [List.map_cons, DataW.weightsEach, List.mem_append]; exact .inl hn
    · simp only [List.map_cons, DataW.weightsEach, List.mem_append]; exact .inr hn⟩
theorem Opn.struct {P : Program} {t : TypeId} {fs : Array Field} {α : Type} {K : H → α → List AV → Prop} {wf : α → Prop} {sz : Nat} (ht : P.underlying t = some (.struct fs)) (hc : P.cellsOf t = sz) (F : OpnF P fs.toList 0 K wf sz) : Opn P t K wf sz :=
  ⟨hc, F.ext, F.len, fun {D enc w base held fuel cs x} h L hL => by
    obtain ⟨xs, n, _, rfl, hl, hxl, hx⟩ := DataW.trod_struct ht h
    obtain ⟨M, avs, a, h1, h2, h3, h4⟩ := F.op (xs := xs) (cs := cs) (fun i f hf => hx i f (by simpa using hf)) (by simpa using hxl) (by omega) L hL
    rw [List.drop_zero, List.take_of_length_le (by omega)] at h2
    exact ⟨M, avs, a, h1, h2, h3, fun hh => h4 (fun n hn => hh n (by simpa only [DataW.weights, ht] using hn))⟩⟩

/-! ### Rows of bytes -/

theorem KSl.bytes {h : H} {xs : List Int} {cs : List AV} (hk : KSl (KInt .u8) 1 h xs cs) (hw : ∀ n ∈ xs, IntKind.u8.min ≤ n ∧ n ≤ IntKind.u8.max) : ∃ v l, cs = [v] ∧ Bs h v l ∧ l.length = xs.length ∧ ∀ a n c, v = .sl a n c → ∃ k, c = .ex k ∧ n ≤ k := by
  obtain ⟨v, rfl, hv⟩ := hk
  obtain ⟨l, hl⟩ : ∃ l : List UInt8, xs = l.map fun c => (c.toNat : Int) := by
    clear hv
    induction xs with
    | nil => exact ⟨[], rfl⟩
    | cons x xs ih =>
      obtain ⟨l, rfl⟩ := ih (fun n hn => hw n (by simp [hn]))
      have := hw x (by simp)
      have : 0 ≤ x ∧ x ≤ 255 := by simpa [IntKind.min, IntKind.max, IntKind.bits, IntKind.signed] using this
      refine ⟨UInt8.ofNat x.toNat :: l, ?_⟩
      rw [List.map_cons, UInt8.toNat_ofNat']
      congr 1
      omega
  subst hl
  rcases hv with ⟨rfl, h1⟩ | ⟨a, c, rfl, h1, h2, cc, h3, h4, h5⟩
  · exact ⟨.nils, [], rfl, .inl ⟨rfl, rfl⟩, by rw [h1]; rfl, fun _ _ _ e => by simp at e⟩
  · refine ⟨_, l, rfl, .inr ⟨a, .ex c, by rw [List.length_map], h2, ?_⟩, by simp, fun a' n' c' e => ?_⟩
    · have e : cc.flatten = bytesAV l := by
        have hcc : cc = l.map fun c => [AV.int .u8 c.toNat] := by
          apply List.ext_getElem?
          intro j
          rw [List.getElem?_map]
          cases hj : l[j]? with
          | none =>
            have : l.length ≤ j := by simpa using hj
            rw [List.getElem?_eq_none (by rw [h4, List.length_map]; exact this)]
            rfl
          | some x =>
            obtain ⟨c, g1, g2⟩ := h5 j x.toNat (by rw [List.getElem?_map, hj]; rfl)
            rw [g1, g2]
            rfl
        rw [hcc]
        unfold bytesAV
        clear h3 h4 h5 hcc
        induction l with
        | nil => rfl
        | cons x l ih => rw [List.map_cons, List.flatten_cons, ih (fun n hn => hw n (by rw [List.map_cons]; exact List.mem_cons_of_mem _ hn)) (by simp at h1 ⊢; omega)]; rfl
      rw [List.length_map, Nat.mul_one, e] at h3
      exact h3
    · simp only [AV.sl.injEq] at e
      obtain ⟨_, rfl, rfl⟩ := e
      exact ⟨c, rfl, h1⟩

/-- An argument's data. -/
theorem Opn.arg {P : Program} {t : TypeId} {α : Type} {K : H → α → List AV → Prop} {wf : α → Prop} {sz : Nat} (O : Opn P t K wf sz) {D : Type} {enc : TypeId × Value → D} {w : World} {base : Nat} {held : Bool} {v : Value} {x : DataW D} {ps : List MemPlace} {ts : List TypeId} {ds : List (DataW D)} {j : Nat}
    (hsz : (DataW.weightsEach P ts ds).all (· ≤ reachBytes) = true) (ht : ts[j]? = some t) (hd : ds[j]? = some x) (h : DataW.Trod enc P w base (fun _ => true) held t v x ps) (L : Lays) (hL : L.Ok w) :
    ∃ (M : Lays) (avs : List AV) (a : α), (L ++ M).Ok w ∧ VRels (L ++ M).mu avs v.cells.toList ∧ K (L ++ M).heap a avs ∧ wf a := by
  obtain ⟨fuel, hg⟩ := h
  obtain ⟨M, avs, a, h1, h2, h3, h4⟩ := O.op hg L hL
  exact ⟨M, avs, a, h1, h2, h3, h4 (fun n hn => by simpa using List.all_eq_true.1 hsz n (DataW.weights_mem_each ht hd n hn))⟩

theorem agg_cell {P : Program} {t : TypeId} {fs : Array Field} (ht : P.underlying t = some (.struct fs)) {w : World} {r : Reach} {b : Nat} {v : Value} (h : Value.okWide P w r b t v) : ∃ cs, v = .agg cs := by
  simp only [Value.okWide, ht] at h
  obtain ⟨cs, rfl, _⟩ := h
  exact ⟨cs, rfl⟩

theorem rel_agg {μ : Mu} {avs : List AV} {cs : Array Value} (h : VRels μ avs (Value.agg cs).cells.toList) : VRel μ (.agg avs) (.agg cs) := ⟨cs, rfl, h⟩

theorem Lays.ok_nil (w : World) : Lays.Ok [] w := fun b rb B h => by simp at h

end Go.Det

/- What stands and what does not: frames by the blocks that may have changed; blocks as they are. -/
set_option linter.unusedVariables false
set_option linter.unusedSimpArgs false
set_option linter.unusedSectionVars false
namespace Go.Det

/-- A slice's block, told as its number and one; 0 for none. -/
def blk : AV → Nat
  | .sl a _ _ => a.b + 1
  | _ => 0

theorem blk_sl (a : AA) (n : Nat) (c : Cp) : blk (.sl a n c) = a.b + 1 := rfl
/-- What was there stands, but for the blocks of which S holds (told as their numbers and one). -/
def Fr (S : Nat → Prop) (h h' : H) : Prop := h.n ≤ h'.n ∧ ∀ b, b < h.n → ¬ S (b + 1) → h'.get b = h.get b
/-- Nothing. -/
abbrev No : Nat → Prop := fun _ => False

theorem Fr.refl (h : H) : Fr No h h := ⟨Nat.le_refl _, fun _ _ _ => rfl⟩
theorem Fr.trans {S T : Nat → Prop} {h h' h'' : H} (x : Fr S h h') (y : Fr T h' h'') : Fr (fun s => S s ∨ T s) h h'' :=
  ⟨Nat.le_trans x.1 y.1, fun b hb hs => by
    have := x.1
    rw [y.2 b (by omega) (fun e => hs (.inr e)), x.2 b hb (fun e => hs (.inl e))]⟩
theorem Fr.mono {S T : Nat → Prop} {h h' : H} (x : Fr S h h') (hs : ∀ s, s ≤ h.n → S s → T s ∨ s = 0) : Fr T h h' := ⟨x.1, fun b hb hn => x.2 b hb (fun e => by rcases hs _ hb e with e | e; exact hn e; omega)⟩
theorem Fr.trans0 {h h' h'' : H} (x : Fr No h h') (y : Fr No h' h'') : Fr No h h'' := (x.trans y).mono (by simp)
theorem Ext.fr {h h' : H} (x : Ext h h') : Fr No h h' := ⟨x.1, fun b hb _ => x.2 b hb⟩
/-- The blocks that changed are new. -/
theorem Fr.ext {S : Nat → Prop} {h h' : H} (x : Fr S h h') (hs : ∀ s, S s → s = 0 ∨ h.n < s) : Ext h h' := ⟨x.1, fun b hb => x.2 b hb (fun e => by have := hs _ e; omega)⟩
theorem ones_nil : ([] : List AV).all AV.one = true := rfl
theorem ones_cons {v : AV} {l : List AV} (h : v.one = true) (t : l.all AV.one = true) : (v :: l).all AV.one = true := by rw [List.all_cons, h, t]; rfl

/-! Rows of bytes -/
theorem Bs.bd {h : H} {v : AV} {l : List UInt8} (hb : Bs h v l) : blk v ≤ h.n := by
  rcases hb with ⟨rfl, _⟩ | ⟨a, c, rfl, h1, _⟩
  · exact Nat.zero_le _
  · exact h1
theorem Bs.fr {h h' : H} {v : AV} {l : List UInt8} (hb : Bs h v l) {S : Nat → Prop} (x : Fr S h h') (hs : blk v = 0 ∨ ¬ S (blk v)) : Bs h' v l := by
  have := x.1
  rcases hb with ⟨rfl, rfl⟩ | ⟨a, c, rfl, h1, h2⟩
  · exact .inl ⟨rfl, rfl⟩
  · exact .inr ⟨a, c, rfl, by omega, by rw [ldn_same (x.2 _ h1 (hs.resolve_left (by simp [blk_sl])))]; exact h2⟩
theorem Ow.bd {lo : Nat} {h : H} {v : AV} {l : List UInt8} (ho : Ow lo h v l) : (blk v = 0 ∨ lo < blk v) ∧ blk v ≤ h.n := by
  rcases ho with ⟨rfl, _⟩ | ⟨b, g, h1, h2, h3, rfl | rfl⟩
  · exact ⟨.inl rfl, Nat.zero_le _⟩
  · exact ⟨.inr (Nat.succ_le_succ h1), h2⟩
  · exact ⟨.inr (Nat.succ_le_succ h1), h2⟩
theorem Ow.fr {lo : Nat} {h h' : H} {v : AV} {l : List UInt8} (ho : Ow lo h v l) {S : Nat → Prop} (x : Fr S h h') (hs : blk v = 0 ∨ ¬ S (blk v)) : Ow lo h' v l := by
  have := x.1
  rcases ho with ⟨rfl, rfl⟩ | ⟨b, g, h1, h2, h3, h4⟩
  · exact .inl ⟨rfl, rfl⟩
  · have hb : ¬ S (b + 1) := by rcases h4 with rfl | rfl <;> exact hs.resolve_left (by simp [blk_sl])
    exact .inr ⟨b, g, h1, by omega, by rw [x.2 b h2 hb]; exact h3, h4⟩
/-- Two ways, kept apart: opened only where it is asked. -/
def Dj (p : Prop) : Prop := p
theorem Dj.e {p : Prop} (d : Dj p) : p := d
theorem Bs.bq {h : H} {v : AV} {l : List UInt8} (hb : Bs h v l) : blk v ≤ h.n := hb.bd
theorem Ow.bq {lo : Nat} {h : H} {v : AV} {l : List UInt8} (ho : Ow lo h v l) : Dj (blk v = 0 ∨ lo < blk v) ∧ blk v ≤ h.n := ho.bd
/-! A block as it is -/
def Pt (h : H) (b : Nat) (B : Blk) : Prop := b < h.n ∧ h.get b = some B
theorem Pt.fr {h h' : H} {b : Nat} {B : Blk} (p : Pt h b B) {S : Nat → Prop} (x : Fr S h h') (hs : ¬ S (b + 1)) : Pt h' b B := ⟨Nat.lt_of_lt_of_le p.1 x.1, by rw [x.2 b p.1 hs]; exact p.2⟩
theorem Pt.bd {h : H} {b : Nat} {B : Blk} (p : Pt h b B) : b < h.n := p.1

/-- What is read of a block. -/
def ldB (B : Blk) (a : AA) (ag : Option Nat) : Option AV := match B with
  | .cells g _ c k ro => if g == a.g && (!ro || decide (k ≤ a.o)) then (match ag with
    | none => getL c a.o
    | some n => (cut c a.o n).map .agg) else none
  | _ => none
theorem Pt.ld {h : H} {b : Nat} {B : Blk} (p : Pt h b B) {a : AA} {ag : Option Nat} {v : AV} (hb : a.b = b) (hv : ldB B a ag = some v) : h.ldg a ag = some v := by
  subst hb
  unfold ldB at hv
  split at hv
  · rename_i g e c k ro
    split at hv
    · rename_i hc
      cases ag <;> simp only [H.ldg, H.ld, H.ldn, H.row, p.2, hc, if_true]
      · exact hv
      · exact hv
    · cases hv
  · cases hv
theorem iop_ldP {h : H} {b : Nat} {B : Blk} (p : Pt h b B) {a : AA} {ag : Option Nat} {v : AV} {x : IX} {ρ : IX → AV} (hx : ρ x = .ptr a) (hb : a.b = b) (hv : ldB B a ag = some v) : iop (.ld ag x) ρ h = some (.val v h) := iop_ld hx (p.ld hb hv)
theorem rd_ldP {h : H} {b : Nat} {B : Blk} (p : Pt h b B) {a : AA} {ag : Option Nat} {v : AV} (hb : a.b = b) (hv : ldB B a ag = some v) : readsAs (.ld ag (.c (.ptr a))) v h = true := rd_ld (p.ld hb hv)

/-- Cells are written. -/
theorem Pt.st {h : H} {b g e : Nat} {c : List AV} (p : Pt h b (.cells g e c 0 false)) (o : Nat) (vs : List AV) (h1 : o + vs.length ≤ c.length) (h2 : vs.all AV.one = true) :
    ∃ h', h.st ⟨b, g, o⟩ vs = some h' ∧ Pt h' b (.cells g e (putAt c o vs) 0 false) ∧ Fr (fun s => s = b + 1) h h' ∧ h'.n = h.n := by
  refine ⟨h.set b (.cells g e (putAt c o vs) 0 false), ?_, ⟨p.1, h.get_set _ _⟩, ⟨Nat.le_refl _, fun k hk hs => h.get_set_ne _ k _ (fun e => hs (by rw [e]))⟩, rfl⟩
  unfold H.st
  simp only [p.2]
  rw [if_pos (by simp [h1, List.all_eq_true.1 h2]; exact fun x hx => List.all_eq_true.1 h2 x hx)]
theorem iop_stP {x y : IX} {ρ : IX → AV} {h h' : H} {n : Nat} {a : AA} {v : AV} {vs : List AV} (hx : ρ x = .ptr a) (hy : ρ y = v) (hv : v.cells = vs) (hn : vs.length = n) (hs : h.st a vs = some h') : iop (.st n x y) ρ h = some (.val .undef h') := by
  simp only [iop, hx, hy, hv, hn, BEq.rfl, if_true, hs, Option.map_some]
/-- A block is made. -/
theorem pt_new (h : H) (e : Nat) (cs : List AV) (h1 : cs.all AV.one = true) : ∃ h', (∀ {x : IX} {ρ : IX → AV} {v : AV}, ρ x = v → v.cells = cs → iop (.new e x) ρ h = some (.val (.ptr ⟨h.n, 0, 0⟩) h')) ∧ Pt h' h.n (.cells 0 e cs 0 false) ∧ Fr No h h' ∧ h'.n = h.n + 1 := by
  refine ⟨h.new (.cells 0 e cs 0 false), ?_, ⟨Nat.lt_succ_self _, h.get_new _⟩, (Ext.new h _).fr, rfl⟩
  intro x ρ v hx hv
  subst hx
  simp only [iop, hv, h1, if_true]
/-! Numbers held against each other: both ways at once -/
section
variable {F : FTab}
theorem Wo.cmp {o : IOper} {op : BinOp} {x y : IX} {l : List IOper} {ts : List AV} {h : H} {Q : List AV → H → Prop} {k : IntKind} {a b : Int} (p : Prop) [Decidable p] (ho : o.op = .bin op x y) (hg : wanted o.guard ts = true) (hx : ev ts x = .int k a) (hy : ev ts y = .int k b) (hop : op = .lss ∨ op = .leq ∨ op = .gtr ∨ op = .geq ∨ op = .eql ∨ op = .neq) (e : binInt op k a b = some (.bool (decide p)))
    (h1 : p → Wo F l (put ts o.dst (.bool true)) h Q) (h2 : ¬p → Wo F l (put ts o.dst (.bool false)) h Q) : Wo F (o :: l) ts h Q := by
  have hi : iop o.op (ev ts) h = some (.val (.bool (decide p)) h) := by
    rw [ho]
    rcases hop with rfl | rfl | rfl | rfl | rfl | rfl <;> simp [iop, binop, hx, hy, e]
  refine Wo.val _ _ hg hi ?_
  by_cases hp : p
  · rw [decide_eq_true hp]; exact h1 hp
  · rw [decide_eq_false hp]; exact h2 hp
theorem Wo.cmpN {o : IOper} {op : BinOp} {x y : IX} {l : List IOper} {ts : List AV} {h : H} {Q : List AV → H → Prop} {k : IntKind} {a b : Int} (p : Prop) [Decidable p] (ho : o.op = .bin op x y) (hg : wanted o.guard ts = true) (hx : ev ts x = .int k a) (hy : ev ts y = .int k b) (hop : op = .lss ∨ op = .leq ∨ op = .gtr ∨ op = .geq ∨ op = .eql ∨ op = .neq) (e : binInt op k a b = some (.bool (!decide p)))
    (h1 : p → Wo F l (put ts o.dst (.bool false)) h Q) (h2 : ¬p → Wo F l (put ts o.dst (.bool true)) h Q) : Wo F (o :: l) ts h Q := by
  have hi : iop o.op (ev ts) h = some (.val (.bool (!decide p)) h) := by
    rw [ho]
    rcases hop with rfl | rfl | rfl | rfl | rfl | rfl <;> simp [iop, binop, hx, hy, e]
  refine Wo.val _ _ hg hi ?_
  by_cases hp : p
  · rw [decide_eq_true hp]; exact h1 hp
  · rw [decide_eq_false hp]; exact h2 hp
theorem Wd.cmp {o : IOper} {id mask : Nat} {op : BinOp} {x y : IX} {l : List DOper} {ts : List AV} {h : H} {pe : Pend} {Q : List AV → H → Prop} {k : IntKind} {a b : Int} (p : Prop) [Decidable p] (ho : o.op = .bin op x y) (hg : wanted o.guard ts = true) (hx : ev ts x = .int k a) (hy : ev ts y = .int k b) (hop : op = .lss ∨ op = .leq ∨ op = .gtr ∨ op = .geq ∨ op = .eql ∨ op = .neq) (e : binInt op k a b = some (.bool (decide p)))
    (h1 : p → Wd F l (put ts o.dst (.bool true)) h pe Q) (h2 : ¬p → Wd F l (put ts o.dst (.bool false)) h pe Q) : Wd F (⟨o, false, id, mask⟩ :: l) ts h pe Q := by
  have hi : iop o.op (ev ts) h = some (.val (.bool (decide p)) h) := by
    rw [ho]
    rcases hop with rfl | rfl | rfl | rfl | rfl | rfl <;> simp [iop, binop, hx, hy, e]
  refine Wd.make _ _ hg (by rw [ho]; rfl) hi ?_
  by_cases hp : p
  · rw [decide_eq_true hp]; exact h1 hp
  · rw [decide_eq_false hp]; exact h2 hp
theorem Wd.cmpN {o : IOper} {id mask : Nat} {op : BinOp} {x y : IX} {l : List DOper} {ts : List AV} {h : H} {pe : Pend} {Q : List AV → H → Prop} {k : IntKind} {a b : Int} (p : Prop) [Decidable p] (ho : o.op = .bin op x y) (hg : wanted o.guard ts = true) (hx : ev ts x = .int k a) (hy : ev ts y = .int k b) (hop : op = .lss ∨ op = .leq ∨ op = .gtr ∨ op = .geq ∨ op = .eql ∨ op = .neq) (e : binInt op k a b = some (.bool (!decide p)))
    (h1 : p → Wd F l (put ts o.dst (.bool false)) h pe Q) (h2 : ¬p → Wd F l (put ts o.dst (.bool true)) h pe Q) : Wd F (⟨o, false, id, mask⟩ :: l) ts h pe Q := by
  have hi : iop o.op (ev ts) h = some (.val (.bool (!decide p)) h) := by
    rw [ho]
    rcases hop with rfl | rfl | rfl | rfl | rfl | rfl <;> simp [iop, binop, hx, hy, e]
  refine Wd.make _ _ hg (by rw [ho]; rfl) hi ?_
  by_cases hp : p
  · rw [decide_eq_true hp]; exact h1 hp
  · rw [decide_eq_false hp]; exact h2 hp
theorem Wo.boolS {b : Bool} {l : List IOper} {ts : List AV} {d : Option Nat} {h : H} {Q : List AV → H → Prop} (h1 : b = true → Wo F l (put ts d (.bool true)) h Q) (h2 : b = false → Wo F l (put ts d (.bool false)) h Q) : Wo F l (put ts d (.bool b)) h Q := by
  cases b
  · exact h2 rfl
  · exact h1 rfl
theorem Wd.boolS {b : Bool} {l : List DOper} {ts : List AV} {d : Option Nat} {h : H} {pe : Pend} {Q : List AV → H → Prop} (h1 : b = true → Wd F l (put ts d (.bool true)) h pe Q) (h2 : b = false → Wd F l (put ts d (.bool false)) h pe Q) : Wd F l (put ts d (.bool b)) h pe Q := by
  cases b
  · exact h2 rfl
  · exact h1 rfl
end

theorem iop_iaN {x y : IX} {ρ : IX → AV} {h : H} {a : AA} {n : Nat} {c : Cp} {s i : Nat} {ie : Int} (hx : ρ x = .sl a n c) (hy : ρ y = .int .i64 ie) (hi : ie = i) (hlt : i < n) : iop (.ia s x y) ρ h = some (.val (.ptr ⟨a.b, a.g, a.o + i * s⟩) h) := by
  subst hi
  simp only [iop, hx, hy, asI]
  rw [if_pos (by simp; omega)]
  rfl
theorem res_nil {h : H} {ts : List AV} : resOf h ts [] = some [] := rfl
theorem res_tmp {h : H} {ts : List AV} {t : Nat} {v : AV} {vs : List AV} {r : List (Nat × Option (Option Nat))} (h1 : (getL ts t).getD .undef = v) (h2 : resOf h ts r = some vs) : resOf h ts ((t, none) :: r) = some (v :: vs) := by simp [resOf, h1, h2]
theorem ret_one {h : H} {ts : List AV} {v : AV} {r : List (Nat × Option (Option Nat))} (hr : resOf h ts r = some [v]) : retV h ts r = some v := by simp [retV, hr]
theorem Ow.parts {lo : Nat} {h : H} {v : AV} {l : List UInt8} (ho : Ow lo h v l) : v.cells = [v] ∧ v.one = true ∧ isStrV v = false := ho.bs.parts
end Go.Det

/- Functions of the program in the form that the deterministic machine runs. -/
set_option maxRecDepth 100000
namespace Go.Det
open Go.Proofs
noncomputable abbrev TF : FTab := tabWith Try.prog [24, 35, 62]
def l19_1 : IC := IC.seq (IC.region [{ dst := some 23, op := IOp.bin (BinOp.lss) (IX.t 22) (IX.t 21), guard := none }]) (IC.seq (IC.cond (IX.t 23) (IC.skip) (IC.exit 1)) (IC.seq (IC.block 2 (IC.seq (IC.region [{ dst := some 24, op := IOp.mv (IX.t 22), guard := none }, { dst := some 9, op := IOp.mv (IX.t 24), guard := none }]) (IC.region [{ dst := some 25, op := IOp.mv (IX.t 8), guard := none }, { dst := some 26, op := IOp.mv (IX.t 1), guard := none }, { dst := some 27, op := IOp.mv (IX.t 2), guard := none }, { dst := some 28, op := IOp.bin (BinOp.sub) (IX.t 27) (IX.c (AV.int (IntKind.i64) 1)), guard := none }, { dst := some 29, op := IOp.mv (IX.t 9), guard := none }, { dst := some 30, op := IOp.bin (BinOp.sub) (IX.t 28) (IX.t 29), guard := none }, { dst := some 31, op := IOp.bin (BinOp.mul) (IX.c (AV.int (IntKind.i64) 8)) (IX.t 30), guard := none }, { dst := some 32, op := IOp.cvI (IntKind.u64) (IX.t 31), guard := none }, { dst := some 33, op := IOp.bin (BinOp.shr) (IX.t 26) (IX.t 32), guard := none }, { dst := some 34, op := IOp.cvI (IntKind.u8) (IX.t 33), guard := none }, { dst := some 35, op := IOp.bsl 5 [AV.int (IntKind.u8) 0] 1 [(0, 1, IX.t 34)], guard := none }, { dst := some 36, op := IOp.app 5 1 1 false (IX.t 25) (IX.t 35), guard := none }, { dst := some 8, op := IOp.mv (IX.t 36), guard := none }]))) (IC.region [{ dst := some 37, op := IOp.bin (BinOp.add) (IX.t 22) (IX.c (AV.int (IntKind.i64) 1)), guard := none }, { dst := some 22, op := IOp.mv (IX.t 37), guard := none }])))
/-- escritoire/wire.Num params 3 -/
def ir19 : IFunc := { ntmps := 39, results := [(6, none), (7, none)], body := IC.seq (IC.region [{ dst := some 6, op := IOp.mv (IX.c (AV.nils)), guard := none }, { dst := some 7, op := IOp.mv (IX.c (AV.int (IntKind.i64) 0)), guard := none }]) (IC.seq (IC.block 0 (IC.seq (IC.region [{ dst := some 11, op := IOp.mv (IX.t 2), guard := none }, { dst := some 12, op := IOp.call 70 [IX.t 11], guard := none }, { dst := some 13, op := IOp.un (UnOp.not) (IX.t 12), guard := none }, { dst := some 10, op := IOp.mv (IX.t 13), guard := none }]) (IC.cond (IX.t 10) (IC.seq (IC.region [{ dst := some 6, op := IOp.mv (IX.c (AV.nils)), guard := none }, { dst := some 7, op := IOp.mv (IX.c (AV.int (IntKind.i64) 1)), guard := none }]) (IC.ret)) (IC.seq (IC.region [{ dst := some 15, op := IOp.mv (IX.t 1), guard := none }, { dst := some 16, op := IOp.mv (IX.t 2), guard := none }, { dst := some 17, op := IOp.call 71 [IX.t 16], guard := none }, { dst := some 18, op := IOp.bin (BinOp.gtr) (IX.t 15) (IX.t 17), guard := none }, { dst := some 14, op := IOp.mv (IX.t 18), guard := none }]) (IC.cond (IX.t 14) (IC.seq (IC.region [{ dst := some 6, op := IOp.mv (IX.c (AV.nils)), guard := none }, { dst := some 7, op := IOp.mv (IX.c (AV.int (IntKind.i64) 3)), guard := none }]) (IC.ret)) (IC.skip)))))) (IC.seq (IC.region [{ dst := some 19, op := IOp.mv (IX.t 0), guard := none }, { dst := some 20, op := IOp.call 72 [IX.t 19], guard := none }, { dst := some 8, op := IOp.mv (IX.t 20), guard := none }]) (IC.seq (IC.seq (IC.region [{ dst := some 21, op := IOp.mv (IX.t 2), guard := none }, { dst := some 22, op := IOp.mv (IX.c (AV.int (IntKind.i64) 0)), guard := none }]) (IC.block 1 (IC.loop l19_1))) (IC.seq (IC.region [{ dst := some 38, op := IOp.mv (IX.t 8), guard := none }, { dst := some 6, op := IOp.mv (IX.t 38), guard := none }, { dst := some 7, op := IOp.mv (IX.c (AV.int (IntKind.i64) 0)), guard := none }]) (IC.ret))))), known := false } 
theorem f19 : TF 19 = some ir19 := by kernel_rfl
/-- escritoire/wire.Vec params 3 -/
def ir21 : IFunc := { ntmps := 27, results := [(6, none), (7, none)], body := IC.seq (IC.region [{ dst := some 6, op := IOp.mv (IX.c (AV.nils)), guard := none }, { dst := some 7, op := IOp.mv (IX.c (AV.int (IntKind.i64) 0)), guard := none }]) (IC.seq (IC.seq (IC.region [{ dst := some 10, op := IOp.mv (IX.t 2), guard := none }, { dst := some 11, op := IOp.bin (BinOp.gtr) (IX.t 10) (IX.c (AV.int (IntKind.i64) 3)), guard := none }]) (IC.cond (IX.t 11) (IC.seq (IC.region [{ dst := some 6, op := IOp.mv (IX.c (AV.nils)), guard := none }, { dst := some 7, op := IOp.mv (IX.c (AV.int (IntKind.i64) 1)), guard := none }]) (IC.ret)) (IC.skip))) (IC.seq (IC.region [{ dst := some 13, op := IOp.mv (IX.t 0), guard := none }, { dst := some 14, op := IOp.mv (IX.t 1), guard := none }, { dst := some 15, op := IOp.len false (IX.t 14), guard := none }, { dst := some 16, op := IOp.cvI (IntKind.u64) (IX.t 15), guard := none }, { dst := some 17, op := IOp.mv (IX.t 2), guard := none }, { dst := some 18, op := IOp.call 19 [IX.t 13, IX.t 16, IX.t 17], guard := none }, { dst := some 12, op := IOp.mv (IX.t 18), guard := none }, { dst := some 19, op := IOp.ext (IX.t 12) 0, guard := none }, { dst := some 20, op := IOp.ext (IX.t 12) 1, guard := none }, { dst := some 8, op := IOp.mv (IX.t 19), guard := none }, { dst := some 9, op := IOp.mv (IX.t 20), guard := none }]) (IC.seq (IC.seq (IC.region [{ dst := some 21, op := IOp.mv (IX.t 9), guard := none }, { dst := some 22, op := IOp.bin (BinOp.neq) (IX.t 21) (IX.c (AV.int (IntKind.i64) 0)), guard := none }]) (IC.cond (IX.t 22) (IC.seq (IC.region [{ dst := some 23, op := IOp.mv (IX.t 9), guard := none }, { dst := some 6, op := IOp.mv (IX.c (AV.nils)), guard := none }, { dst := some 7, op := IOp.mv (IX.t 23), guard := none }]) (IC.ret)) (IC.skip))) (IC.seq (IC.region [{ dst := some 24, op := IOp.mv (IX.t 8), guard := none }, { dst := some 25, op := IOp.mv (IX.t 1), guard := none }, { dst := some 26, op := IOp.app 5 1 1 false (IX.t 24) (IX.t 25), guard := none }, { dst := some 6, op := IOp.mv (IX.t 26), guard := none }, { dst := some 7, op := IOp.mv (IX.c (AV.int (IntKind.i64) 0)), guard := none }]) (IC.ret))))), known := false } 
theorem f21 : TF 21 = some ir21 := by kernel_rfl
/-- bytes.Equal params 2 -/
def ir23 : IFunc := { ntmps := 10, results := [(4, none)], body := IC.seq (IC.region [{ dst := some 4, op := IOp.mv (IX.c (AV.bool false)), guard := none }]) (IC.seq (IC.region [{ dst := some 5, op := IOp.mv (IX.t 0), guard := none }, { dst := some 6, op := IOp.cvBS (IX.t 5), guard := none }, { dst := some 7, op := IOp.mv (IX.t 1), guard := none }, { dst := some 8, op := IOp.cvBS (IX.t 7), guard := none }, { dst := some 9, op := IOp.bin (BinOp.eql) (IX.t 6) (IX.t 8), guard := none }, { dst := some 4, op := IOp.mv (IX.t 9), guard := none }]) (IC.ret)), known := false } 
theorem f23 : TF 23 = some ir23 := by kernel_rfl
/-- escritoire/entry.SignedHead params 1 -/
def ir36 : IFunc := { ntmps := 15, results := [(2, none)], body := IC.seq (IC.region [{ dst := some 1, op := IOp.new 65 (IX.t 0), guard := none }, { dst := some 2, op := IOp.mv (IX.c (AV.nils)), guard := none }]) (IC.seq (IC.region [{ dst := some 4, op := IOp.bsl 5 [AV.int (IntKind.u8) 0, AV.int (IntKind.u8) 0] 2 [(0, 1, IX.c (AV.int (IntKind.u8) 0)), (1, 1, IX.c (AV.int (IntKind.u8) 1))], guard := none }, { dst := some 5, op := IOp.fa 1 (IX.t 1), guard := none }, { dst := some 6, op := IOp.ld none (IX.t 5), guard := none }, { dst := some 7, op := IOp.call 76 [IX.t 4, IX.t 6, IX.c (AV.int (IntKind.i64) 8)], guard := none }, { dst := some 3, op := IOp.mv (IX.t 7), guard := none }]) (IC.seq (IC.draw [{ toIOper := { dst := some 8, op := IOp.mv (IX.t 3), guard := none }, act := false, id := 0, mask := 0 }, { toIOper := { dst := some 9, op := IOp.fa 0 (IX.t 1), guard := none }, act := false, id := 1, mask := 0 }, { toIOper := { dst := some 10, op := IOp.ld none (IX.t 9), guard := none }, act := false, id := 2, mask := 2 }, { toIOper := { dst := some 12, op := IOp.fa 2 (IX.t 1), guard := none }, act := false, id := 4, mask := 0 }, { toIOper := { dst := some 13, op := IOp.slA 32 1 (IX.t 12) none none none, guard := none }, act := false, id := 5, mask := 16 }, { toIOper := { dst := some 11, op := IOp.call 76 [IX.t 8, IX.t 10, IX.c (AV.int (IntKind.i64) 8)], guard := none }, act := true, id := 3, mask := 7 }, { toIOper := { dst := some 14, op := IOp.app 5 1 1 false (IX.t 11) (IX.t 13), guard := none }, act := true, id := 6, mask := 63 }, { toIOper := { dst := some 2, op := IOp.mv (IX.t 14), guard := none }, act := false, id := 7, mask := 127 }]) (IC.ret))), known := false } 
theorem f36 : TF 36 = some ir36 := by kernel_rfl
/-- escritoire/wire.sized params 1 -/
def ir70 : IFunc := { ntmps := 13, results := [(2, none)], body := IC.seq (IC.region [{ dst := some 2, op := IOp.mv (IX.c (AV.bool false)), guard := none }]) (IC.seq (IC.region [{ dst := some 3, op := IOp.mv (IX.t 0), guard := none }, { dst := some 4, op := IOp.bin (BinOp.geq) (IX.t 3) (IX.c (AV.int (IntKind.i64) 1)), guard := none }, { dst := some 5, op := IOp.mv (IX.t 4), guard := none }, { dst := some 6, op := IOp.mv (IX.t 0), guard := some (5, true) }, { dst := some 7, op := IOp.bin (BinOp.leq) (IX.t 6) (IX.c (AV.int (IntKind.i64) 4)), guard := some (5, true) }, { dst := some 8, op := IOp.pick (IX.t 5) (IX.t 7) (IX.c (AV.bool false)), guard := none }, { dst := some 9, op := IOp.mv (IX.t 8), guard := none }, { dst := some 10, op := IOp.mv (IX.t 0), guard := some (9, false) }, { dst := some 11, op := IOp.bin (BinOp.eql) (IX.t 10) (IX.c (AV.int (IntKind.i64) 8)), guard := some (9, false) }, { dst := some 12, op := IOp.pick (IX.t 9) (IX.c (AV.bool true)) (IX.t 11), guard := none }, { dst := some 2, op := IOp.mv (IX.t 12), guard := none }]) (IC.ret)), known := false } 
theorem f70 : TF 70 = some ir70 := by kernel_rfl
/-- escritoire/wire.most params 1 -/
def ir71 : IFunc := { ntmps := 8, results := [(2, none)], body := IC.seq (IC.region [{ dst := some 2, op := IOp.mv (IX.c (AV.int (IntKind.u64) 0)), guard := none }]) (IC.seq (IC.region [{ dst := some 3, op := IOp.mv (IX.t 0), guard := none }, { dst := some 4, op := IOp.bin (BinOp.mul) (IX.c (AV.int (IntKind.i64) 8)) (IX.t 3), guard := none }, { dst := some 5, op := IOp.bin (BinOp.sub) (IX.c (AV.int (IntKind.i64) 64)) (IX.t 4), guard := none }, { dst := some 6, op := IOp.cvI (IntKind.u64) (IX.t 5), guard := none }, { dst := some 7, op := IOp.bin (BinOp.shr) (IX.c (AV.int (IntKind.u64) 18446744073709551615)) (IX.t 6), guard := none }, { dst := some 2, op := IOp.mv (IX.t 7), guard := none }]) (IC.ret)), known := false } 
theorem f71 : TF 71 = some ir71 := by kernel_rfl
/-- slices.Clone[[]byte,byte] params 1 -/
def ir72 : IFunc := { ntmps := 8, results := [(2, none)], body := IC.seq (IC.region [{ dst := some 2, op := IOp.mv (IX.c (AV.nils)), guard := none }]) (IC.seq (IC.seq (IC.region [{ dst := some 3, op := IOp.mv (IX.t 0), guard := none }, { dst := some 4, op := IOp.eq (EqD.sl) false true (IX.t 3) (IX.c (AV.nils)), guard := none }]) (IC.cond (IX.t 4) (IC.seq (IC.region [{ dst := some 2, op := IOp.mv (IX.c (AV.nils)), guard := none }]) (IC.ret)) (IC.skip))) (IC.seq (IC.region [{ dst := some 5, op := IOp.bsl 5 [] 0 [], guard := none }, { dst := some 6, op := IOp.mv (IX.t 0), guard := none }, { dst := some 7, op := IOp.app 5 1 1 false (IX.t 5) (IX.t 6), guard := none }, { dst := some 2, op := IOp.mv (IX.t 7), guard := none }]) (IC.ret))), known := false } 
theorem f72 : TF 72 = some ir72 := by kernel_rfl
/-- escritoire/entry.number params 3 -/
def ir76 : IFunc := { ntmps := 17, results := [(6, none)], body := IC.seq (IC.region [{ dst := some 6, op := IOp.mv (IX.c (AV.nils)), guard := none }]) (IC.seq (IC.region [{ dst := some 10, op := IOp.mv (IX.t 0), guard := none }, { dst := some 11, op := IOp.mv (IX.t 1), guard := none }, { dst := some 12, op := IOp.mv (IX.t 2), guard := none }, { dst := some 13, op := IOp.call 19 [IX.t 10, IX.t 11, IX.t 12], guard := none }, { dst := some 9, op := IOp.mv (IX.t 13), guard := none }, { dst := some 14, op := IOp.ext (IX.t 9) 0, guard := none }, { dst := some 15, op := IOp.ext (IX.t 9) 1, guard := none }, { dst := some 7, op := IOp.mv (IX.t 14), guard := none }, { dst := some 8, op := IOp.mv (IX.t 15), guard := none }]) (IC.seq (IC.region [{ dst := some 16, op := IOp.mv (IX.t 7), guard := none }, { dst := some 6, op := IOp.mv (IX.t 16), guard := none }]) (IC.ret))), known := false } 
theorem f76 : TF 76 = some ir76 := by kernel_rfl
end Go.Det

/- Functions of the program in the form that the deterministic machine runs. -/
set_option maxRecDepth 100000
namespace Go.Det
open Go.Proofs
/-- escritoire/entry.Leaf params 1 -/
def ir38 : IFunc := { ntmps := 8, results := [(2, none), (3, none)], body := IC.seq (IC.region [{ dst := some 1, op := IOp.new 70 (IX.t 0), guard := none }, { dst := some 2, op := IOp.mv (IX.c (AV.nils)), guard := none }, { dst := some 3, op := IOp.mv (IX.c (AV.int (IntKind.i64) 0)), guard := none }]) (IC.seq (IC.region [{ dst := some 4, op := IOp.ld (some 2) (IX.t 1), guard := none }, { dst := some 5, op := IOp.call 78 [IX.t 4], guard := none }, { dst := some 6, op := IOp.ext (IX.t 5) 0, guard := none }, { dst := some 7, op := IOp.ext (IX.t 5) 1, guard := none }, { dst := some 2, op := IOp.mv (IX.t 6), guard := none }, { dst := some 3, op := IOp.mv (IX.t 7), guard := none }]) (IC.ret)), known := false } 
theorem f38 : TF 38 = some ir38 := by kernel_rfl
/-- escritoire/entry.SignedSCT params 1 -/
def ir39 : IFunc := { ntmps := 8, results := [(2, none), (3, none)], body := IC.seq (IC.region [{ dst := some 1, op := IOp.new 70 (IX.t 0), guard := none }, { dst := some 2, op := IOp.mv (IX.c (AV.nils)), guard := none }, { dst := some 3, op := IOp.mv (IX.c (AV.int (IntKind.i64) 0)), guard := none }]) (IC.seq (IC.region [{ dst := some 4, op := IOp.ld (some 2) (IX.t 1), guard := none }, { dst := some 5, op := IOp.call 78 [IX.t 4], guard := none }, { dst := some 6, op := IOp.ext (IX.t 5) 0, guard := none }, { dst := some 7, op := IOp.ext (IX.t 5) 1, guard := none }, { dst := some 2, op := IOp.mv (IX.t 6), guard := none }, { dst := some 3, op := IOp.mv (IX.t 7), guard := none }]) (IC.ret)), known := false } 
theorem f39 : TF 39 = some ir39 := by kernel_rfl
def l49_1 : IC := IC.seq (IC.region [{ dst := some 19, op := IOp.bin (BinOp.lss) (IX.t 18) (IX.t 17), guard := none }]) (IC.seq (IC.cond (IX.t 19) (IC.skip) (IC.exit 0)) (IC.seq (IC.block 1 (IC.seq (IC.region [{ dst := some 20, op := IOp.ia 1 (IX.t 16) (IX.t 18), guard := none }, { dst := some 21, op := IOp.ld none (IX.t 20), guard := none }, { dst := some 4, op := IOp.mv (IX.t 21), guard := none }]) (IC.seq (IC.region [{ dst := some 22, op := IOp.mv (IX.t 4), guard := none }, { dst := some 23, op := IOp.len false (IX.t 22), guard := none }, { dst := some 24, op := IOp.bin (BinOp.lss) (IX.t 23) (IX.c (AV.int (IntKind.i64) 1)), guard := none }, { dst := some 25, op := IOp.mv (IX.t 24), guard := none }, { dst := some 26, op := IOp.mv (IX.t 4), guard := some (25, false) }, { dst := some 27, op := IOp.len false (IX.t 26), guard := some (25, false) }, { dst := some 28, op := IOp.bin (BinOp.gtr) (IX.t 27) (IX.c (AV.int (IntKind.i64) 512)), guard := some (25, false) }, { dst := some 29, op := IOp.pick (IX.t 25) (IX.c (AV.bool true)) (IX.t 28), guard := none }]) (IC.cond (IX.t 29) (IC.seq (IC.region [{ dst := some 2, op := IOp.mv (IX.c (AV.bool false)), guard := none }]) (IC.ret)) (IC.skip))))) (IC.region [{ dst := some 30, op := IOp.bin (BinOp.add) (IX.t 18) (IX.c (AV.int (IntKind.i64) 1)), guard := none }, { dst := some 18, op := IOp.mv (IX.t 30), guard := none }])))
/-- escritoire/entry.May params 1 -/
def ir49 : IFunc := { ntmps := 31, results := [(2, none)], body := IC.seq (IC.region [{ dst := some 1, op := IOp.new 70 (IX.t 0), guard := none }, { dst := some 2, op := IOp.mv (IX.c (AV.bool false)), guard := none }]) (IC.seq (IC.seq (IC.region [{ dst := some 5, op := IOp.fa 1 (IX.t 1), guard := none }, { dst := some 6, op := IOp.ld none (IX.t 5), guard := none }, { dst := some 7, op := IOp.len false (IX.t 6), guard := none }, { dst := some 8, op := IOp.bin (BinOp.lss) (IX.t 7) (IX.c (AV.int (IntKind.i64) 1)), guard := none }, { dst := some 9, op := IOp.mv (IX.t 8), guard := none }, { dst := some 10, op := IOp.fa 1 (IX.t 1), guard := some (9, false) }, { dst := some 11, op := IOp.ld none (IX.t 10), guard := some (9, false) }, { dst := some 12, op := IOp.len false (IX.t 11), guard := some (9, false) }, { dst := some 13, op := IOp.bin (BinOp.gtr) (IX.t 12) (IX.c (AV.int (IntKind.i64) 4)), guard := some (9, false) }, { dst := some 14, op := IOp.pick (IX.t 9) (IX.c (AV.bool true)) (IX.t 13), guard := none }]) (IC.cond (IX.t 14) (IC.seq (IC.region [{ dst := some 2, op := IOp.mv (IX.c (AV.bool false)), guard := none }]) (IC.ret)) (IC.skip))) (IC.seq (IC.seq (IC.region [{ dst := some 15, op := IOp.fa 1 (IX.t 1), guard := none }, { dst := some 16, op := IOp.ld none (IX.t 15), guard := none }, { dst := some 17, op := IOp.len false (IX.t 16), guard := none }, { dst := some 18, op := IOp.mv (IX.c (AV.int (IntKind.i64) 0)), guard := none }]) (IC.block 0 (IC.loop l49_1))) (IC.seq (IC.region [{ dst := some 2, op := IOp.mv (IX.c (AV.bool true)), guard := none }]) (IC.ret)))), known := false } 
theorem f49 : TF 49 = some ir49 := by kernel_rfl
/-- escritoire/entry.timed params 1 -/
def ir78 : IFunc := { ntmps := 31, results := [(2, none), (3, none)], body := IC.seq (IC.region [{ dst := some 1, op := IOp.new 70 (IX.t 0), guard := none }, { dst := some 2, op := IOp.mv (IX.c (AV.nils)), guard := none }, { dst := some 3, op := IOp.mv (IX.c (AV.int (IntKind.i64) 0)), guard := none }]) (IC.seq (IC.seq (IC.region [{ dst := some 6, op := IOp.ld (some 2) (IX.t 1), guard := none }, { dst := some 7, op := IOp.call 49 [IX.t 6], guard := none }, { dst := some 8, op := IOp.un (UnOp.not) (IX.t 7), guard := none }]) (IC.cond (IX.t 8) (IC.seq (IC.region [{ dst := some 2, op := IOp.mv (IX.c (AV.nils)), guard := none }, { dst := some 3, op := IOp.mv (IX.c (AV.int (IntKind.i64) 1)), guard := none }]) (IC.ret)) (IC.skip))) (IC.seq (IC.region [{ dst := some 9, op := IOp.bsl 5 [AV.int (IntKind.u8) 0, AV.int (IntKind.u8) 0] 2 [(0, 1, IX.c (AV.int (IntKind.u8) 0)), (1, 1, IX.c (AV.int (IntKind.u8) 0))], guard := none }, { dst := some 10, op := IOp.fa 0 (IX.t 1), guard := none }, { dst := some 11, op := IOp.ld none (IX.t 10), guard := none }, { dst := some 12, op := IOp.call 76 [IX.t 9, IX.t 11, IX.c (AV.int (IntKind.i64) 8)], guard := none }, { dst := some 4, op := IOp.mv (IX.t 12), guard := none }]) (IC.seq (IC.region [{ dst := some 13, op := IOp.mv (IX.t 4), guard := none }, { dst := some 14, op := IOp.call 76 [IX.t 13, IX.c (AV.int (IntKind.u64) 0), IX.c (AV.int (IntKind.i64) 2)], guard := none }, { dst := some 4, op := IOp.mv (IX.t 14), guard := none }]) (IC.seq (IC.region [{ dst := some 16, op := IOp.mv (IX.t 4), guard := none }, { dst := some 17, op := IOp.fa 1 (IX.t 1), guard := none }, { dst := some 18, op := IOp.ld none (IX.t 17), guard := none }, { dst := some 19, op := IOp.ia 1 (IX.t 18) (IX.c (AV.int (IntKind.i64) 0)), guard := none }, { dst := some 20, op := IOp.ld none (IX.t 19), guard := none }, { dst := some 21, op := IOp.call 21 [IX.t 16, IX.t 20, IX.c (AV.int (IntKind.i64) 3)], guard := none }, { dst := some 15, op := IOp.mv (IX.t 21), guard := none }, { dst := some 22, op := IOp.ext (IX.t 15) 0, guard := none }, { dst := some 23, op := IOp.ext (IX.t 15) 1, guard := none }, { dst := some 4, op := IOp.mv (IX.t 22), guard := none }, { dst := some 5, op := IOp.mv (IX.t 23), guard := none }]) (IC.seq (IC.seq (IC.region [{ dst := some 24, op := IOp.mv (IX.t 5), guard := none }, { dst := some 25, op := IOp.bin (BinOp.neq) (IX.t 24) (IX.c (AV.int (IntKind.i64) 0)), guard := none }]) (IC.cond (IX.t 25) (IC.seq (IC.region [{ dst := some 26, op := IOp.mv (IX.t 5), guard := none }, { dst := some 2, op := IOp.mv (IX.c (AV.nils)), guard := none }, { dst := some 3, op := IOp.mv (IX.t 26), guard := none }]) (IC.ret)) (IC.skip))) (IC.seq (IC.region [{ dst := some 27, op := IOp.mv (IX.t 4), guard := none }, { dst := some 28, op := IOp.call 21 [IX.t 27, IX.c (AV.nils), IX.c (AV.int (IntKind.i64) 2)], guard := none }, { dst := some 29, op := IOp.ext (IX.t 28) 0, guard := none }, { dst := some 30, op := IOp.ext (IX.t 28) 1, guard := none }, { dst := some 2, op := IOp.mv (IX.t 29), guard := none }, { dst := some 3, op := IOp.mv (IX.t 30), guard := none }]) (IC.ret))))))), known := false } 
theorem f78 : TF 78 = some ir78 := by kernel_rfl
end Go.Det

/- What the writers of the packet's first package do: numbers and rows laid behind a row. -/
set_option linter.unusedVariables false
set_option linter.unusedSimpArgs false
namespace Go.Det
open Go.Proofs
attribute [local simp] skip_iff ret_iff exit_iff seq_iff block_iff thenQ_normal thenQ_ret thenQ_exit thenQ_goto blockQ_normal blockQ_ret blockQ_exit blockQ_goto condQ_bool cond_iff region_iff wo_nil ansQ_val ansQ_call wo_cons wo_guard wanted put setL getL ev iop binop binInt shInt asI retV resOf unop getL_put len_put
attribute [local congr] ansQ_congr condQ_congr

theorem sized_run (s : Int) (h : H) : Runs TF 70 [.int .i64 s] h (.bool (decide (1 ≤ s ∧ s ≤ 4 ∨ s = 8))) h := by
  refine Runs.of' f70 rfl ?_
  simp [List.replicate]
  by_cases h3 : s = 8
  · subst h3; simp
  · by_cases h1 : 1 ≤ s <;> by_cases h2 : s ≤ 4 <;> simp [h1, h2, h3]

theorem most_run (s : Int) (hs : 1 ≤ s ∧ s ≤ 4 ∨ s = 8) (h : H) : Runs TF 71 [.int .i64 s] h (.int .u64 (2 ^ (8 * s.toNat) - 1)) h := by
  have : s = 1 ∨ s = 2 ∨ s = 3 ∨ s = 4 ∨ s = 8 := by omega
  refine Runs.of' f71 rfl ?_
  rcases this with rfl | rfl | rfl | rfl | rfl <;> simp [List.replicate, i64_fit, u64_fit, IntKind.bits] <;> decide

theorem clone_run {v : AV} {l : List UInt8} {h : H} (hb : Bs h v l) (hl : l.length ≤ maxRow) : ∃ x h', Runs TF 72 [v] h x h' ∧ Ext h h' ∧ Ow h.n h' x l := by
  rcases hb with ⟨rfl, rfl⟩ | ⟨a, c, rfl, h1, h2⟩
  · refine ⟨.nils, h, Runs.of' f72 rfl ?_, Ext.refl h, .inl ⟨rfl, rfl⟩⟩
    simp [List.replicate, eqv]
  · have hb : Bs (h.new (.cells 0 5 [] 0 false)) (.sl a l.length c) l := Bs.ext (.inr ⟨a, c, rfl, h1, h2⟩) (Ext.new h _)
    obtain ⟨x, h', e1, e2, e3, e4⟩ := Ow.app (lo := h.n) (h := h.new (.cells 0 5 [] 0 false)) (x := .sl ⟨h.n, 0, 0⟩ 0 (.ex 0)) (l := []) (.inr ⟨h.n, 0, Nat.le_refl _, by simp, by rw [h.get_new]; rfl, .inr rfl⟩) hb (by simp) (by simpa using hl)
    refine ⟨x, h', Runs.of' f72 rfl ?_, ?_, e2⟩
    · simp [List.replicate, eqv, fillL, isStrV, e1]
    · exact Ext2.one (((Ext.new h _).two (Nat.le_refl _)).trans e3)

/-- A digit of a number, from the front. -/
def dig (n size i : Nat) : UInt8 := b8 ((n : Int).fdiv (2 ^ (8 * (size - 1 - i))))
def digits (n size k : Nat) : List UInt8 := (List.range k).map (dig n size)
theorem digits_succ (n size k : Nat) : digits n size (k + 1) = digits n size k ++ [dig n size k] := by simp [digits, List.range_succ]
theorem digits_len (n size k : Nat) : (digits n size k).length = k := by simp [digits]

theorem num_loop {lo n size : Nat} (hn : n < 2 ^ 64) (hs : 1 ≤ size ∧ size ≤ 8) {l : List UInt8} (hl : l.length + 8 ≤ maxRow) :
    ∀ (k i : Nat), i + k = size → ∀ (x : AV) (h : H) (ts : List AV), ts.length = 39 → getL ts 1 = some (.int .u64 n) → getL ts 2 = some (.int .i64 size) → getL ts 8 = some x → getL ts 21 = some (.int .i64 size) → getL ts 22 = some (.int .i64 i) →
      lo ≤ h.n → Ow lo h x (l ++ digits n size i) → ∀ (Q : Ex → St → Prop), (∀ ts' h' x', ts'.length = 39 → getL ts' 8 = some x' → Ow lo h' x' (l ++ digits n size size) → Ext2 lo h h' → Q (.exit 1) (ts', h')) → Wp TF (.loop l19_1) (ts, h) Q := by
  intro k
  induction k with
  | zero =>
    intro i hi x h ts t0 t1 t2 t8 t21 t22 hlo hx Q hQ
    obtain rfl : i = size := by omega
    refine Wp.loop ?_
    simp [l19_1, t0, t21, t22]
    exact hQ _ _ _ (by simp [t0]) (by simp [t8]) hx ⟨Nat.le_refl _, fun _ _ => rfl⟩
  | succ k ih =>
    intro i hi x h ts t0 t1 t2 t8 t21 t22 hlo hx Q hQ
    refine Wp.loop ?_
    have hlt : i < size := by omega
    obtain ⟨e, he⟩ : ∃ e, e = size - 1 - i := ⟨_, rfl⟩
    have w1 : IntKind.i64.wrap ((size : Int) - 1) = (size : Int) - 1 := i64_fit _ (by omega)
    have w2 : IntKind.i64.wrap ((size : Int) - 1 - (i : Int)) = (e : Int) := by rw [i64_fit _ (by omega)]; omega
    have w3 : IntKind.i64.wrap (8 * (e : Int)) = 8 * (e : Int) := i64_fit _ (by omega)
    have w4 : IntKind.u64.wrap (8 * (e : Int)) = 8 * (e : Int) := u64_fit _ (by omega)
    have w5 : IntKind.i64.wrap ((i : Int) + 1) = (i : Int) + 1 := i64_fit _ (by omega)
    have w6 : min (8 * (e : Int)).toNat IntKind.u64.bits = 8 * e := by simp only [IntKind.bits]; omega
    have w7 : ¬ (8 * (e : Int) < 0) := by omega
    have w8 : IntKind.u8.wrap ((n : Int).fdiv (2 ^ (8 * e))) = ((dig n size i).toNat : Int) := by rw [wrap_u8, dig, ← he]
    obtain ⟨y, h', e1, e2, e3, e4⟩ := Ow.app (hx.ext (Ext.new h (.cells 0 5 [.int .u8 (dig n size i).toNat] 0 false))) (Bs.one h (dig n size i)) (by simp; omega) (by simp [digits_len]; omega)
    have hlo' : lo ≤ h'.n := by have := e3.1; simp at this; omega
    simp only [l19_1]
    simp [t0, t1, t2, t8, t21, t22, hlt, w1, w2, w3, w4, w5, w6, w7, w8, fillL, putAt, AV.cells, AV.one, isStrV, e1]
    refine ih (i + 1) (by omega) y h' _ (by simp [t0]) (by simp [t1]) (by simp [t2]) (by simp [t0]) (by simp [t21]) (by simp [t0]) hlo' (by rw [digits_succ, ← List.append_assoc]; exact e2) Q ?_
    intro ts' h2 x' g1 g2 g3 g4
    exact hQ ts' h2 x' g1 g2 g3 ((((Ext.new h _).two hlo).trans e3).trans g4)

def numE (n : Nat) (size : Int) : Int := if ¬ (1 ≤ size ∧ size ≤ 4 ∨ size = 8) then 1 else if 2 ^ (8 * size.toNat) ≤ n then 3 else 0

theorem num_run {b : AV} {l : List UInt8} {h : H} (hb : Bs h b l) (hl : l.length + 8 ≤ maxRow) {n : Nat} (hn : n < 2 ^ 64) (size : Int) :
    ∃ v h', Runs TF 19 [b, .int .u64 n, .int .i64 size] h v h' ∧ ∃ x, v = .tup [x, .int .i64 (numE n size)] ∧ Ext h h' ∧ Ow h.n h' x (if numE n size = 0 then l ++ digits n size.toNat size.toNat else []) := by
  refine Runs.ofP f19 rfl ?_
  simp [List.replicate]
  refine ⟨_, _, sized_run size h, ?_⟩
  by_cases hs : 1 ≤ size ∧ size ≤ 4 ∨ size = 8
  · simp [hs]
    refine ⟨_, _, most_run size hs h, ?_⟩
    by_cases hm : 2 ^ (8 * size.toNat) ≤ n
    · have e : numE n size = 3 := by simp [numE, hs, hm]
      have h3 : (2 : Int) ^ (8 * size.toNat) - 1 < (n : Int) := by have : ((2 ^ (8 * size.toNat) : Nat) : Int) ≤ n := by exact_mod_cast hm
                                                                   push_cast at this; omega
      simp [h3, e]
      exact ⟨Ext.refl h, .inl ⟨rfl, rfl⟩⟩
    · have e : numE n size = 0 := by simp [numE, hs, hm]
      have h3 : ¬ ((2 : Int) ^ (8 * size.toNat) - 1 < (n : Int)) := by have : (n : Int) < ((2 ^ (8 * size.toNat) : Nat) : Int) := by exact_mod_cast Nat.lt_of_not_le hm
                                                                       push_cast at this; omega
      obtain ⟨x, h', c1, c2, c3⟩ := clone_run hb (by omega)
      simp [h3]
      refine ⟨x, h', c1, ?_⟩
      obtain ⟨m, rfl⟩ : ∃ m : Nat, size = m := ⟨size.toNat, by omega⟩
      refine num_loop (lo := h.n) hn (size := m) (by omega) hl m 0 (by omega) x h' _ rfl rfl rfl rfl rfl rfl c2.1 (by simpa [digits] using c3) _ ?_
      intro ts' h2 x' g1 g2 g3 g4
      simp [g1, g2, e]
      exact ⟨⟨Nat.le_trans c2.1 g4.1, fun b hb => (g4.2 b hb).trans (c2.2 b hb)⟩, g3⟩
  · have e : numE n size = 1 := by simp [numE, hs]
    simp [hs, e]
    exact ⟨Ext.refl h, .inl ⟨rfl, rfl⟩⟩


theorem equal_run {x y : AV} {l m : List UInt8} {h : H} (hx : Bs h x l) (hy : Bs h y m) : Runs TF 23 [x, y] h (.bool (l == m)) h := by
  refine Runs.of' f23 rfl ?_
  have tob : ∀ l : List UInt8, toBytes (bytesAV l) = some l := by
    intro l
    induction l with
    | nil => rfl
    | cons c l ih => simp only [bytesAV, List.map_cons, toBytes] at ih ⊢; rw [ih]; simp
  have key : ∀ {v : AV} {l : List UInt8}, Bs h v l → iop (.cvBS (.c v)) (ev []) h = some (.val (.str l) h) := by
    intro v l hv
    rcases hv with ⟨rfl, rfl⟩ | ⟨a, c, rfl, _, h2⟩
    · rfl
    · simp [h2, tob]
  have kx := key hx
  have ky := key hy
  simp only [iop, ev] at kx ky
  simp [List.replicate, kx, ky, binStr]

theorem dig_eq (n size i : Nat) : dig n size i = UInt8.ofNat (n / 256 ^ (size - 1 - i)) := by
  have e : (n : Int).fdiv (2 ^ (8 * (size - 1 - i))) = ((n / 256 ^ (size - 1 - i) : Nat) : Int) := by
    have h2 : (2 : Int) ^ (8 * (size - 1 - i)) = ((256 ^ (size - 1 - i) : Nat) : Int) := by
      rw [show (256 : Nat) = 2 ^ 8 from rfl, ← Nat.pow_mul, Int.natCast_pow]
      rfl
    rw [h2, Int.fdiv_eq_ediv_of_nonneg _ (Int.natCast_nonneg _)]
    exact_mod_cast rfl
  rw [dig, e, b8]
  generalize n / 256 ^ (size - 1 - i) = x
  have : ((x : Int) % 256).toNat = x % 256 := by omega
  rw [this, ofNat_mod]

end Go.Det

/- What the packet's reader does: it takes numbers and rows of bytes from ahead. -/
set_option linter.unusedVariables false
set_option linter.unusedSimpArgs false
namespace Go.Det
open Go.Proofs
attribute [local simp] skip_iff ret_iff exit_iff seq_iff block_iff thenQ_normal thenQ_ret thenQ_exit thenQ_goto blockQ_normal blockQ_ret blockQ_exit blockQ_goto condQ_bool cond_iff region_iff wo_nil ansQ_val ansQ_call wo_cons wo_guard wanted put setL getL ev iop binop binInt shInt asI retV resOf unop draw_iff wd_nil wd_quiet wd_act holds_nil holds_cons
attribute [local congr] ansQ_congr condQ_congr Wo_congr Wp_congr Wd_congr

/-- A reader: its block, the row that is left, and how it reads. -/
def Rd (h : H) (b : Nat) (v : AV) (l : List UInt8) : Prop := b < h.n ∧ h.get b = some (.cells 0 121 [v, .bool true] 0 false) ∧ Bs h v l ∧ ∀ a n c, v = .sl a n c → a.b ≠ b ∧ ((∃ k, c = .ex k ∧ n ≤ k) ∨ c = .op 1)

theorem Rd.ld {h : H} {b : Nat} {v : AV} {l : List UInt8} (hR : Rd h b v l) : h.ldg ⟨b, 0, 0⟩ none = some v ∧ h.ldg ⟨b, 0, 1⟩ none = some (.bool true) := by
  simp [H.ldg, H.ld, H.row, hR.2.1]

theorem Ow.blk {lo : Nat} {h : H} {v : AV} {l : List UInt8} (ho : Ow lo h v l) {a : AA} {n : Nat} {c : Cp} (e : v = .sl a n c) : lo ≤ a.b ∧ a.b < h.n := by
  subst e
  rcases ho with ⟨e1, _⟩ | ⟨b', g', q1, q2, _, e1 | e1⟩
  · simp at e1
  · simp only [AV.sl.injEq] at e1; rw [e1.1]; exact ⟨q1, q2⟩
  · simp only [AV.sl.injEq] at e1; rw [e1.1]; exact ⟨q1, q2⟩

/-- Only the reader's own block is written. -/
def ExtB (b : Nat) (h h' : H) : Prop := h.n ≤ h'.n ∧ ∀ k, k < h.n → k ≠ b → h'.get k = h.get k

theorem ExtB.trans {b : Nat} {h h' h'' : H} (x : ExtB b h h') (y : ExtB b h' h'') : ExtB b h h'' := ⟨Nat.le_trans x.1 y.1, fun k hk hb => (y.2 k (Nat.lt_of_lt_of_le hk x.1) hb).trans (x.2 k hk hb)⟩
theorem Ext.b {h h' : H} (x : Ext h h') (b : Nat) : ExtB b h h' := ⟨x.1, fun k hk _ => x.2 k hk⟩

/-- A row in the same block. -/
def SB (v v' : AV) : Prop := ∀ a n c, v' = .sl a n c → ∃ a0 n0 c0, v = .sl a0 n0 c0 ∧ a0.b = a.b
theorem SB.refl (v : AV) : SB v v := fun a n c e => ⟨a, n, c, e, rfl⟩
theorem SB.trans {u v w : AV} (x : SB u v) (y : SB v w) : SB u w := by
  intro a n c e
  obtain ⟨a1, n1, c1, e1, q1⟩ := y a n c e
  obtain ⟨a2, n2, c2, e2, q2⟩ := x a1 n1 c1 e1
  exact ⟨a2, n2, c2, e2, q2.trans q1⟩

/-- A number's bytes, the first one foremost. -/
def be (l : List UInt8) : Nat := l.foldl (fun a c => a * 256 + c.toNat) 0
theorem be_snoc (l : List UInt8) (c : UInt8) : be (l ++ [c]) = be l * 256 + c.toNat := by simp [be]
theorem numE_lt {n : Nat} {size : Nat} (hs : 1 ≤ size ∧ size ≤ 3) (he : numE n size = 0) : n < 16777216 := by
  have h1 : (1 ≤ (size : Int) ∧ (size : Int) ≤ 4 ∨ (size : Int) = 8) := by omega
  simp only [numE, h1, not_true, if_false, Int.toNat_natCast] at he
  split at he
  · cases he
  · rename_i h2
    have h3 : 2 ^ (8 * size) ≤ 2 ^ 24 := Nat.pow_le_pow_right (by omega) (by omega)
    omega

/-- wire.Vec, sizes 1 to 3. -/
theorem wvec_run {h : H} {x y : AV} {lx ly : List UInt8} (hx : Bs h x lx) (hy : Bs h y ly) {size : Nat} (hs : 1 ≤ size ∧ size ≤ 3) (hl : lx.length + 16777224 ≤ maxRow) (hl2 : ly.length ≤ maxRow) :
    ∃ r h', Runs TF 21 [x, y, .int .i64 size] h r h' ∧ ∃ z, r = .tup [z, .int .i64 (numE ly.length size)] ∧ Ext h h' ∧ Ow h.n h' z (if numE ly.length size = 0 then lx ++ digits ly.length size size ++ ly else []) := by
  refine Runs.ofP f21 rfl ?_
  have h64 : ly.length < 2 ^ 64 := by have := hl2; unfold maxRow at this; omega
  have hw : IntKind.u64.wrap ((ly.length : Nat) : Int) = ((ly.length : Nat) : Int) := u64_fit _ (by omega)
  obtain ⟨r, h1, c1, z1, rfl, c2, c3⟩ := num_run hx (by omega) h64 (size : Int)
  rw [← hw] at c1
  refine Wp.seq (Wp.region (Wo.all (by kernel_rfl) ?_))
  refine Wp.seq (Wp.seq (Wp.region (Wo.all (by kernel_rfl) ?_)))
  refine Wp.cond (decide ((size : Int) > 3)) (by kernel_rfl) ?_
  rw [if_neg (by simp; omega)]
  refine Wp.skip ?_
  by_cases he : numE ly.length size = 0
  · rw [he] at c1
    rw [if_pos he] at c3
    obtain ⟨z, h2, e1, e2, e3, e4⟩ := Ow.app c3 (hy.ext c2) c2.1 (by rw [List.length_append, digits_len]; have := numE_lt hs he; omega)
    have app_eq : ∀ (p q : IX) (ρ : IX → AV), ρ p = z1 → ρ q = y → iop (.app 5 1 1 false p q) ρ h1 = some (.val z h2) := by
      intro p q ρ hp hq
      simp only [iop, hp, hq, hy.notStr, BEq.rfl, if_true, e1]
    refine Wp.seq (Wp.region (Wo.pre 2 (by kernel_rfl) (Wo.val (.int .i64 ly.length) h (by kernel_rfl) (hy.len (by kernel_rfl)) (Wo.pre 2 (by kernel_rfl) (Wo.call (by kernel_rfl) (by kernel_rfl) c1 (Wo.all (by kernel_rfl) ?_))))))
    refine Wp.seq (Wp.seq (Wp.region (Wo.all (by kernel_rfl) ?_)))
    refine Wp.cond false (by kernel_rfl) ?_
    refine Wp.skip ?_
    refine Wp.seq (Wp.region (Wo.pre 2 (by kernel_rfl) (Wo.val z h2 (by kernel_rfl) (app_eq _ _ _ (by kernel_rfl) (by kernel_rfl)) (Wo.all (by kernel_rfl) (Wp.ret ⟨.inr rfl, .tup [z, .int .i64 0], by kernel_rfl, ?_⟩)))))
    refine ⟨z, by rw [he], ⟨Nat.le_trans c2.1 e3.1, fun k hk => (e3.2 k hk).trans (c2.2 k hk)⟩, ?_⟩
    rw [if_pos he]
    exact e2
  · have e3 : numE ly.length size = 3 := by
      have h1 : (1 ≤ (size : Int) ∧ (size : Int) ≤ 4 ∨ (size : Int) = 8) := by omega
      simp only [numE, h1, not_true, if_false] at he ⊢
      split at he
      · rename_i h2; rw [if_pos h2]
      · exact absurd rfl he
    rw [if_neg he] at c3
    rw [e3] at c1
    refine Wp.seq (Wp.region (Wo.pre 2 (by kernel_rfl) (Wo.val (.int .i64 ly.length) h (by kernel_rfl) (hy.len (by kernel_rfl)) (Wo.pre 2 (by kernel_rfl) (Wo.call (by kernel_rfl) (by kernel_rfl) c1 (Wo.all (by kernel_rfl) ?_))))))
    refine Wp.seq (Wp.seq (Wp.region (Wo.all (by kernel_rfl) ?_)))
    refine Wp.cond true (by kernel_rfl) ?_
    refine Wp.seq (Wp.region (Wo.all (by kernel_rfl) (Wp.ret ⟨.inr rfl, .tup [.nils, .int .i64 3], by kernel_rfl, ?_⟩)))
    refine ⟨.nils, by rw [e3], c2, ?_⟩
    rw [if_neg he]
    exact .inl ⟨rfl, rfl⟩
end Go.Det

/- The law WireSame: what is taken as a vector and laid down again is the bytes that went. -/
set_option linter.unusedVariables false
set_option linter.unusedSimpArgs false
set_option linter.unusedSectionVars false
namespace Go.Det
open Go.Proofs

theorem Rd.ext {h h' : H} {b : Nat} {v : AV} {l : List UInt8} (hR : Rd h b v l) (hx : Ext h h') : Rd h' b v l :=
  ⟨Nat.lt_of_lt_of_le hR.1 hx.1, by rw [hx.2 _ hR.1]; exact hR.2.1, hR.2.2.1.ext hx, hR.2.2.2⟩

theorem Bs.lt {h : H} {v : AV} {l : List UInt8} (hb : Bs h v l) {a : AA} {n : Nat} {c : Cp} (e : v = .sl a n c) : a.b < h.n := by
  rcases hb with ⟨rfl, rfl⟩ | ⟨a', c', rfl, h1, h2⟩
  · simp at e
  · simp only [AV.sl.injEq] at e; rw [← e.1]; exact h1

end Go.Det

/- What is signed for a head: the program's bytes and the reference's. -/
set_option linter.unusedVariables false
set_option linter.unusedSimpArgs false
namespace Go.Det
open Go.Proofs
attribute [local simp] skip_iff ret_iff exit_iff seq_iff block_iff thenQ_normal thenQ_ret thenQ_exit thenQ_goto blockQ_normal blockQ_ret blockQ_exit blockQ_goto condQ_bool cond_iff region_iff wo_nil ansQ_val ansQ_call wo_cons wo_guard wanted put setL getL ev iop binop binInt shInt asI retV resOf unop getL_put len_put draw_iff wd_nil wd_quiet wd_act holds_nil holds_cons
attribute [local congr] ansQ_congr condQ_congr

theorem num8_run {b : AV} {l : List UInt8} {h : H} (hb : Bs h b l) (hl : l.length + 8 ≤ maxRow) {n : Nat} (hn : n < 2 ^ 64) :
    ∃ x h', Runs TF 76 [b, .int .u64 n, .int .i64 8] h x h' ∧ Ext h h' ∧ Ow h.n h' x (l ++ digits n 8 8) := by
  refine Runs.ofP f76 rfl ?_
  have e : numE n 8 = 0 := by simp [numE]; omega
  obtain ⟨v, h', c1, x, rfl, c2, c3⟩ := num_run hb hl hn 8
  rw [e] at c1
  rw [if_pos e] at c3
  simp [List.replicate]
  refine ⟨_, _, c1, ?_⟩
  simp
  exact ⟨c2, c3⟩

/-- The bytes that are signed for a head. -/
def headB (t s : Nat) (r : List UInt8) : List UInt8 := [0, 1] ++ digits t 8 8 ++ digits s 8 8 ++ r

theorem Bs.two (h : H) (c d : UInt8) : Ow h.n (h.new (.cells 0 5 [.int .u8 c.toNat, .int .u8 d.toNat] 0 false)) (.sl ⟨h.n, 0, 0⟩ 2 (.ex 2)) [c, d] :=
  .inr ⟨h.n, 0, Nat.le_refl _, by simp, by rw [h.get_new]; rfl, .inr rfl⟩

theorem head_run {t s : Nat} (ht : t < 2 ^ 64) (hs : s < 2 ^ 64) {r : List UInt8} (hr : r.length = 32) {g : List AV} (hg : g.length = 64) (hg1 : ∀ x ∈ g, x.one = true) (h : H) :
    ∃ x h', Runs TF 36 [.agg (.int .u64 s :: .int .u64 t :: bytesAV r ++ g)] h x h' ∧ Ext h h' ∧ Ow h.n h' x (headB t s r) := by
  refine Runs.ofP f36 rfl ?_
  have o1 : ∀ k n, (AV.int k n).one = true := fun _ _ => rfl
  have hga : g.all AV.one = true := List.all_eq_true.2 hg1
  obtain ⟨B, hB⟩ : ∃ B, B = Blk.cells 0 65 (AV.int .u64 s :: AV.int .u64 t :: (bytesAV r ++ g)) 0 false := ⟨_, rfl⟩
  have LD : ∀ (k : H), k.get h.n = some B → k.ldg ⟨h.n, 0, 0⟩ none = some (.int .u64 s) ∧ k.ldg ⟨h.n, 0, 1⟩ none = some (.int .u64 t) := by
    intro k hk
    rw [hB] at hk
    simp [H.ldg, H.ld, H.row, hk]
  have G1 : ∀ C, ((h.new B).new C).get h.n = some B := fun C => by rw [H.get_new_ne _ _ _ (by simp), H.get_new]
  have L1 := fun C => (LD _ (G1 C)).2
  have w2 := Bs.two (h.new B) 0 1
  obtain ⟨x, h3, c1, c2, c3⟩ := num8_run (n := t) (Ow.bs w2) (by simp [maxRow]) ht
  have G3 : h3.get h.n = some B := by rw [c2.2 _ (by simp; omega)]; exact G1 _
  have L3 := (LD _ G3).1
  obtain ⟨y, h4, d1, d2, d3⟩ := num8_run (n := s) (Ow.bs c3) (by simp [maxRow, digits_len]) hs
  have G4 : h4.get h.n = some B := by rw [d2.2 _ (by have := c2.1; simp at this; omega)]; exact G3
  have hroot : Bs h4 (.sl ⟨h.n, 0, 2⟩ 32 (.ex 32)) r := by
    refine .inr ⟨⟨h.n, 0, 2⟩, .ex 32, by rw [hr], by have := c2.1; have := d2.1; simp at *; omega, ?_⟩
    rw [hB] at G4
    unfold H.ldn H.row
    simp only [G4, BEq.rfl, if_true]
    have hbl := bytes_len r
    simp [cut, List.take_append_of_le_length, hbl]
  obtain ⟨z, h5, e1, e2, e3, e4⟩ := Ow.app d3 hroot d2.1 (by simp [maxRow, digits_len, hr])
  simp [List.replicate, AV.cells, -List.all_eq_true, bytes_one, hga, o1, fillL, putAt, ← hB, L1]
  refine ⟨_, _, c1, ?_⟩
  simp [L3, bounds, Pend.add, rdOp, readsAs, AV.same]
  refine ⟨_, _, d1, ?_⟩
  have hx0 : Ext h h4 := (((Ext.new h B).trans (Ext.new _ _)).trans c2).trans d2
  simp [isStrV, e1, show Nat.testBit 7 2 = true from rfl, show Nat.testBit 63 2 = true from rfl, headB]
  have h3n := c2.1
  simp at h3n
  exact ⟨⟨Nat.le_trans hx0.1 e3.1, fun k hk => (e3.2 k (by omega)).trans (hx0.2 k hk)⟩, by simpa using e2.mono (by omega)⟩

theorem awake_run (h : H) : Runs TF 35 [] h (.bool true) h := Runs.known (by kernel_rfl) h

end Go.Det

/- The reference's writers, any size; the program's Vec, any size. -/
set_option linter.unusedVariables false
set_option linter.unusedSimpArgs false
set_option linter.unusedSectionVars false
namespace Go.Det
open Go.Proofs
attribute [local irreducible] Wp Wo Wd iop ev slots quiets wanted put

def vecE (n : Nat) (size : Int) : Int := if 1 ≤ size ∧ size ≤ 3 then numE n size else 1

theorem vecE_num {n : Nat} {size : Int} (hs : ¬ 3 < size) : vecE n size = numE n size := by
  unfold vecE
  split
  · rfl
  · rename_i h1
    have h2 : ¬ (1 ≤ size ∧ size ≤ 4 ∨ size = 8) := by omega
    simp only [numE, h2, not_false_eq_true, if_true]

/-- wire.Vec, any size. -/
theorem wvec_any {h : H} {x y : AV} {lx ly : List UInt8} (hx : Bs h x lx) (hy : Bs h y ly) (size : Int) (hl : lx.length + 16777224 ≤ maxRow) (hl2 : ly.length ≤ maxRow) :
    ∃ r h', Runs TF 21 [x, y, .int .i64 size] h r h' ∧ ∃ z, r = .tup [z, .int .i64 (vecE ly.length size)] ∧ Ext h h' ∧ Ow h.n h' z (if vecE ly.length size = 0 then lx ++ digits ly.length size.toNat size.toNat ++ ly else []) := by
  by_cases hs : 1 ≤ size ∧ size ≤ 3
  · obtain ⟨m, rfl⟩ : ∃ m : Nat, size = m := ⟨size.toNat, by omega⟩
    have e : vecE ly.length (m : Int) = numE ly.length m := vecE_num (by omega)
    rw [e]
    exact wvec_run hx hy (size := m) (by omega) hl hl2
  · have e1 : vecE ly.length size = 1 := by simp only [vecE, hs, if_false]
    rw [e1]
    refine Runs.ofP f21 rfl ?_
    refine Wp.seq ?_
    refine Wp.region ?_
    refine Wo.pre 8 (by kernel_rfl) ?_
    refine Wo.nil ?_
    refine Wp.seq ?_
    refine Wp.seq ?_
    refine Wp.region ?_
    refine Wo.pre 8 (by kernel_rfl) ?_
    refine Wo.nil ?_
    refine Wp.cond (decide (size > 3)) (by kernel_rfl) ?_
    by_cases h3 : 3 < size
    · rw [if_pos (by simpa using h3)]
      refine Wp.seq ?_
      refine Wp.region ?_
      refine Wo.pre 8 (by kernel_rfl) ?_
      refine Wo.nil ?_
      exact Wp.ret ⟨.inr rfl, .tup [.nils, .int .i64 1], (by kernel_rfl), .nils, rfl, Ext.refl h, .inl ⟨rfl, rfl⟩⟩
    · rw [if_neg (by simpa using h3)]
      have hw : IntKind.u64.wrap ((ly.length : Nat) : Int) = ((ly.length : Nat) : Int) := u64_fit _ (by unfold maxRow at hl2; omega)
      obtain ⟨r, h1, c1, z1, rfl, c2, c3⟩ := num_run hx (by omega) (n := ly.length) (by unfold maxRow at hl2; omega) size
      have en : numE ly.length size = 1 := by rw [← vecE_num h3, e1]
      rw [← hw, en] at c1
      rw [en] at c3
      refine Wp.skip ?_
      refine Wp.seq ?_
      refine Wp.region ?_
      refine Wo.pre 1 (by kernel_rfl) ?_
      refine Wo.pre 1 (by kernel_rfl) ?_
      refine Wo.val (.int .i64 ly.length) h (by kernel_rfl) (hy.len (by kernel_rfl)) ?_
      refine Wo.pre 1 (by kernel_rfl) ?_
      refine Wo.pre 1 (by kernel_rfl) ?_
      refine Wo.call (by kernel_rfl) (by kernel_rfl) (c1) ?_
      refine Wo.pre 8 (by kernel_rfl) ?_
      refine Wo.nil ?_
      refine Wp.seq ?_
      refine Wp.seq ?_
      refine Wp.region ?_
      refine Wo.pre 8 (by kernel_rfl) ?_
      refine Wo.nil ?_
      refine Wp.cond true (by kernel_rfl) ?_
      refine Wp.seq ?_
      refine Wp.region ?_
      refine Wo.pre 8 (by kernel_rfl) ?_
      refine Wo.nil ?_
      exact Wp.ret ⟨.inr rfl, .tup [.nils, .int .i64 1], (by kernel_rfl), .nils, rfl, c2, .inl ⟨rfl, rfl⟩⟩

end Go.Det

/- Rows that are spoiled, byte by byte. -/
set_option linter.unusedVariables false
set_option linter.unusedSimpArgs false
set_option linter.unusedSectionVars false
namespace Go.Det
open Go.Proofs
attribute [local simp] skip_iff ret_iff exit_iff seq_iff block_iff thenQ_normal thenQ_ret thenQ_exit thenQ_goto blockQ_normal blockQ_ret blockQ_exit blockQ_goto condQ_bool cond_iff region_iff wo_nil ansQ_val ansQ_call wo_cons wo_guard wanted put setL getL ev iop binop binInt shInt asI retV resOf unop
attribute [local congr] ansQ_congr condQ_congr Wo_congr Wp_congr

end Go.Det

/- The law WireLays: numbers and vectors are laid down as the document says; what is handed in stays. -/
set_option linter.unusedVariables false
set_option linter.unusedSimpArgs false
set_option linter.unusedSectionVars false
namespace Go.Det
open Go.Proofs
attribute [local irreducible] Wp Wo Wd iop ev slots quiets wanted put

end Go.Det

/- The loops of the reference's reader: a number out of bytes. -/
set_option linter.unusedVariables false
set_option linter.unusedSimpArgs false
set_option linter.unusedSectionVars false
namespace Go.Det
open Go.Proofs
attribute [local simp] skip_iff ret_iff exit_iff seq_iff block_iff thenQ_normal thenQ_ret thenQ_exit thenQ_goto blockQ_normal blockQ_ret blockQ_exit blockQ_goto condQ_bool cond_iff region_iff wo_nil ansQ_val ansQ_call wo_cons wo_guard wanted put setL getL ev iop binop binInt shInt asI retV resOf unop
attribute [local congr] ansQ_congr condQ_congr Wo_congr Wp_congr

/-- One cell of a row. -/
theorem ldn_at {h : H} {a : AA} {m : Nat} {c : List AV} (hc : h.ldn a m = some c) {i : Nat} {v : AV} (hv : c[i]? = some v) : h.ldg ⟨a.b, a.g, a.o + i⟩ none = some v := by
  unfold H.ldn at hc
  cases hr : h.row a with
  | none => rw [hr] at hc; simp at hc
  | some c0 =>
    rw [hr] at hc
    simp only [cut] at hc
    split at hc
    · simp only [Option.some.injEq] at hc
      subst hc
      simp only [H.ldg, H.ld, row_drop hr i, getL_eq]
      rw [List.getElem?_take] at hv
      split at hv
      · rw [List.getElem?_drop] at hv; exact hv
      · simp at hv
    · simp at hc

theorem Bs.at {h : H} {a : AA} {c : Cp} {l : List UInt8} (hb : Bs h (.sl a l.length c) l) {i : Nat} {b : UInt8} (hi : l[i]? = some b) : h.ldg ⟨a.b, a.g, a.o + i⟩ none = some (.int .u8 b.toNat) := by
  rcases hb with ⟨e, _⟩ | ⟨a', c', e, _, h2⟩
  · simp at e
  · simp only [AV.sl.injEq] at e
    obtain ⟨rfl, _, rfl⟩ := e
    exact ldn_at h2 (by simp [bytesAV, hi])

end Go.Det

/- The reference's reader; the program's reader, all its ways. -/
set_option linter.unusedVariables false
set_option linter.unusedSimpArgs false
set_option linter.unusedSectionVars false
namespace Go.Det
open Go.Proofs
attribute [local irreducible] Wp Wo Wd iop ev slots quiets wanted put

def vE (l : List UInt8) (size : Int) : Int := if ¬ (1 ≤ size ∧ size ≤ 3) then 1 else if (l.length : Int) < size then 4 else if l.length < size.toNat + be (l.take size.toNat) then 4 else 0
def vN (l : List UInt8) (size : Int) : Nat := size.toNat + be (l.take size.toNat)
def vX (l : List UInt8) (size : Int) : List UInt8 := if vE l size = 0 then (l.drop size.toNat).take (be (l.take size.toNat)) else []
def vL (l : List UInt8) (size : Int) : List UInt8 := if vE l size = 0 then l.drop (vN l size) else l
/-- The reference's reader. -/
def RRd (h : H) (b : Nat) (w : AV) (l : List UInt8) : Prop := b < h.n ∧ h.get b = some (.cells 0 51 [w] 0 false) ∧ Bs h w l ∧ Cok w ∧ ∀ a n c, w = .sl a n c → a.b ≠ b

theorem RRd.ld {h : H} {b : Nat} {w : AV} {l : List UInt8} (hR : RRd h b w l) : h.ldg ⟨b, 0, 0⟩ none = some w := by
  simp [H.ldg, H.ld, H.row, hR.2.1, getL]

/-- What is left is written. -/
theorem RRd.st {h : H} {b : Nat} {w v' : AV} {l l' : List UInt8} (hR : RRd h b w l) (hb : Bs h v' l') (hc : Cok v') (hne : ∀ a n c, v' = .sl a n c → a.b ≠ b) :
    ∃ h', h.st ⟨b, 0, 0⟩ [v'] = some h' ∧ RRd h' b v' l' ∧ ExtB b h h' := by
  have hp := hb.parts
  refine ⟨h.set b (.cells 0 51 [v'] 0 false), ?_, ⟨hR.1, by rw [h.get_set], ?_, hc, hne⟩, Nat.le_refl _, fun k _ hkb => h.get_set_ne b k _ hkb⟩
  · unfold H.st
    simp only [hR.2.1]
    rw [if_pos (by simp [hp.2.1])]
    rfl
  · rcases hb with ⟨e1, e2⟩ | ⟨a, c, e1, e2, e3⟩
    · exact .inl ⟨e1, e2⟩
    · exact .inr ⟨a, c, e1, e2, by rw [ldn_same (h.get_set_ne b _ _ (hne _ _ _ e1))]; exact e3⟩

end Go.Det

/- The law WireReads: rows of calls of a reader are answered as the document says. -/
set_option linter.unusedVariables false
set_option linter.unusedSimpArgs false
set_option linter.unusedSectionVars false
namespace Go.Det
open Go.Proofs
attribute [local irreducible] Wp Wo Wd iop ev slots quiets wanted put

theorem iop_ia {x y : IX} {ρ : IX → AV} {h : H} {a : AA} {n : Nat} {c : Cp} {s i : Nat} (hx : ρ x = .sl a n c) (hy : ρ y = .int .i64 i) (hi : i < n) : iop (.ia s x y) ρ h = some (.val (.ptr ⟨a.b, a.g, a.o + i * s⟩) h) := by
  have h1 : (i : Int) < n := by omega
  simp [iop, hx, hy, asI, h1, hi]

theorem Rd.keep {h h' : H} {rb : Nat} {v : AV} {L : List UInt8} (hR : Rd h rb v L) (hn : h.n ≤ h'.n) (h1 : h'.get rb = h.get rb) (h2 : ∀ a n c, v = .sl a n c → h'.get a.b = h.get a.b) : Rd h' rb v L := by
  refine ⟨Nat.lt_of_lt_of_le hR.1 hn, by rw [h1]; exact hR.2.1, ?_, hR.2.2.2⟩
  rcases hR.2.2.1 with h0 | ⟨a, c, e, e2, e3⟩
  · exact .inl h0
  · exact .inr ⟨a, c, e, Nat.lt_of_lt_of_le e2 hn, by rw [ldn_same (h2 _ _ _ e)]; exact e3⟩
theorem RRd.keep {h h' : H} {rb : Nat} {v : AV} {L : List UInt8} (hR : RRd h rb v L) (hn : h.n ≤ h'.n) (h1 : h'.get rb = h.get rb) (h2 : ∀ a n c, v = .sl a n c → h'.get a.b = h.get a.b) : RRd h' rb v L := by
  refine ⟨Nat.lt_of_lt_of_le hR.1 hn, by rw [h1]; exact hR.2.1, ?_, hR.2.2.2⟩
  rcases hR.2.2.1 with h0 | ⟨a, c, e, e2, e3⟩
  · exact .inl h0
  · exact .inr ⟨a, c, e, Nat.lt_of_lt_of_le e2 hn, by rw [ldn_same (h2 _ _ _ e)]; exact e3⟩
/-- What holds at each call: both readers have the same row left. -/
structure Two (lo rb sb : Nat) (acts : List (Int × Int)) (ab : AA) (h : H) (L : List UInt8) : Prop where
  ex : ∃ v w, Rd h rb v L ∧ RRd h sb w L ∧ (∀ a n c, v = .sl a n c → a.b < rb) ∧ (∀ a n c, w = .sl a n c → rb < a.b ∧ a.b < sb)
  lt : rb < sb
  lob : lo ≤ rb
  len : L.length ≤ maxRow
  act : ∀ (j : Nat) (x : Int × Int), acts[j]? = some x → h.ldn ⟨ab.b, ab.g, ab.o + j * 2⟩ 2 = some [.int .i64 x.1, .int .i64 x.2]
  abn : acts ≠ [] → ab.b < lo

theorem Two.next {lo rb sb : Nat} {acts : List (Int × Int)} {ab : AA} {h h' : H} {L L' : List UInt8} {v w v' w' : AV} (hT : Two lo rb sb acts ab h L) (hR : Rd h rb v L) (hS : RRd h sb w L) (hv : ∀ a n c, v = .sl a n c → a.b < rb) (hw : ∀ a n c, w = .sl a n c → rb < a.b ∧ a.b < sb)
    (hR' : Rd h' rb v' L') (hS' : RRd h' sb w' L') (sv : SB v v') (sw : SB w w') (keep : ∀ b, b < h.n → b ≠ rb → b ≠ sb → h'.get b = h.get b) (hl : L'.length ≤ L.length) : Two lo rb sb acts ab h' L' := by
  refine ⟨⟨v', w', hR', hS', ?_, ?_⟩, hT.lt, hT.lob, Nat.le_trans hl hT.len, ?_, hT.abn⟩
  · intro a n c e
    obtain ⟨a0, n0, c0, e0, q⟩ := sv a n c e
    rw [← q]; exact hv _ _ _ e0
  · intro a n c e
    obtain ⟨a0, n0, c0, e0, q⟩ := sw a n c e
    rw [← q]; exact hw _ _ _ e0
  · intro j x hj
    have hne : acts ≠ [] := by intro e; rw [e] at hj; simp at hj
    have h1 := hT.abn hne
    have h2 := hT.lob
    have h3 := hT.lt
    have h4 := hR.1
    have hk : h'.get (AA.b ⟨ab.b, ab.g, ab.o + j * 2⟩) = h.get (AA.b ⟨ab.b, ab.g, ab.o + j * 2⟩) := keep ab.b (by omega) (by omega) (by omega)
    rw [ldn_same hk]
    exact hT.act j x hj

end Go.Det

/- The law WireReads, from its head. -/
set_option linter.unusedVariables false
set_option linter.unusedSimpArgs false
set_option linter.unusedSectionVars false
namespace Go.Det
open Go.Proofs
attribute [local irreducible] Wp Wo Wd iop ev slots quiets wanted put

theorem iop_lenS {x : IX} {ρ : IX → AV} {h : H} {v : AV} {n : Nat} (hx : ρ x = v) (hv : (v = .nils ∧ n = 0) ∨ ∃ a c, v = .sl a n c) : iop (.len false x) ρ h = some (.val (.int .i64 n) h) := by
  rcases hv with ⟨rfl, rfl⟩ | ⟨a, c, rfl⟩ <;> simp [iop, hx]

end Go.Det

/- The law WireBack: things, their sizes, how they are laid down and read. -/
set_option linter.unusedVariables false
set_option linter.unusedSimpArgs false
set_option linter.unusedSectionVars false
namespace Go.Det
open Go.Proofs
attribute [local irreducible] Wp Wo Wd iop ev slots quiets wanted put

/-- A row of cells of its own. -/
def OwC (e sz lo : Nat) (h : H) (v : AV) (cs : List AV) (n : Nat) : Prop := (v = .nils ∧ cs = [] ∧ n = 0) ∨ ∃ b g, lo ≤ b ∧ b < h.n ∧ h.get b = some (.cells g e cs 0 false) ∧ v = .sl ⟨b, g, 0⟩ n (.op sz) ∧ cs.length = n * sz

theorem OwC.ext {e sz lo n : Nat} {h h' : H} {v : AV} {cs : List AV} (ho : OwC e sz lo h v cs n) (hn : h.n ≤ h'.n) (hk : ∀ b g c, lo ≤ b → b < h.n → h.get b = some (.cells g e c 0 false) → h'.get b = h.get b) : OwC e sz lo h' v cs n := by
  rcases ho with h0 | ⟨b, g, h1, h2, h3, h4⟩
  · exact .inl h0
  · exact .inr ⟨b, g, h1, Nat.lt_of_lt_of_le h2 hn, by rw [hk b _ _ h1 h2 h3]; exact h3, h4⟩

theorem Ow.keep {lo : Nat} {h h' : H} {v : AV} {l : List UInt8} (ho : Ow lo h v l) (hn : h.n ≤ h'.n) (hk : ∀ b g c, lo ≤ b → b < h.n → h.get b = some (.cells g 5 c 0 false) → h'.get b = h.get b) : Ow lo h' v l := by
  rcases ho with h0 | ⟨b, g, h1, h2, h3, h4⟩
  · exact .inl h0
  · exact .inr ⟨b, g, h1, Nat.lt_of_lt_of_le h2 hn, by rw [hk b _ _ h1 h2 h3]; exact h3, h4⟩

/-- One more element behind. -/
theorem OwC.app {e sz lo n bytes : Nat} {h : H} {v : AV} {cs new : List AV} (ho : OwC e (sz + 1) lo h v cs n) (hlo : lo ≤ h.n) (hs : new.length = sz + 1) (h1 : new.all AV.one = true) (hf : fits (n + 1) bytes = true) (hb : n < 2 ^ 62) (H1 : H) (hH1 : H1 = h.new (.cells 0 e new 0 false)) :
    ∃ v' h', append H1 e (sz + 1) bytes v (.sl ⟨h.n, 0, 0⟩ 1 (.ex 1)) = some (.val v' h') ∧ OwC e (sz + 1) lo h' v' (cs ++ new) (n + 1) ∧ h.n ≤ h'.n ∧ ∀ b, b < h.n → (b < lo ∨ ∀ g c, h.get b ≠ some (.cells g e c 0 false)) → h'.get b = h.get b := by
  have g1 : H1.get h.n = some (.cells 0 e new 0 false) := by rw [hH1]; exact h.get_new _
  have n1 : H1.n = h.n + 1 := by rw [hH1]; rfl
  have hne : ∀ b, b ≠ h.n → H1.get b = h.get b := fun b hb => by rw [hH1]; exact h.get_new_ne b _ hb
  have hld : H1.ldn ⟨h.n, 0, 0⟩ (1 * (sz + 1)) = some new := by
    unfold H.ldn H.row
    simp only [g1, BEq.rfl, Bool.not_false, Bool.true_or, Bool.and_self, if_true, Nat.one_mul]
    rw [← hs]
    exact cut_all _
  unfold append
  simp only [srcCells, hld, Option.map_some]
  rcases ho with ⟨rfl, rfl, rfl⟩ | ⟨b, g, q1, q2, q3, rfl, q5⟩
  · rw [Nat.zero_add] at hf
    refine ⟨.sl ⟨H1.n, 0, 0⟩ 1 (.op (sz + 1)), H1.new (.cells 0 e new 0 false), ?_, .inr ⟨H1.n, 0, by omega, by show _ < H1.n + 1; omega, by rw [H1.get_new]; rfl, rfl, by simp [hs]⟩, by show h.n ≤ H1.n + 1; omega, fun b hb _ => ?_⟩
    · simp [hf, h1]
    · rw [H1.get_new_ne b _ (by omega), hne b (by omega)]
  · have hbn : b ≠ h.n := by omega
    have q3' : H1.get b = some (.cells g e cs 0 false) := by rw [hne b hbn]; exact q3
    refine ⟨.sl ⟨b, g + 1, 0⟩ (n + 1) (.op (sz + 1)), H1.set b (.cells (g + 1) e (cs ++ new) 0 false), ?_, .inr ⟨b, g + 1, q1, by show b < H1.n; omega, H1.get_set b _, rfl, by rw [List.length_append, q5, hs, Nat.succ_mul]⟩, by show h.n ≤ H1.n; omega, fun b' hb' hne' => ?_⟩
    · have hle : n + 1 ≤ 9223372036854775807 := by omega
      simp [hf, h1, q3', q5, hle]
    · have : b' ≠ b := by
        rintro rfl
        rcases hne' with h0 | h0
        · omega
        · exact h0 _ _ q3
      rw [H1.get_set_ne b b' _ this, hne b' (by omega)]

/-- A thing: whether a vector, how great, its number, its bytes. -/
structure Th where
  vec : Bool
  size : Int
  n : Nat
  b : List UInt8

def szOf (vec : Bool) (size : Int) : Nat := if vec then 1 + (IntKind.u64.wrap size).toNat % 3 else match (IntKind.u64.wrap size).toNat % 5 with
  | 0 => 1
  | 1 => 2
  | 2 => 3
  | 3 => 4
  | _ => 8
def Th.sz (t : Th) : Nat := szOf t.vec t.size

def Th.enc (t : Th) : List UInt8 := if t.vec = true then digits t.b.length t.sz t.sz ++ t.b else digits t.n t.sz t.sz
def Th.encE (t : Th) : Int := if t.vec = true then numE t.b.length t.sz else numE t.n t.sz

theorem be_dig {n s : Nat} (hn : n < 256 ^ s) : ∀ k, k ≤ s → be (digits n s k) = n / 256 ^ (s - k) := by
  intro k
  induction k with
  | zero => intro _; rw [Nat.sub_zero, Nat.div_eq_of_lt hn]; rfl
  | succ k ih =>
    intro hk
    rw [digits_succ, be_snoc, ih (by omega), dig_eq, UInt8.toNat_ofNat']
    have e1 : s - k = (s - 1 - k) + 1 := by omega
    have e2 : s - (k + 1) = s - 1 - k := by omega
    rw [e1, e2, Nat.pow_succ, ← Nat.div_div_eq_div_mul]
    omega
theorem be_dig' {n s : Nat} (hn : n < 256 ^ s) : be (digits n s s) = n := by
  rw [be_dig hn s (Nat.le_refl _)]; simp

/-! What is kept. -/
def encs (ks : List (Th × AV)) : List UInt8 := (ks.map fun p => p.1.enc).flatten
def thC (p : Th × AV) : List AV := [.bool p.1.vec, .int .i64 p.1.size, .int .u64 p.1.n, p.2]
def kcells (ks : List (Th × AV)) : List AV := (ks.map thC).flatten
def ecells (ks : List (Th × AV)) : List AV := (List.range ks.length).map fun j => .int .i64 (encs (ks.take (j + 1))).length
structure J1 (h0 h : H) (al ke en : AV) (ks : List (Th × AV)) : Prop where
  ext : Ext h0 h
  al : Ow h0.n h al (encs ks)
  ke : OwC 57 4 h0.n h ke (kcells ks) ks.length
  en : OwC 3 1 h0.n h en (ecells ks) ks.length
  ok : ∀ p ∈ ks, Bs h0 p.2 p.1.b ∧ p.1.b.length ≤ 300 ∧ p.1.n < 2 ^ 64 ∧ p.1.encE = 0
  len : (encs ks).length ≤ 311 * ks.length
end Go.Det

