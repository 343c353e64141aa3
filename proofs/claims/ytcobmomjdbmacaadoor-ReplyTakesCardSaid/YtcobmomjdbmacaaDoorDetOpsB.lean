/- The deterministic machine's operations that touch memory, each against the real one. -/
import Derived.Test.YtcobmomjdbmacaaDoorDetOpsA
import Derived.Deep.AppendSrc
import Derived.Laws.BytesString
import Derived.IntWalk
set_option linter.unusedVariables false
set_option linter.unusedSimpArgs false
set_option linter.unusedSectionVars false
namespace Go.Det
open Go.RowKit

section
variable {P : Program} {μ : Mu} {w0 : World} {ng : Nat} {h : H} {w : World}

/-- A step: what it answers, and the state behind it. -/
def Rs (P : Program) (μ : Mu) (w0 : World) (ng : Nat) (h : H) (w : World) (s : Sem Value) (v : AV) (h' : H) : Prop :=
  ∃ v' w' μ', s.run P w = .ok v' w' ∧ VRel μ' v v' ∧ WRel μ' w0 ng h' w' ∧ Adv μ h w μ' h' w'

theorem Pl.rs (W : WRel μ w0 ng h w) {s : Sem Value} {v : AV} (hs : Pl P μ w s v) : Rs P μ w0 ng h w s v h := by
  obtain ⟨v', h1, h2⟩ := hs
  exact ⟨v', w, μ, h1, h2, W, Adv.refl _ _ _⟩

theorem newRow_rs (W : WRel μ w0 ng h w) (e : TypeId) {cs : List AV} {vs : Array Value} (hc : VRels μ cs vs.toList) :
    ∃ μ', (newRow e vs).run P w = .ok ⟨w.heap.size, 0, none⟩ (w.alloc (.cells vs e)) ∧ μ' h.n 0 = some ⟨w.heap.size, vs.size⟩ ∧ μ.le μ' ∧ WRel μ' w0 ng (h.new (.cells 0 e cs 0 false)) (w.alloc (.cells vs e)) ∧
      Adv μ h w μ' (h.new (.cells 0 e cs 0 false)) (w.alloc (.cells vs e)) := by
  have := W.new w rfl rfl rfl rfl (.cells 0 e cs 0 false) (.cells vs e) vs.size rfl rfl ⟨vs, 0, 0, rfl, rfl, ⟨vs.toList, [], by simp, hc⟩, Nat.le_refl _, fun i _ h2 => absurd h2 (by omega)⟩
  exact ⟨_, by simp [newRow], Mu.put_at _ _ _ _, this.2.le, this⟩

theorem box_rs (W : WRel μ w0 ng h w) (e : TypeId) {a : AV} {v : Value} (hv : VRel μ a v) :
    Rs P μ w0 ng h w (Instr.box e v) (.ptr ⟨h.n, 0, 0⟩) (h.new (.cells 0 e a.cells 0 false)) := by
  obtain ⟨μ', r, h1, _, W', A'⟩ := newRow_rs (P := P) W e (cells_rel hv)
  exact ⟨.pointer (some ⟨w.heap.size, 0, none⟩), _, μ', by simp [Instr.box, newVar, r], ⟨_, h1, rfl⟩, W', A'⟩

theorem alloc_rs (W : WRel μ w0 ng h w) {e : TypeId} {z : AV} (hz : zeroT P e = some z) :
    Rs P μ w0 ng h w (Instr.alloc e true (.tuple #[])) (.ptr ⟨h.n, 0, 0⟩) (h.new (.cells 0 e z.cells 0 false)) := by
  obtain ⟨v, hv, hr⟩ := zeroT_rel (P := P) (μ := μ) (w := w) hz
  obtain ⟨μ', r, h1, _, W', A'⟩ := newRow_rs (P := P) W e (cells_rel hr)
  exact ⟨.pointer (some ⟨w.heap.size, 0, none⟩), _, μ', by simp [Instr.alloc, hv, newVar, r], ⟨_, h1, rfl⟩, W', A'⟩

/-! ### Loads, stores -/

theorem load_rs (W : WRel μ w0 ng h w) {t : TypeId} {ag : Option Nat} (ht : aggT P t = some ag) {a : AA} {v : AV} (hl : h.ldg a ag = some v)
    {x : Value} (hx : VRel μ (.ptr a) x) : Pl P μ w (Instr.loadAt t x) v := by
  obtain ⟨rb, hm, rfl⟩ := hx
  cases ag with
  | none =>
    obtain ⟨v', h1, h2⟩ := W.ld hl hm
    exact ⟨v', by simp [Instr.loadAt, Instr.sureAddr, loadVar, aggT_none ht, h1], h2⟩
  | some n =>
    obtain ⟨r, h1, rfl⟩ := Option.map_eq_some_iff.1 hl
    obtain ⟨vs, h2, _, h3⟩ := W.ldn P h1 hm
    exact ⟨.agg vs.toArray, by simp [Instr.loadAt, Instr.sureAddr, loadVar, (aggT_some ht).1, (aggT_some ht).2, h2], _, rfl, by simpa using h3⟩

theorem store_rs (W : WRel μ w0 ng h w) {t : TypeId} {n : Nat} (ht : sizeT P t = some n) {a : AA} {v : AV} (hn : v.cells.length = n) {h' : H} (hs : h.st a v.cells = some h') {x y : Value} (hx : VRel μ (.ptr a) x) (hy : VRel μ v y) :
    ∃ w', (Instr.storeAt t x y).run P w = .ok () w' ∧ WRel μ w0 ng h' w' ∧ Adv μ h w μ h' w' := by
  obtain ⟨rb, hm, rfl⟩ := hx
  obtain ⟨w', h1, h2, h3⟩ := W.st P hs (cells_rel hy) hm
  refine ⟨w', ?_, h2, h3⟩
  have hl : v.cells.length = y.cells.size := by simpa using (cells_rel hy).length
  simp [Instr.storeAt, Instr.sureAddr, storeVar, run_size ht, ← hl, hn, h1]

/-! ### Bytes and strings -/

theorem bytesAV_rel (s : List UInt8) : VRels μ (bytesAV s) (s.map fun b => Value.int .u8 b.toNat) := by
  induction s with
  | nil => exact VRels.nil
  | cons b s ih => exact ⟨_, _, rfl, rfl, ih⟩

theorem toBytes_rel {cs : List AV} {s : List UInt8} (h : toBytes cs = some s) {vs : List Value} (hv : VRels μ cs vs) : ∃ ns : List Int, vs = ns.map (Value.int .u8) ∧ s = ns.map fun n => UInt8.ofNat n.toNat := by
  induction cs generalizing s vs with
  | nil => simp only [toBytes, Option.some.injEq] at h; subst h; cases hv; exact ⟨[], rfl, rfl⟩
  | cons a cs ih =>
    obtain ⟨v, y, rfl, h1, h2⟩ := hv
    cases a <;> try (simp only [toBytes, reduceCtorEq] at h; done)
    rename_i k n
    cases k <;> simp only [toBytes, reduceCtorEq] at h
    obtain ⟨r, h3, rfl⟩ := Option.map_eq_some_iff.1 h
    obtain ⟨ns, rfl, rfl⟩ := ih h3 h2
    cases h1
    exact ⟨n :: ns, rfl, rfl⟩

theorem cvBS_rs (W : WRel μ w0 ng h w) {src dst e : TypeId} (hs : P.underlying src = some (.slice e)) (he : P.underlying e = some (.int .u8)) (hd : P.underlying dst = some .string)
    {a : AV} {s : List UInt8} (ha : (match a with | .nils => some [] | .sl a n _ => (h.ldn a n).bind toBytes | _ => none) = some s) {x : Value} (hx : VRel μ a x) : Pl P μ w (convert src dst x) (.str s) := by
  cases a <;> simp only [reduceCtorEq] at ha
  · cases hx
    simp only [Option.some.injEq] at ha
    subst ha
    exact ⟨.string .empty, by rw [run_convert_bytes_string w src dst e _ _ _ hs he hd]; simp [Conv.bytesToString], rfl⟩
  · rename_i a n c
    obtain ⟨cs, h1, h2⟩ := Option.bind_eq_some_iff.1 ha
    have key : ∀ (rb : RB) (o k : Nat), μ a.b a.g = some rb → (o = a.o ∨ n = 0) → Pl P μ w (convert src dst (.slice (some ⟨rb.r, o, none⟩) n k)) (.str s) := by
      intro rb o k hm ho
      obtain ⟨vs, h3, h4, h5⟩ := W.ldn P h1 hm
      obtain ⟨ns, rfl, rfl⟩ := toBytes_rel h2 h5
      have hl : (loadCells ⟨rb.r, o, none⟩ n).run P w = .ok (ns.map (Value.int .u8)).toArray w := by
        rcases ho with rfl | rfl
        · exact h3
        · have : ns = [] := by simpa using h4
          subst this
          rfl
      refine ⟨_, by rw [run_convert_bytes_string w src dst e _ _ _ hs he hd]; exact run_bytesToString w _ n k ns hl, ?_⟩
      show _ = _
      congr 1
      have : ∀ (ns : List Int) (s : ByteArray), ns.foldl (fun r n => r.push (UInt8.ofNat n.toNat)) s = ⟨s.data ++ (ns.map fun n => UInt8.ofNat n.toNat).toArray⟩ := by
        intro ns
        induction ns with
        | nil => intro s; simp
        | cons n ns ih => intro s; rw [List.foldl_cons, ih]; apply ByteArray.ext; simp
      rw [this]
      apply ByteArray.ext
      simp
    cases c with
    | ex c =>
      rcases hx with ⟨rb, hm, rfl, _⟩ | ⟨rfl, rfl, ad, rfl⟩
      · exact key rb a.o c hm (.inl rfl)
      · have hc0 : cs = [] := by
          simp only [H.ldn] at h1
          split at h1
          · exact List.eq_nil_of_length_eq_zero (cut_pre (m := 0) h1)
          · simp at h1
        subst hc0
        simp only [toBytes, Option.some.injEq] at h2
        subst h2
        exact ⟨.string .empty, by rw [run_convert_bytes_string w src dst e _ _ _ hs he hd]; exact run_bytesToString w ad 0 0 [] rfl, rfl⟩
    | op e => obtain ⟨rb, o, c, hm, rfl, hn, _, ho⟩ := hx; exact key rb o c hm (by rcases ho with ho | ho; exact .inl ho.1; exact .inr (by omega))

theorem frozen_new (w : World) (c : Array Value) (e : TypeId) : Chg w ((w.alloc (.cells c e)).freeze ⟨w.heap.size, c.size, none⟩ 1) w.heap.size (.cells c e (c.size, c.size + 1)) := by
  refine ⟨rfl, rfl, rfl, ?_, ?_, ?_⟩
  · simp [World.freeze]
  · simp only [World.freeze, Nat.one_ne_zero, if_false]
    rw [Array.getElem?_modify, if_pos rfl, heap_alloc_new]
    rfl
  · intro k hk hl
    simp only [World.freeze, Nat.one_ne_zero, if_false, Array.getElem?_modify]
    rw [if_neg (Ne.symm hk), heap_alloc_old w _ k hl]

theorem cvSB_rs (W : WRel μ w0 ng h w) {src dst e : TypeId} (hs : P.underlying src = some .string) (hd : P.underlying dst = some (.slice e)) (he : P.underlying e = some (.int .u8))
    {s : List UInt8} (hl : s.length ≤ maxRow) {x : Value} (hx : VRel μ (.str s) x) :
    Rs P μ w0 ng h w (convert src dst x) (.sl ⟨h.n, 0, 0⟩ s.length (.op 1)) (h.new (.cells 0 e (bytesAV s) 0 false)) := by
  cases hx
  have hl' : s.length ≤ maxLen := by unfold maxRow at hl; unfold maxLen; omega
  have hg1 := grownCap_ge w s.length 0 e
  have hg2 := grownCap_le_maxLen w s.length 0 e hl'
  obtain ⟨k, hk⟩ : ∃ k, k = grownCap w s.length 0 e := ⟨_, rfl⟩
  rw [← hk] at hg1 hg2
  let arr : Array Value := (s.map fun b => Value.int .u8 b.toNat).toArray ++ Array.replicate (k - s.length) (.int .u8 0)
  have hsz : arr.size = k := by simp [arr]; omega
  have hch : Chg w ((w.drew.alloc (.cells arr e)).freeze ⟨w.heap.size, arr.size, none⟩ 1) w.heap.size (.cells arr e (arr.size, arr.size + 1)) := (frozen_new w.drew arr e).drew w rfl rfl rfl rfl
  have hW := W.new' (.cells 0 e (bytesAV s) 0 false) _ k hch (by simp [World.freeze]) rfl rfl
    ⟨arr, arr.size, arr.size + 1, rfl, hsz, ⟨s.map fun b => Value.int .u8 b.toNat, List.replicate (k - s.length) (.int .u8 0), by simp [arr], bytesAV_rel s⟩, Nat.le_succ _, fun i h1 _ => .inr (by omega)⟩
  refine ⟨.slice (some ⟨w.heap.size, 0, none⟩) s.length k, _, _, ?_, ?_, hW⟩
  · have hshape : (w.drew.alloc (.cells arr e)).shape? w.heap.size = some (e, arr.size) := by simp only [World.shape?]; rw [show w.heap.size = w.drew.heap.size from rfl, heap_alloc_new]
    simp only [convert, Sem.run_bind, run_underlying hs, run_underlying hd, run_underlying he, Result.andThen_ok, Conv.stringToBytes, run_choose, Question.forced, Bool.false_eq_true, if_false, newRow, run_newObj, Sem.run_pure, markStringish, run_shape, World.alloc_eq, World.drew_eq, World.size_drew]
    have earr : (Array.map (fun b => Value.int IntKind.u8 b.toNat) s.toArray ++ Array.replicate ((Question.appendCap s.length 0 e).cut (w.tape w.drawn (Question.appendCap s.length 0 e)) - s.length) (Value.int IntKind.u8 0)) = arr := by
      simp [arr, hk, grownCap]
    rw [show (⟨s.toArray⟩ : ByteArray).size = s.length from rfl, earr, hshape]
    simp [hk, grownCap]
  · refine ⟨_, 0, k, Mu.put_at _ _ _ _, rfl, hg1, hg2, .inl ⟨rfl, by simp⟩⟩

end
end Go.Det
