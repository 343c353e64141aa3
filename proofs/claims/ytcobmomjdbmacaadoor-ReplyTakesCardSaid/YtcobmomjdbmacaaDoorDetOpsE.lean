/- The deterministic machine's slices, places, copies, maps and walks over strings, each against the real one. -/
import Derived.Test.YtcobmomjdbmacaaDoorDetOpsD
set_option linter.unusedVariables false
set_option linter.unusedSimpArgs false
set_option linter.unusedSectionVars false
namespace Go.Det
open Go.RowKit

section
variable {P : Program} {μ : Mu} {w0 : World} {ng : Nat} {h : H} {w : World}

/-! ### Slices -/

theorem slS_rs {t : TypeId} (ht : P.underlying t = some .string) {s : List UInt8} {lo hi : Option AV} {l hh : Nat} {m : Option Nat} (hb : bounds s.length (some s.length) lo hi none = some (l, hh, m)) {lo' hi' : Option Value} (hlo : OptRel μ lo lo') (hhi : OptRel μ hi hi')
    {x : Value} (hx : VRel μ (.str s) x) : Pl P μ w (Instr.sliceAt t x lo' hi' none) (.str ((s.take hh).drop l)) := by
  cases hx
  have := (bounds_rel (P := P) (w := w) hb (Nat.le_refl _) (by simp) hlo hhi (mx' := none) trivial false).1
  refine ⟨.string ((⟨s.toArray⟩ : ByteArray).extract l hh), ?_, by rw [ba_extract]; rfl⟩
  simp [Instr.sliceAt, Instr.slice, run_underlying ht, ba_size, this]

theorem add_mul (r o l s : Nat) : (⟨r, o, none⟩ : Addr).add (l * s) = ⟨r, o + l * s, none⟩ := addr_add _ _ _

theorem slN_rs {t e : TypeId} (ht : P.underlying t = some (.slice e)) {s : Nat} (hs : sizeT P e = some s) {lo hi mx : Option AV} {r : Nat × Nat × Option Nat} (hb : bounds 0 (some 0) lo hi mx = some r) {lo' hi' mx' : Option Value} (hlo : OptRel μ lo lo') (hhi : OptRel μ hi hi')
    (hmx : OptRel μ mx mx') {x : Value} (hx : VRel μ .nils x) : Pl P μ w (Instr.sliceAt t x lo' hi' mx') .nils := by
  cases hx
  obtain ⟨l, hh, m⟩ := r
  obtain ⟨h1, h2, h3, h4⟩ := bounds_rel (P := P) (w := w) hb (Nat.le_refl _) (by simp) hlo hhi hmx true
  have hm : m.getD 0 = 0 := by
    cases m with
    | none => rfl
    | some k =>
      -- what lies behind is no more than the capacity
      unfold bounds at hb
      simp only [] at hb
      split at hb
      · simp at hb
      · rename_i m0 hm0
        have : ∀ k, m0 = some k → k = 0 := by
          intro k hk
          subst hk
          cases mx with
          | none => simpa using hm0.symm
          | some v =>
            simp only [] at hm0
            split at hm0
            · split at hm0
              · split at hm0
                · rename_i i _ h0 hle
                  simp only [Option.some.injEq] at hm0
                  have h0 : 0 ≤ i := by simpa using h0
                  have hle : i ≤ 0 := by simpa using hle
                  omega
                · simp at hm0
              · simp at hm0
            · simp at hm0
        split at hb
        · simp at hb
        · split at hb
          · simp only [Option.some.injEq, Prod.mk.injEq] at hb; obtain ⟨_, _, rfl⟩ := hb; simpa using this k rfl
          · split at hb
            · split at hb
              · simp only [Option.some.injEq, Prod.mk.injEq] at hb; obtain ⟨_, _, rfl⟩ := hb; simpa using this k rfl
              · simp at hb
            · simp at hb
  rw [hm] at h1 h3
  have : hh = 0 := by omega
  subst this
  have : l = 0 := by omega
  subst this
  exact ⟨.slice none 0 0, by simp [Instr.sliceAt, Instr.slice, run_underlying ht, h1, run_size hs], rfl⟩

theorem bounds_cap {n c : Nat} {lo hi mx : Option AV} {l hh m : Nat} (hb : bounds n (some c) lo hi mx = some (l, hh, some m)) : m ≤ c := by
  unfold bounds at hb
  simp only [] at hb
  split at hb
  · simp at hb
  · rename_i q hq
    have hqc : ∀ k, q = some k → k ≤ c := by
      intro k hk
      subst hk
      split at hq
      · simp only [Option.some.injEq] at hq; omega
      · split at hq
        · split at hq
          · split at hq
            · simp only [Option.some.injEq] at hq; omega
            · simp at hq
          · simp at hq
        · simp at hq
    split at hb
    · simp at hb
    · split at hb
      · simp only [Option.some.injEq, Prod.mk.injEq] at hb
        exact hqc _ hb.2.2
      · split at hb
        · split at hb
          · simp only [Option.some.injEq, Prod.mk.injEq] at hb
            exact hqc _ hb.2.2
          · simp at hb
        · simp at hb

theorem slX_rs {t e : TypeId} (ht : P.underlying t = some (.slice e)) {s : Nat} (hs : sizeT P e = some s) {a : AA} {n k : Nat} {lo hi mx : Option AV} {l hh m : Nat} (hb : bounds n (some k) lo hi mx = some (l, hh, some m)) {lo' hi' mx' : Option Value}
    (hlo : OptRel μ lo lo') (hhi : OptRel μ hi hi') (hmx : OptRel μ mx mx') {x : Value} (hx : VRel μ (.sl a n (.ex k)) x) :
    Pl P μ w (Instr.sliceAt t x lo' hi' mx') (.sl (if m == l then a else ⟨a.b, a.g, a.o + l * s⟩) (hh - l) (.ex (m - l))) := by
  rcases hx with ⟨rb, hm, rfl, hle⟩ | ⟨rfl, rfl, ad, rfl⟩
  rotate_left
  · obtain ⟨h1, h2, h3, _⟩ := bounds_rel (P := P) (w := w) hb (Nat.le_refl 0) (by simp) hlo hhi hmx true
    simp only [Option.getD_some] at h1 h3
    have hm0 : m = 0 := by have := bounds_cap hb; omega
    have hl0 : l = 0 := by omega
    have hh0 : hh = 0 := by omega
    subst hm0; subst hl0; subst hh0
    refine ⟨.slice (some ad) (0 - 0) (0 - 0), by simp [Instr.sliceAt, Instr.slice, run_underlying ht, h1, run_size hs], ?_⟩
    simp only [BEq.rfl, if_true]
    exact .inr ⟨rfl, rfl, ad, rfl⟩
  obtain ⟨h1, h2, h3, _⟩ := bounds_rel (P := P) (w := w) hb hle (by simp) hlo hhi hmx true
  simp only [Option.getD_some] at h1 h3
  by_cases he : m = l
  · subst he
    refine ⟨.slice (some ⟨rb.r, a.o, none⟩) (hh - m) (m - m), by simp [Instr.sliceAt, Instr.slice, run_underlying ht, h1, run_size hs], ?_⟩
    simp only [BEq.rfl, if_true]
    exact .inl ⟨rb, hm, rfl, by omega⟩
  · refine ⟨.slice (some ⟨rb.r, a.o + l * s, none⟩) (hh - l) (m - l), by simp [Instr.sliceAt, Instr.slice, run_underlying ht, h1, run_size hs, he, add_mul], ?_⟩
    rw [if_neg (by simpa using he)]
    exact .inl ⟨rb, hm, rfl, by omega⟩

theorem slO_rs {t e : TypeId} (ht : P.underlying t = some (.slice e)) {s : Nat} (hs : sizeT P e = some s) {a : AA} {n : Nat} {lo hi mx : Option AV} {l hh : Nat} {m : Option Nat} (hb : bounds n none lo hi mx = some (l, hh, m)) {lo' hi' mx' : Option Value}
    (hlo : OptRel μ lo lo') (hhi : OptRel μ hi hi') (hmx : OptRel μ mx mx') {x : Value} (hx : VRel μ (.sl a n (.op s)) x) :
    (m = none → Pl P μ w (Instr.sliceAt t x lo' hi' mx') (.sl ⟨a.b, a.g, a.o + l * s⟩ (hh - l) (.op s))) ∧
    (∀ k, m = some k → (0 < n ∨ a.o = 0) → Pl P μ w (Instr.sliceAt t x lo' hi' mx') (.sl (if k == l then a else ⟨a.b, a.g, a.o + l * s⟩) (hh - l) (.ex (k - l)))) := by
  obtain ⟨rb, o, c, hm, rfl, hle, hcm, hdis⟩ := hx
  obtain ⟨h1, h2, h3, h4⟩ := bounds_rel (P := P) (w := w) hb hle (by simp) hlo hhi hmx true
  refine ⟨?_, ?_⟩
  · intro hmn
    subst hmn
    simp only [Option.getD_none] at h1 h3
    have := (h4 rfl).1
    by_cases he : c = l
    · subst he
      refine ⟨.slice (some ⟨rb.r, o, none⟩) (hh - c) (c - c), by simp [Instr.sliceAt, Instr.slice, run_underlying ht, h1, run_size hs], rb, o, c - c, hm, rfl, by omega, by omega, .inr ⟨by omega, ?_⟩⟩
      rcases hdis with ⟨rfl, _⟩ | ⟨_, hh⟩
      · exact Nat.le_add_right _ _
      · exact Nat.le_trans hh (Nat.le_add_right _ _)
    · refine ⟨.slice (some ⟨rb.r, o + l * s, none⟩) (hh - l) (c - l), by simp [Instr.sliceAt, Instr.slice, run_underlying ht, h1, run_size hs, he, add_mul], rb, _, c - l, hm, rfl, by omega, by omega, ?_⟩
      rcases hdis with ⟨rfl, hh⟩ | ⟨h5, h6⟩
      · refine .inl ⟨rfl, ?_⟩
        have : (c - l) * s = c * s - l * s := Nat.sub_mul _ _ _
        have : l * s ≤ c * s := Nat.mul_le_mul_right _ (by omega)
        show a.o + l * s + (c - l) * s = rb.n
        omega
      · exact absurd (by omega : c = l) he
  · intro k hk h0
    subst hk
    simp only [Option.getD_some] at h1 h3
    have hoo : o = a.o := by rcases hdis with ⟨e, _⟩ | ⟨e, _⟩ <;> omega
    subst hoo
    by_cases he : k = l
    · subst he
      refine ⟨.slice (some ⟨rb.r, a.o, none⟩) (hh - k) (k - k), by simp [Instr.sliceAt, Instr.slice, run_underlying ht, h1, run_size hs], ?_⟩
      simp only [BEq.rfl, if_true]
      exact .inl ⟨rb, hm, rfl, by omega⟩
    · refine ⟨.slice (some ⟨rb.r, a.o + l * s, none⟩) (hh - l) (k - l), by simp [Instr.sliceAt, Instr.slice, run_underlying ht, h1, run_size hs, he, add_mul], ?_⟩
      rw [if_neg (by simpa using he)]
      exact .inl ⟨rb, hm, rfl, by omega⟩

theorem slA_rs {t arr e : TypeId} {n : Nat} (ht : P.underlying t = some (.array n e) ∨ (P.underlying t = some (.pointer arr) ∧ P.underlying arr = some (.array n e))) {s : Nat} (hs : sizeT P e = some s) {a : AA} {lo hi mx : Option AV} {l hh m : Nat}
    (hb : bounds n (some n) lo hi mx = some (l, hh, some m)) {lo' hi' mx' : Option Value} (hlo : OptRel μ lo lo') (hhi : OptRel μ hi hi') (hmx : OptRel μ mx mx') {x : Value} (hx : VRel μ (.ptr a) x) :
    Pl P μ w (Instr.sliceAt t x lo' hi' mx') (.sl (if m == l then a else ⟨a.b, a.g, a.o + l * s⟩) (hh - l) (.ex (m - l))) := by
  obtain ⟨rb, hm, rfl⟩ := hx
  obtain ⟨h1, h2, h3, _⟩ := bounds_rel (P := P) (w := w) hb (Nat.le_refl _) (by simp) hlo hhi hmx false
  simp only [Option.getD_some] at h1 h3
  by_cases he : m = l
  · subst he
    refine ⟨.slice (some ⟨rb.r, a.o, none⟩) (hh - m) (m - m), ?_, ?_⟩
    · rcases ht with ht | ⟨ht, hu⟩
      · simp [Instr.sliceAt, Instr.sureAddr, run_underlying ht, h1, run_size hs]
      · simp [Instr.sliceAt, Instr.slice, asAddr, run_underlying ht, run_underlying hu, h1, run_size hs]
    · simp only [BEq.rfl, if_true]
      exact .inl ⟨rb, hm, rfl, by omega⟩
  · refine ⟨.slice (some ⟨rb.r, a.o + l * s, none⟩) (hh - l) (m - l), ?_, ?_⟩
    · rcases ht with ht | ⟨ht, hu⟩
      · simp [Instr.sliceAt, Instr.sureAddr, run_underlying ht, h1, run_size hs, he, add_mul]
      · simp [Instr.sliceAt, Instr.slice, asAddr, run_underlying ht, run_underlying hu, h1, run_size hs, he, add_mul]
    · rw [if_neg (by simpa using he)]
      exact .inl ⟨rb, hm, rfl, by omega⟩

/-! ### Places -/

theorem fa_rs {t : TypeId} {fs : Array Field} {i : Nat} {f : Field} (ht : P.underlying t = some (.struct fs)) (hf : fs[i]? = some f) {k : Nat} (hk : sizeT P f.type = some (k + 1)) {a : AA} {x : Value} (hx : VRel μ (.ptr a) x) :
    Pl P μ w (Instr.fieldAt t x i) (.ptr ⟨a.b, a.g, a.o + f.offset⟩) := by
  obtain ⟨rb, hm, rfl⟩ := hx
  exact ⟨.pointer (some ⟨rb.r, a.o + f.offset, none⟩), by simp [Instr.fieldAt, Instr.sureAddr, run_underlying ht, hf, fieldPlace, run_size hk, addr_add], rb, hm, rfl⟩

theorem fd_rs {t : TypeId} {fs : Array Field} {i : Nat} {f : Field} (ht : P.underlying t = some (.struct fs)) (hf : fs[i]? = some f) {g : Option Nat} (hg : aggT P f.type = some g) {cs : List AV} {v : AV} (hp : Det.part cs f.offset g = some v) {x : Value} (hx : VRel μ (.agg cs) x) :
    Pl P μ w (Instr.field t x i) v := by
  obtain ⟨vs, rfl, hv⟩ := hx
  obtain ⟨v', h1, h2⟩ := part_rel (P := P) (w := w) hg hv hp
  exact ⟨v', by simp [Instr.field, run_underlying ht, hf, asAgg, h1], h2⟩

theorem ia_rs {t e : TypeId} (ht : P.underlying t = some (.slice e)) {s : Nat} (hs : sizeT P e = some s) {a : AA} {n : Nat} {c : Cp} {i : AV} {k : Int} (hi : asI i = some k) (h0 : 0 ≤ k) (hn : k < n) {x y : Value} (hx : VRel μ (.sl a n c) x) (hy : VRel μ i y) :
    Pl P μ w (Instr.indexAt t x y) (.ptr ⟨a.b, a.g, a.o + k.toNat * s⟩) := by
  obtain ⟨kk, rfl⟩ := asI_rel hi hy
  have key : ∀ (rb : RB) (q : Nat), μ a.b a.g = some rb → Pl P μ w (Instr.indexAt t (.slice (some ⟨rb.r, a.o, none⟩) n q) (.int kk k)) (.ptr ⟨a.b, a.g, a.o + k.toNat * s⟩) := by
    intro rb q hm
    refine ⟨.pointer (some ⟨rb.r, a.o + k.toNat * s, none⟩), ?_, rb, hm, rfl⟩
    simp [Instr.indexAt, asIntOf, run_underlying ht, h0, hn, run_size hs, add_mul]
  cases c with
  | ex c =>
    rcases hx with ⟨rb, hm, rfl, _⟩ | ⟨rfl, _⟩
    · exact key rb c hm
    · exfalso; omega
  | op e =>
    obtain ⟨rb, o, c, hm, rfl, hle, _, hdis⟩ := hx
    have : o = a.o := by rcases hdis with ⟨e, _⟩ | ⟨e, _⟩ <;> omega
    subst this
    exact key rb c hm

theorem iaA_rs {t e : TypeId} {n : Nat} (ht : P.underlying t = some (.array n e)) {s : Nat} (hs : sizeT P e = some s) {a : AA} {i : AV} {k : Int} (hi : asI i = some k) (h0 : 0 ≤ k) (hn : k < n) {x y : Value} (hx : VRel μ (.ptr a) x) (hy : VRel μ i y) :
    Pl P μ w (Instr.indexAt t x y) (.ptr ⟨a.b, a.g, a.o + k.toNat * s⟩) := by
  obtain ⟨kk, rfl⟩ := asI_rel hi hy
  obtain ⟨rb, hm, rfl⟩ := hx
  refine ⟨.pointer (some ⟨rb.r, a.o + k.toNat * s, none⟩), ?_, rb, hm, rfl⟩
  simp [Instr.indexAt, Instr.sureAddr, asIntOf, run_underlying ht, h0, hn, run_size hs, add_mul]

theorem getL_eq {α : Type} : ∀ (l : List α) (i : Nat), getL l i = l[i]?
  | [], i => by simp [getL]
  | x :: l, 0 => by simp [getL]
  | x :: l, i + 1 => by simp [getL, getL_eq l i]

theorem ixS_rs {t : TypeId} (ht : P.underlying t = some .string) {s : List UInt8} {i : AV} {k : Int} (hi : asI i = some k) (h0 : 0 ≤ k) {b : UInt8} (hb : getL s k.toNat = some b) {x y : Value} (hx : VRel μ (.str s) x) (hy : VRel μ i y) :
    Pl P μ w (Instr.index t x y) (.int .u8 b.toNat) := by
  obtain ⟨kk, rfl⟩ := asI_rel hi hy
  cases hx
  rw [getL_eq] at hb
  have hg : (⟨s.toArray⟩ : ByteArray)[k.toNat]? = some b := by
    obtain ⟨hlt, hb⟩ := List.getElem?_eq_some_iff.1 hb
    rw [getElem?_pos (⟨s.toArray⟩ : ByteArray) k.toNat hlt]
    congr 1
  exact ⟨_, by simp [Instr.index, asIntOf, run_underlying ht, h0, hg], rfl⟩

theorem ixA_rs {t e : TypeId} {n : Nat} (ht : P.underlying t = some (.array n e)) {s : Nat} (hs : sizeT P e = some s) {g : Option Nat} (hg : aggT P e = some g) {cs : List AV} {i : AV} {k : Int} (hi : asI i = some k) (h0 : 0 ≤ k) (hn : k < n) {v : AV}
    (hp : Det.part cs (k.toNat * s) (if g.isSome then some s else none) = some v) {x y : Value} (hx : VRel μ (.agg cs) x) (hy : VRel μ i y) : Pl P μ w (Instr.index t x y) v := by
  obtain ⟨kk, rfl⟩ := asI_rel hi hy
  obtain ⟨vs, rfl, hv⟩ := hx
  have hgs : (if g.isSome then some s else none) = g := by
    cases g with
    | none => rfl
    | some q =>
      unfold aggT at hg
      unfold sizeT at hs
      split at hg <;> simp at hg
      · rename_i h1; rw [h1] at hs; simp at hs; simp; omega
      · rename_i h1; rw [h1] at hs; simp at hs; simp; omega
  rw [hgs] at hp
  obtain ⟨v', h1, h2⟩ := part_rel (P := P) (w := w) hg hv hp
  exact ⟨v', by simp [Instr.index, asIntOf, run_underlying ht, h0, hn, run_size hs, h1], h2⟩

theorem ext_rs {cs : List AV} {i : Nat} {v : AV} (hg : getL cs i = some v) {x : Value} (hx : VRel μ (.tup cs) x) : Pl P μ w (Instr.extract x i) v := by
  obtain ⟨vs, rfl, hv⟩ := hx
  obtain ⟨v', h1, h2⟩ := hv.get hg
  have : vs[i]? = some v' := by simpa using h1
  exact ⟨v', by simp [Instr.extract, this], h2⟩

theorem sap_rs {t e : TypeId} {n : Nat} (ht : P.underlying t = some (.array n e)) {a : AA} {m : Nat} {c : Cp} (hn : n ≤ m) (h0 : 0 < n) {x : Value} (hx : VRel μ (.sl a m c) x) : Pl P μ w (Instr.arrayAt t x) (.ptr a) := by
  have key : ∀ (rb : RB) (q : Nat), μ a.b a.g = some rb → Pl P μ w (Instr.arrayAt t (.slice (some ⟨rb.r, a.o, none⟩) m q)) (.ptr a) := by
    intro rb q hm
    exact ⟨_, by simp [Instr.arrayAt, run_underlying ht, Nat.not_lt.2 hn], rb, hm, rfl⟩
  cases c with
  | ex c =>
    rcases hx with ⟨rb, hm, rfl, _⟩ | ⟨rfl, _⟩
    · exact key rb c hm
    · exfalso; omega
  | op e =>
    obtain ⟨rb, o, c, hm, rfl, hle, _, hdis⟩ := hx
    have : o = a.o := by rcases hdis with ⟨e, _⟩ | ⟨e, _⟩ <;> omega
    subst this
    exact key rb c hm

theorem sapN_rs {t e : TypeId} (ht : P.underlying t = some (.array 0 e)) {x : Value} (hx : VRel μ .nils x) : Pl P μ w (Instr.arrayAt t x) .nilp := by
  cases hx
  exact ⟨_, by simp [Instr.arrayAt, run_underlying ht], rfl⟩

/-! ### Strings, walked -/

theorem iter_rs (W : WRel μ w0 ng h w) {t : TypeId} (ht : P.underlying t = some .string) {s : List UInt8} {x : Value} (hx : VRel μ (.str s) x) :
    Rs P μ w0 ng h w (Instr.range t x) (.ptr ⟨h.n, 0, 0⟩) (h.new (.iter s 0)) := by
  cases hx
  have hW := W.new w rfl rfl rfl rfl (.iter s 0) (.stringIter ⟨s.toArray⟩ 0) 0 rfl rfl rfl
  exact ⟨.pointer (some ⟨w.heap.size, 0, none⟩), _, _, by simp [Instr.range, run_underlying ht], ⟨_, Mu.put_at _ _ _ _, rfl⟩, hW⟩

theorem WRel.obj (W : WRel μ w0 ng h w) {b : Nat} {B : Blk} (hg : h.get b = some B) (h0 : B.gen = 0) (hr : B.ro = false) {rb : RB} (hm : μ b 0 = some rb) : ∃ o, w.heap[rb.r]? = some o ∧ ORel μ rb.n B o := (W.blk b B rb hg (by rw [h0]; exact hm)).1.own hr

/-- An object (no row of cells) is written. -/
theorem WRel.setObj (W : WRel μ w0 ng h w) {b : Nat} {B B' : Blk} (hg : h.get b = some B) (h0 : B.gen = 0) (hr : B.ro = false) (h0' : B'.gen = 0) (hr' : B'.ro = false) {rb : RB} (hm : μ b 0 = some rb) {o : Obj} (ho : ORel μ rb.n B' o) :
    WRel μ w0 ng (h.set b B') { w with heap := w.heap.setIfInBounds rb.r o } ∧ Adv μ h w μ (h.set b B') { w with heap := w.heap.setIfInBounds rb.r o } := by
  have hlt := W.dom _ _ _ hm
  have hch : Chg w { w with heap := w.heap.setIfInBounds rb.r o } rb.r o := by
    refine ⟨rfl, rfl, rfl, by simp, ?_, ?_⟩
    · simp [hlt.1]
    · intro k hk hl
      simp only [Array.getElem?_setIfInBounds]
      rw [if_neg (by omega)]
  have := W.upd b B' rb o (h.get_set b _) (fun k hk => h.get_set_ne b k _ hk) (Nat.le_refl _) hlt.2.1 hch (by simpa using hlt.1) hr'
    (.inr ⟨B, rb, hg, by rw [h0]; exact hm, hr, rfl⟩) (fun g rb1 e1 => by obtain ⟨_, _, B1, h5, h6⟩ := W.dom _ _ _ e1; rw [hg] at h5; cases h5; omega)
    (fun rb1 e1 => by rw [h0', hm] at e1; exact (Option.some.inj e1).symm) (by rw [h0', Mu.put_same hm]; exact ho)
  rw [h0', Mu.put_same hm] at this
  exact this

theorem next_rs (W : WRel μ w0 ng h w) {b : Nat} {s : List UInt8} {pos : Nat} (hg : h.get b = some (.iter s pos)) {x : Value} (hx : VRel μ (.ptr ⟨b, 0, 0⟩) x) (ty : TypeId) {v : AV} {h' : H}
    (hv : (if pos < s.length then some (AV.tup [.bool true, .int .i64 pos, .int .i32 (Utf8.decode ⟨s.toArray⟩ pos).1], h.set b (.iter s (pos + (Utf8.decode ⟨s.toArray⟩ pos).2))) else some (AV.tup [.bool false], h)) = some (v, h')) :
    Rs P μ w0 ng h w (Instr.next x true ty) v h' := by
  obtain ⟨rb, hm, rfl⟩ := hx
  obtain ⟨o, h1, h2⟩ := W.obj hg rfl rfl hm
  cases h2
  by_cases hlt : pos < s.length
  · rw [if_pos hlt] at hv
    simp only [Option.some.injEq, Prod.mk.injEq] at hv
    obtain ⟨rfl, rfl⟩ := hv
    have hW := W.setObj (B' := .iter s (pos + (Utf8.decode ⟨s.toArray⟩ pos).2)) hg rfl rfl rfl rfl hm (o := .stringIter ⟨s.toArray⟩ (pos + (Utf8.decode ⟨s.toArray⟩ pos).2)) rfl
    refine ⟨.tuple #[.bool true, goInt pos, .int .i32 (Utf8.decode ⟨s.toArray⟩ pos).1], _, μ, ?_, ⟨_, rfl, ⟨_, _, rfl, rfl, _, _, rfl, rfl, _, _, rfl, rfl, rfl⟩⟩, hW⟩
    simp [Instr.next, getObj, setObj, Sem.run, h1, ba_size, hlt]
  · rw [if_neg hlt] at hv
    simp only [Option.some.injEq, Prod.mk.injEq] at hv
    obtain ⟨rfl, rfl⟩ := hv
    refine Pl.rs W ⟨.tuple #[.bool false], ?_, _, rfl, ⟨_, _, rfl, rfl, rfl⟩⟩
    simp [Instr.next, getObj, Sem.run, h1, ba_size, hlt]

end
end Go.Det
