/- base.Put: what it answers. -/
import Derived.Test.YtdnfbmminagflaaDoorbaChk
import Derived.Laws.CopyRow
import Derived.Laws.CopyOwn
import Derived.Lib.OthersKept
set_option linter.unusedVariables false
namespace Go.Proofs
open Go.RowKit Go.Shelf
attribute [local go_sem] Oper.semAt_some

namespace Ba

/-! ### The plain law -/

def table : List UInt8 := [65, 66, 67, 68, 69, 70, 71, 72, 73, 74, 75, 76, 77, 78, 79, 80, 81, 82, 83, 84, 85, 86, 87, 88, 89, 90, 97, 98, 99, 100, 101, 102, 103, 104, 105, 106, 107, 108, 109, 110, 111, 112, 113, 114, 115, 116, 117, 118, 119, 120, 121, 122, 48, 49, 50, 51, 52, 53, 54, 55, 56, 57, 43, 47]
/-- The 24 bits of a part, as many as there are. -/
def bits24 (c : List UInt8) : Nat := (c.getD 0 0).toNat * 65536 + (c.getD 1 0).toNat * 256 + (c.getD 2 0).toNat
def sign (c : List UInt8) (i : Nat) : UInt8 := if i > c.length then 61 else table.getD (bits24 c / 2 ^ (18 - 6 * i) % 64) 0
/-- The text of a part. -/
def quad (c : List UInt8) : List UInt8 := [sign c 0, sign c 1, sign c 2, sign c 3]
def piece (l : List UInt8) (k : Nat) : List UInt8 := (l.drop (3 * k)).take 3
/-- The text of bytes. -/
def b64 (l : List UInt8) : List UInt8 := ((List.range ((l.length + 2) / 3)).map fun k => quad (piece l k)).flatten
def told (l : List UInt8) (pre : List Nat) : List UInt8 := (pre.map fun k => quad (piece l k)).flatten

/-! ### The call -/

theorem isBuilderF_kept {T e : TypeId} {B b : Nat} {bs : List Value} {W W' : World} {row : Option Nat} (h : Lib.IsBuilderF T e B b bs W) (hg : W.grownBy W' row) (hr : ∀ r, row = some r → ∃ o : Obj, W.heap[r]? = some o ∧ o.isCells = false) : Lib.IsBuilderF T e B b bs W' := by
  have kept : ∀ {k : Nat} {c : Array Value} {t : TypeId} {fz : Nat × Nat}, W.heap[k]? = some (.cells c t fz) → W'.heap[k]? = some (.cells c t fz) := by
    intro k c t fz hk
    refine (hg.block k (Array.getElem?_eq_some_iff.1 hk).1 ?_).trans hk
    intro e1
    obtain ⟨o, h1, h2⟩ := hr k e1.symm
    rw [hk] at h1
    cases h1
    cases h2
  have one : ∀ {p : Value}, Lib.BuilderAtF T e B b p bs W → Lib.BuilderAtF T e B b p bs W' := by
    rintro p ⟨hB, v, hb, hown, hne⟩
    refine ⟨hB, v, kept hb, ⟨hown.1, ?_⟩, hne⟩
    rcases hown.2 with hn | ⟨g, cap, cur, fz, hv, hbg, hgg, rest⟩
    · exact .inl hn
    · exact .inr ⟨g, cap, cur, fz, hv, hbg, kept hgg, rest⟩
  exact h.elim (fun x => .inl (one x)) (fun x => .inr (one x))


theorem addr_add (b o j : Nat) : Addr.add ⟨b, o, none⟩ j = ⟨b, o + j, none⟩ := by
  unfold Addr.add
  split
  · rename_i h; subst h; rfl
  · rfl

theorem bytes_at {w : World} {b off : Nat} {l : List UInt8} (hc : ∀ j y, l[j]? = some y → w.cell? ⟨b, off + j, none⟩ = some (.int .u8 y.toNat)) (k : Nat) : ∀ j v, ((piece l k).map fun y => Value.int .u8 y.toNat)[j]? = some v → w.cell? (Addr.add ⟨b, off + 3 * k, none⟩ j) = some v := by
  intro j v hj
  rw [List.getElem?_map] at hj
  obtain ⟨y, h1, rfl⟩ := Option.map_eq_some_iff.1 hj
  have h2 : l[3 * k + j]? = some y := by
    unfold piece at h1
    rw [List.getElem?_take] at h1
    split at h1
    · rw [List.getElem?_drop] at h1; exact h1
    · simp at h1
  have := hc _ _ h2
  rw [addr_add]
  show w.cell? ⟨b, off + 3 * k + j, none⟩ = _
  rw [Nat.add_assoc]
  exact this

theorem kp_put {k1 k2 B : Nat} (h1 : k1 < B) (h2 : k2 < B) (W : World) (l : Nat) (o' : Obj) (hl : B ≤ l) : Kp k1 k2 W (W.putObj l o') :=
  ⟨World.putObj_heap_other (by omega), World.putObj_heap_other (by omega)⟩

theorem told_snoc (l : List UInt8) (pre : List Nat) (k : Nat) : told l (pre ++ [k]) = told l pre ++ quad (piece l k) := by simp [told]
theorem told_length (l : List UInt8) (pre : List Nat) : (told l pre).length = 4 * pre.length := by
  induction pre with
  | nil => rfl
  | cons k pre ih =>
    have : told l (k :: pre) = quad (piece l k) ++ told l pre := by simp [told]
    rw [this, List.length_append, ih]
    simp [quad]
    omega

def ints (c : List UInt8) : List Value := c.map fun y => Value.int .u8 y.toNat
/-- The array that a part is copied into. -/
def arr (c : List UInt8) : Array Value := #[.int .u8 (c.getD 0 0).toNat, .int .u8 (c.getD 1 0).toNat, .int .u8 (c.getD 2 0).toNat]

theorem alloc_setRow (w : World) (c c' : Array Value) (e : TypeId) : (w.alloc (.cells c e)).setRow w.heap.size c' = w.alloc (.cells c' e) := by
  unfold World.setRow World.alloc
  congr 1
  apply Array.ext_getElem?
  intro i
  rw [Array.getElem?_modify]
  by_cases h : w.heap.size = i
  · subst h
    simp
  · rw [if_neg h]
    simp only [Array.getElem?_push]
    rw [if_neg (Ne.symm h), if_neg (Ne.symm h)]

theorem arr_of : ∀ (c : List UInt8), c.length ≤ 3 → (((#[.int .u8 0, .int .u8 0, .int .u8 0] : Array Value).toList.take 0 ++ ints c ++ (#[.int .u8 0, .int .u8 0, .int .u8 0] : Array Value).toList.drop (0 + (ints c).length)).toArray) = arr c
  | [], _ => rfl
  | [a], _ => rfl
  | [a, b], _ => rfl
  | [a, b, d], _ => rfl
  | _ :: _ :: _ :: _ :: _, h => by simp at h

theorem run_copy_part {l : List UInt8} {b off : Nat} {w W : World} (hb : b < w.heap.size) (hB : Below w.heap.size w W) (hc : ∀ j y, l[j]? = some y → w.cell? ⟨b, off + j, none⟩ = some (.int .u8 y.toNat)) (x : Nat) :
    (Builtin.copy_ #[22, 22] 3 #[.slice (some ⟨W.heap.size, 0, none⟩) 3 3, part b off l.length x]).run Tryd.prog (W.alloc (.cells #[.int .u8 0, .int .u8 0, .int .u8 0] 81)) = .ok (goInt (piece l x).length) (W.alloc (.cells (arr (piece l x)) 81)) := by
  have hl : (piece l x).length = min 3 (l.length - 3 * x) := by simp [piece]
  have := run_copy_row (P := Tryd.prog) (W.alloc (.cells #[.int .u8 0, .int .u8 0, .int .u8 0] 81)) 22 22 3 5 W.heap.size 0 3 3 ⟨b, off + 3 * x, none⟩ (min 3 (l.length - 3 * x)) (min 3 (l.length - 3 * x)) #[.int .u8 0, .int .u8 0, .int .u8 0] 81 (ints (piece l x)) (by kernel_rfl) (by kernel_rfl) (World.alloc_heap_new _ _) (by unfold ints; rw [List.length_map, hl]; show _ = min _ _; omega)
    (by
      intro j v hj
      have h1 := bytes_at hc x j v hj
      rw [addr_add] at h1 ⊢
      have hsz : b < W.heap.size := Nat.lt_of_lt_of_le hb hB.size
      exact (World.cell?_of_block (Below.heap_alloc _ _ _ hsz)).trans ((hB.cell (p := ⟨b, off + 3 * x + j, none⟩) hb).trans h1))
    (by unfold ints; rw [List.length_map, hl]; show 0 + _ ≤ 3; omega) (by intro v hv; unfold ints at hv; obtain ⟨y, _, rfl⟩ := List.mem_map.1 hv; rfl)
  rw [arr_of _ (by rw [hl]; omega), alloc_setRow] at this
  unfold part
  rw [this]
  unfold ints
  rw [List.length_map]

theorem piece_length {l : List UInt8} {k : Nat} : (piece l k).length = min 3 (l.length - 3 * k) := by simp [piece]

/-- What holds between two rounds. -/
structure Inv (w : World) (b off len cap n0 : Nat) (t : List UInt8) (W : World) : Prop where
  builder : Lib.IsBuilderF 77 5 w.heap.size w.heap.size (Lib.byteCells t) W
  below : Below w.heap.size w W
  size : n0 ≤ W.heap.size
  box1 : W.heap[w.heap.size + 1]? = some (.cells #[.slice (some ⟨b, off, none⟩) len cap] 22 (0, 0))
  box2 : W.heap[w.heap.size + 1 + 1]? = some (.cells #[.int .i64 3] 3 (0, 0))

theorem cells_kept {W W' : World} {row : Option Nat} (hg : W.grownBy W' row) (hr : ∀ r, row = some r → ∃ o : Obj, W.heap[r]? = some o ∧ o.isCells = false) {k : Nat} {c : Array Value} {t : TypeId} {fz : Nat × Nat} (hk : W.heap[k]? = some (.cells c t fz)) : W'.heap[k]? = some (.cells c t fz) := by
  refine (hg.block k (Array.getElem?_eq_some_iff.1 hk).1 ?_).trans hk
  intro e1
  obtain ⟨o, h1, h2⟩ := hr k e1.symm
  rw [hk] at h1
  cases h1
  cases h2

theorem Inv.kept {w : World} {b off len cap n0 : Nat} {t : List UInt8} {W W' : World} {row : Option Nat} (h : Inv w b off len cap n0 t W) (hg : W.grownBy W' row) (hr : ∀ r, row = some r → w.heap.size ≤ r ∧ ∃ o : Obj, W.heap[r]? = some o ∧ o.isCells = false) : Inv w b off len cap n0 t W' :=
  ⟨isBuilderF_kept h.builder hg (fun r e => (hr r e).2), h.below.grown hg h.below.size (fun k e => (hr k e).1), Nat.le_trans h.size hg.size, cells_kept hg (fun r e => (hr r e).2) h.box1, cells_kept hg (fun r e => (hr r e).2) h.box2⟩

theorem Inv.step {w : World} {b off len cap n0 : Nat} {t c : List UInt8} {W wr w' : World} {k : Nat} (h : Inv w b off len cap n0 (t ++ (quad c).take k) wr) (hkf : KeepsFrom n0 W wr) (hk : k < 4) {x : Int} (hx : x = ((sign c k).toNat : Int)) (hn : w.heap.size < n0)
    (h1 : Lib.BuilderAtF 77 5 w.heap.size w.heap.size (.pointer (some ⟨w.heap.size, 0, none⟩)) (Lib.byteCells (t ++ (quad c).take k) ++ [.int .u8 x]) w') (h2 : Below w.heap.size wr w') (h3 : Lib.OthersKept 5 (some w.heap.size) wr w') :
    Inv w b off len cap n0 (t ++ (quad c).take (k + 1)) w' ∧ KeepsFrom n0 W w' := by
  have e : Lib.byteCells (t ++ (quad c).take k) ++ [.int .u8 x] = Lib.byteCells (t ++ (quad c).take (k + 1)) := by
    have : (quad c).take (k + 1) = (quad c).take k ++ [sign c k] := by
      obtain rfl | rfl | rfl | rfl : k = 0 ∨ k = 1 ∨ k = 2 ∨ k = 3 := by omega
      all_goals rfl
    rw [this, ← List.append_assoc, Lib.byteCells_append _ [sign c k], hx]
    rfl
  rw [e] at h1
  refine ⟨⟨.inr h1, h.below.trans h2, Nat.le_trans h.size h2.size, h3 _ _ h.box1 (fun e1 => by have := Option.some.inj e1; omega) (by intro _ _ e1; cases e1), h3 _ _ h.box2 (fun e1 => by have := Option.some.inj e1; omega) (by intro _ _ e1; cases e1)⟩, hkf.trans ⟨h2.size, ?_⟩⟩
  intro j o hj ho hoc
  exact h3 j o ho (fun e1 => by have := Option.some.inj e1; omega) (by intro _ _ e1; subst e1; cases hoc)

def boxed (w : World) (b off len cap : Nat) : World := ((w.alloc (.cells #[.pointer none, .slice none 0 0] 77)).alloc (.cells #[.slice (some ⟨b, off, none⟩) len cap] 22)).alloc (.cells #[.int .i64 3] 3)

theorem wrap_u32 (n : Int) : IntKind.u32.wrap n = n % 4294967296 := by simp [IntKind.wrap, IntKind.signed, IntKind.bits]

theorem bits_or_u32 (A c i M : Nat) (hM : 2 ^ i = M) (hA : A * M + c < 4294967296) (hc : c < M) : bits .or .u32 ((A * M : Nat) : Int) (c : Int) = ((A * M + c : Nat) : Int) := by
  have h1 : (BitVec.ofInt 32 ((A * M : Nat) : Int)).toNat = A * M := by
    rw [BitVec.ofInt_natCast, BitVec.toNat_ofNat]; exact Nat.mod_eq_of_lt (by omega)
  have h2 : (BitVec.ofInt 32 (c : Int)).toNat = c := by
    rw [BitVec.ofInt_natCast, BitVec.toNat_ofNat]; exact Nat.mod_eq_of_lt (by omega)
  show IntKind.u32.wrap ((BitVec.ofInt 32 ((A * M : Nat) : Int) ||| BitVec.ofInt 32 (c : Int)).toNat : Int) = _
  rw [BitVec.toNat_or, h1, h2]
  have := Nat.shiftLeft_add_eq_or_of_lt (i := i) (b := c) (by rw [hM]; exact hc) A
  rw [Nat.shiftLeft_eq, hM] at this
  rw [← this, wrap_u32]
  omega

set_option maxRecDepth 100000 in
theorem bits_24 (x0 x1 x2 : Nat) (r0 : x0 ≤ 255) (r1 : x1 ≤ 255) (r2 : x2 ≤ 255) : bits .or .u32 (bits .or .u32 ((x0 : Int) * 65536) ((x1 : Int) * 256)) (x2 : Int) = ((x0 * 65536 + x1 * 256 + x2 : Nat) : Int) := by
  have q1 : x0 * 65536 + x1 * 256 < 4294967296 := by omega
  have q2 : x1 * 256 < 65536 := by omega
  have q3 : 2 ^ 16 = 65536 := by kernel_rfl
  have e1 := bits_or_u32 x0 (x1 * 256) 16 65536 q3 q1 q2
  have e2 := bits_or_u32 (x0 * 256 + x1) x2 8 256 (by decide) (by omega) (by omega)
  have c1 : ((x0 : Int) * 65536) = ((x0 * 65536 : Nat) : Int) := by omega
  have c2 : ((x1 : Int) * 256) = ((x1 * 256 : Nat) : Int) := by omega
  have c3 : x0 * 65536 + x1 * 256 = (x0 * 256 + x1) * 256 := by omega
  have c4 : (x0 * 256 + x1) * 256 + x2 = x0 * 65536 + x1 * 256 + x2 := by omega
  rw [c1, c2, e1, c3, e2, c4]

theorem bits_63 (n : Nat) (h : n < 4294967296) : bits .and .u32 (n : Int) 63 = ((n % 64 : Nat) : Int) := by
  have h1 : (BitVec.ofInt 32 (n : Int)).toNat = n := by
    rw [BitVec.ofInt_natCast, BitVec.toNat_ofNat]; exact Nat.mod_eq_of_lt (by omega)
  show IntKind.u32.wrap ((BitVec.ofInt 32 (n : Int) &&& BitVec.ofInt 32 63).toNat : Int) = _
  rw [BitVec.toNat_and, h1]
  have h2 : (BitVec.ofInt 32 63).toNat = 2 ^ 6 - 1 := by decide
  rw [h2, Nat.and_two_pow_sub_one_eq_mod]
  rw [wrap_u32]
  omega

theorem and63 (N d : Nat) (D : Int) (hD : D = (d : Int)) (hN : N < 16777216) (hd : 0 < d) : ∃ v : Nat, v < 64 ∧ bits .and .u32 ((N : Int) / D) 63 = (v : Int) ∧ v = N / d % 64 := by
  subst hD
  refine ⟨N / d % 64, Nat.mod_lt _ (by omega), ?_, rfl⟩
  have := bits_63 (N / d) (Nat.lt_of_le_of_lt (Nat.div_le_self _ _) (by omega))
  rw [← this, Int.natCast_ediv]

theorem tab_sign {c : List UInt8} {k m v : Nat} (hs : sign c k = if k > m then 61 else table.getD v 0) (hm : ¬ k > m) (hv : v < 64) {h : (v : Int).toNat < (⟨table.toArray⟩ : ByteArray).size} : (((⟨table.toArray⟩ : ByteArray)[(v : Int).toNat]'h).toNat : Int) = ((sign c k).toNat : Int) := by
  rw [hs, if_neg hm]
  have : ∀ (n : Nat) (hn : n < (⟨table.toArray⟩ : ByteArray).size), n = v → (⟨table.toArray⟩ : ByteArray)[n]'hn = table.getD v 0 := by
    intro n hn e
    subst e
    show table.toArray[n]'hn = _
    rw [List.getElem_toArray, List.getD_eq_getElem?_getD, List.getElem?_eq_getElem hn]
    rfl
  rw [this _ h (by simp)]

theorem piece_facts (l : List UInt8) (b off x : Nat) : ∃ x0 x1 x2 m pp : Nat, x0 ≤ 255 ∧ x1 ≤ 255 ∧ x2 ≤ 255 ∧ m ≤ 3 ∧ arr (piece l x) = #[.int .u8 x0, .int .u8 x1, .int .u8 x2] ∧ part b off l.length x = .slice (some ⟨b, pp, none⟩) m m ∧ (piece l x).length = m ∧
    ∀ i, sign (piece l x) i = if i > m then 61 else table.getD ((x0 * 65536 + x1 * 256 + x2) / 2 ^ (18 - 6 * i) % 64) 0 := by
  have h : ∀ u : UInt8, u.toNat ≤ 255 := fun u => by have := u.toNat_lt; omega
  refine ⟨((piece l x).getD 0 0).toNat, ((piece l x).getD 1 0).toNat, ((piece l x).getD 2 0).toNat, (piece l x).length, off + 3 * x, h _, h _, h _, ?_, rfl, ?_, rfl, fun i => rfl⟩
  · rw [piece_length]; omega
  · rw [piece_length]; rfl

set_option maxRecDepth 100000 in
set_option maxHeartbeats 4000000 in
theorem put_some (l : List UInt8) (b off cap : Nat) (w : World) (hlen : l.length ≤ 149500000000000) (hcap : l.length ≤ cap) (hb : b < w.heap.size)
    (hc : ∀ j y, l[j]? = some y → w.cell? ⟨b, off + j, none⟩ = some (.int .u8 y.toNat))
    (hWB : ∀ (B b : Nat) (bs : List Value) (c : Int) (w : World), Lib.IsBuilderF 77 5 B b bs w → bs.length + 1 ≤ 200000000000000 → B ≤ w.heap.size → Calls Tryd.prog 37 #[.pointer (some ⟨b, 0, none⟩), .int .u8 c] w fun e w' => e = .returned .nilIface ∧ (Lib.BuilderAtF 77 5 B b (.pointer (some ⟨b, 0, none⟩)) (bs ++ [.int .u8 c]) w' ∧ Below B w w' ∧ Lib.OthersKept 5 (some b) w w'))
    (hST : ∀ (B b : Nat) (l : List UInt8) (w : World), Lib.IsBuilderF 77 5 B b (Lib.byteCells l) w → B ≤ w.heap.size → Calls Tryd.prog 38 #[.pointer (some ⟨b, 0, none⟩)] w fun e w' => e = .returned (.string ⟨l.toArray⟩) ∧ (Lib.IsBuilderF 77 5 B b (Lib.byteCells l) w' ∧ Below B w w' ∧ Lib.OthersKept 5 (some b) w w')) :
    Calls Tryd.prog 16 #[.slice (some ⟨b, off, none⟩) l.length cap] w fun e w' => e = .returned (.string ⟨(b64 l).toArray⟩) ∧ Below w.heap.size w w' := by
  have hF : ∀ k, Fence.wide.fn k := fun _ => trivial
  have hro : Fence.wide.round = none := rfl
  refine (callsIn_wide (n := 3)).1 ?_
  refine callsIn_of_wp_marks Tryd.func16 rfl (hF 16) ?_ hro
  simp only [Tryd.ntmps16, List.size_toArray, List.length_cons, List.length_nil, Nat.reduceAdd, Nat.reduceSub, Array.replicate_succ, Array.replicate_zero, List.push_toArray, List.append_toArray, List.nil_append, List.cons_append]
  have f36 := hF 36
  gi_wp2_with (gi_at_call 36; refine (chunk_in Fence.wide _ (hF 36) hro _ _ _ _).mono ?_; rintro e w' ⟨rfl, rfl⟩)
  obtain ⟨W0, hW0⟩ : ∃ W0, ((w.alloc (.cells #[.pointer none, .slice none 0 0] 77)).alloc (.cells #[.slice (some ⟨b, off, none⟩) l.length cap] 22)).alloc (.cells #[.int .i64 3] 3) = W0 := ⟨_, rfl⟩
  rw [hW0]
  have hsz : W0.heap.size = w.heap.size + 3 := by rw [← hW0]; simp
  have g1 : W0.heap[w.heap.size + 1]? = some (.cells #[.slice (some ⟨b, off, none⟩) l.length cap] 22 (0, 0)) := by
    rw [← hW0, Below.heap_alloc _ _ _ (by rw [World.size_alloc, World.size_alloc]; omega)]
    have := World.alloc_heap_new (w.alloc (.cells #[.pointer none, .slice none 0 0] 77)) (.cells #[.slice (some ⟨b, off, none⟩) l.length cap] 22)
    rwa [World.size_alloc] at this
  have g2 : W0.heap[w.heap.size + 1 + 1]? = some (.cells #[.int .i64 3] 3 (0, 0)) := by
    rw [← hW0]
    have := World.alloc_heap_new ((w.alloc (.cells #[.pointer none, .slice none 0 0] 77)).alloc (.cells #[.slice (some ⟨b, off, none⟩) l.length cap] 22)) (.cells #[.int .i64 3] 3)
    rwa [World.size_alloc, World.size_alloc] at this
  have hB0 : Below w.heap.size w W0 := by
    rw [← hW0]
    exact (((Below.refl _ w).alloc (Nat.le_refl _) _).alloc (by rw [World.size_alloc]; omega) _).alloc (by rw [World.size_alloc, World.size_alloc]; omega) _
  have hI0 : Lib.IsBuilderF 77 5 w.heap.size w.heap.size (Lib.byteCells []) W0 := by
    rw [← hW0]
    exact (((Lib.IsBuilderF.of (Lib.fresh_isBuilder 77 5 w))).alloc _).alloc _
  have hseq : SeqStopsK Fence.wide (3 - 1) Tryd.prog 59 #[.pointer (some ⟨w.heap.size + 1, 0, none⟩), .pointer (some ⟨w.heap.size + 1 + 1, 0, none⟩)] (fun k : Nat => #[part b off l.length k]) (Kp (w.heap.size + 1) (w.heap.size + 1 + 1)) (fun ys => ys = List.range ((l.length + 2) / 3)) (fun pre => ∃ k, k ≤ (l.length + 2) / 3 ∧ pre = List.range k) ((l.length + 2) / 3) W0 := by
    intro l' J Jx W hW hJ hJx hY h0
    exact chunk1_in Fence.wide (3 - 1) trivial hro (by omega) l' _ _ b off l.length cap (by omega) hcap J Jx (fun s A B row hs hg hr => hJ s A B row hs hg (fun r e => (hr r e).elim)) hY W
      ((hW.block _ (by omega)).trans g1) ((hW.block _ (by omega)).trans g2) h0
  refine wpIn_rangeFunc_ownG hro (by omega) (gf := 59) (lb := #[.pointer (some ⟨w.heap.size + 1, 0, none⟩), .pointer (some ⟨w.heap.size + 1 + 1, 0, none⟩)]) rfl trivial (enters_of Tryd.func59 (by kernel_rfl) rfl) hseq
    (fun h1 h2 => ⟨h2.1.trans h1.1, h2.2.trans h1.2⟩) (fun W l' o o' hl _ _ _ => kp_put (by omega) (by omega) W l' o' hl) (Below.refl _ _) (fun _ => rfl)
    (fun pre W => Inv w b off l.length cap W0.heap.size (told l pre) W) (fun _ _ _ => False)
    (fun s A B row hs hg hr => hs.kept hg (fun r e => ⟨by have := (hr r e).1; omega, (hr r e).2⟩))
    (fun _ _ _ _ _ hs _ _ => hs) ⟨hI0, hB0, Nat.le_refl _, g1, g2⟩
    (fun k => { tmps := #[.slice (some ⟨b, off, none⟩) l.length cap, undef, .string ⟨#[]⟩, .pointer (some ⟨w.heap.size, 0, none⟩), part b off l.length k, undef, undef, undef, .slice (some ⟨b, off, none⟩) l.length cap, .func (.func 59) #[] #[.pointer (some ⟨w.heap.size + 1, 0, none⟩), .pointer (some ⟨w.heap.size + 1 + 1, 0, none⟩)], part b off l.length k, undef, undef, undef, undef, undef, undef, undef, undef, undef, undef, undef, undef, undef, undef, undef, undef, undef, undef, undef, undef, undef, undef, undef, undef, undef, undef, undef, undef, undef, undef, undef, undef, undef, undef], defers := [] }) ?assign ?body ?done ?stop
  case assign =>
    intro l' x W K hK
    gi_wp2
    exact hK
  case body =>
    rintro l' pre x W ⟨hI1, hB1, hWs, e1, e2⟩ hlt
    have hcopy := run_copy_part (x := x) hb hB1 hc
    obtain ⟨x0, x1, x2, m, pp, r0, r1, r2, hm, harr, hpart, hlm, hsg⟩ := piece_facts l b off x
    rw [harr, hpart, hlm] at hcopy
    rw [hpart]
    have htold : ∀ q, quad (piece l x) = q → told l (pre ++ [x]) = told l pre ++ q := fun q e => by rw [told_snoc, e]
    have hlt4 : (Lib.byteCells (told l pre)).length + 4 ≤ 200000000000000 := by
      rw [Lib.byteCells_length, told_length]; omega
    have hi0 : Inv w b off l.length cap W0.heap.size (told l pre ++ (quad (piece l x)).take 0) (W.alloc (.cells #[.int .u8 x0, .int .u8 x1, .int .u8 x2] 81)) := by
      have : Inv w b off l.length cap W0.heap.size (told l pre) (W.alloc (.cells #[.int .u8 x0, .int .u8 x1, .int .u8 x2] 81)) := Inv.kept ⟨hI1, hB1, hWs, e1, e2⟩ (World.grownBy_alloc _ _ none) (fun r e => by cases e)
      simpa using this
    clear harr hpart hlm hI1 hB1 hc
    gi_wp2
    rw [bits_24 x0 x1 x2 r0 r1 r2]
    obtain ⟨N, hN, hN2⟩ : ∃ N : Nat, N < 16777216 ∧ N = x0 * 65536 + x1 * 256 + x2 := ⟨_, by omega, rfl⟩
    rw [← hN2] at hsg ⊢
    clear hN2
    gi_loopw [27] (fun i wr => ∃ k : Nat, k ≤ 4 ∧ i = .int .i64 k ∧ Inv w b off l.length cap W0.heap.size (told l pre ++ (quad (piece l x)).take k) wr ∧ KeepsFrom W0.heap.size W wr)
      (fun i _ => 5 - (intOf i).toNat)
    case atStart => exact ⟨0, by omega, rfl, hi0, (KeepsOthers.alloc _ _).from _⟩
    case round =>
      obtain ⟨k, hk4, rfl, hi, hkf⟩ := hrel
      have hlk : (told l pre ++ (quad (piece l x)).take k).length + 1 ≤ 200000000000000 ∨ k = 4 := by
        by_cases h4 : k = 4
        · exact .inr h4
        · left
          rw [Lib.byteCells_length] at hlt4
          simp only [List.length_append, List.length_take, quad, List.length_cons, List.length_nil]
          omega
      by_cases hk : k < 4
      · have hlk' : (told l pre ++ (quad (piece l x)).take k).length + 1 ≤ 200000000000000 := by omega
        have step : ∀ (c : Int) (w' : World), c = ((sign (piece l x) k).toNat : Int) → Lib.BuilderAtF 77 5 w.heap.size w.heap.size (.pointer (some ⟨w.heap.size, 0, none⟩)) (Lib.byteCells (told l pre ++ (quad (piece l x)).take k) ++ [.int .u8 c]) w' → Below w.heap.size wr w' → Lib.OthersKept 5 (some w.heap.size) wr w' →
            Inv w b off l.length cap W0.heap.size (told l pre ++ (quad (piece l x)).take (k + 1)) w' ∧ KeepsFrom W0.heap.size W w' := fun c w' hc h1 h2 h3 => hi.step hkf hk hc (by omega) h1 h2 h3
        have hs := hsg k
        clear hsg
        obtain rfl | rfl | rfl | rfl : k = 0 ∨ k = 1 ∨ k = 2 ∨ k = 3 := by omega
        · obtain ⟨v, hv, hb6, hv6⟩ := and63 N 262144 262144 (by omega) hN (by omega)
          have hp : 2 ^ (18 - 6 * 0) = 262144 := by kernel_rfl
          rw [hp, ← hv6] at hs
          skip
          clear hp hv6
          have hv0 : (0 : Int) ≤ (v : Int) := by omega
          have hv1 : (v : Int) < 64 := by omega
          have f37 := hF 37
          gi_wp2_with (gi_at_call 37; refine (CallsIn.inRound l' (callsIn_wide.2 (hWB _ _ _ _ _ hi.builder (by rw [Lib.byteCells_length]; exact hlk') hi.below.size))).mono ?_; rintro e w' ⟨rfl, h1, h2, h3⟩)
          all_goals first
            | exact ⟨⟨1, by omega, rfl, step _ w' (tab_sign hs (by omega) hv) h1 h2 h3⟩, by simp [intOf]⟩
            | exact ⟨⟨1, by omega, rfl, step _ w' (by rw [hs, if_pos (by omega)]; rfl) h1 h2 h3⟩, by simp [intOf]⟩
        · obtain ⟨v, hv, hb6, hv6⟩ := and63 N 4096 4096 (by omega) hN (by omega)
          have hp : 2 ^ (18 - 6 * 1) = 4096 := by kernel_rfl
          rw [hp, ← hv6] at hs
          skip
          clear hp hv6
          have hv0 : (0 : Int) ≤ (v : Int) := by omega
          have hv1 : (v : Int) < 64 := by omega
          have f37 := hF 37
          gi_wp2_with (gi_at_call 37; refine (CallsIn.inRound l' (callsIn_wide.2 (hWB _ _ _ _ _ hi.builder (by rw [Lib.byteCells_length]; exact hlk') hi.below.size))).mono ?_; rintro e w' ⟨rfl, h1, h2, h3⟩)
          all_goals first
            | exact ⟨⟨2, by omega, rfl, step _ w' (tab_sign hs (by omega) hv) h1 h2 h3⟩, by simp [intOf]⟩
            | exact ⟨⟨2, by omega, rfl, step _ w' (by rw [hs, if_pos (by omega)]; rfl) h1 h2 h3⟩, by simp [intOf]⟩
        · obtain ⟨v, hv, hb6, hv6⟩ := and63 N 64 64 (by omega) hN (by omega)
          have hp : 2 ^ (18 - 6 * 2) = 64 := by kernel_rfl
          rw [hp, ← hv6] at hs
          skip
          clear hp hv6
          have hv0 : (0 : Int) ≤ (v : Int) := by omega
          have hv1 : (v : Int) < 64 := by omega
          have f37 := hF 37
          gi_wp2_with (gi_at_call 37; refine (CallsIn.inRound l' (callsIn_wide.2 (hWB _ _ _ _ _ hi.builder (by rw [Lib.byteCells_length]; exact hlk') hi.below.size))).mono ?_; rintro e w' ⟨rfl, h1, h2, h3⟩)
          all_goals first
            | exact ⟨⟨3, by omega, rfl, step _ w' (tab_sign hs (by omega) hv) h1 h2 h3⟩, by simp [intOf]⟩
            | exact ⟨⟨3, by omega, rfl, step _ w' (by rw [hs, if_pos (by omega)]; rfl) h1 h2 h3⟩, by simp [intOf]⟩
        · obtain ⟨v, hv, hb6, hv6⟩ := and63 N 1 1 (by omega) hN (by omega)
          have hp : 2 ^ (18 - 6 * 3) = 1 := by kernel_rfl
          rw [hp, ← hv6] at hs
          rw [Int.ediv_one] at hb6
          clear hp hv6
          have hv0 : (0 : Int) ≤ (v : Int) := by omega
          have hv1 : (v : Int) < 64 := by omega
          have f37 := hF 37
          gi_wp2_with (gi_at_call 37; refine (CallsIn.inRound l' (callsIn_wide.2 (hWB _ _ _ _ _ hi.builder (by rw [Lib.byteCells_length]; exact hlk') hi.below.size))).mono ?_; rintro e w' ⟨rfl, h1, h2, h3⟩)
          all_goals first
            | exact ⟨⟨4, by omega, rfl, step _ w' (tab_sign hs (by omega) hv) h1 h2 h3⟩, by simp [intOf]⟩
            | exact ⟨⟨4, by omega, rfl, step _ w' (by rw [hs, if_pos (by omega)]; rfl) h1 h2 h3⟩, by simp [intOf]⟩
      · obtain rfl : k = 4 := by omega
        have hq : (quad (piece l x)).take 4 = quad (piece l x) := rfl
        rw [hq, ← htold _ rfl] at hi
        clear htold hsg
        have hkp : Kp (w.heap.size + 1) (w.heap.size + 1 + 1) W wr := ⟨hi.box1.trans e1.symm, hi.box2.trans e2.symm⟩
        rw [hsz] at hi hkf
        gi_wp2
        exact ⟨hkf, hkp, hi⟩
  case done =>
    rintro D ys W hD rfl ⟨hI1, hB1, hWs, _, _⟩ hK
    have f38 := hF 38
    gi_wp2
    refine (callsIn_wide.2 (hST _ _ _ _ hI1 hB1.size)).mono ?_
    rintro e w' ⟨rfl, h1, h2, h3⟩
    have hK2 : w'.heap[D]? = some (.deferred (some [])) := h3 D _ hK (fun e1 => by have := Option.some.inj e1; omega) (fun _ _ e1 => by cases e1)
    gi_wp2
    refine ⟨by simp, .inl ⟨_, _, rfl, run_takeDeferred hK2, ?_⟩⟩
    exact ⟨_, results_tmp rfl _ _ _, rfl, (hB1.trans h2).trans (belowK_b (w := w) (Nat.le_refl _) w' D _ _ (by omega) hK2 rfl rfl)⟩
  case stop =>
    rintro D c pre W _ _ h _
    exact h.elim

set_option maxRecDepth 100000 in
set_option maxHeartbeats 4000000 in
theorem put_none (p : Option Addr) (cap : Nat) (w : World)
    (hWB : ∀ (B b : Nat) (bs : List Value) (c : Int) (w : World), Lib.IsBuilderF 77 5 B b bs w → bs.length + 1 ≤ 200000000000000 → B ≤ w.heap.size → Calls Tryd.prog 37 #[.pointer (some ⟨b, 0, none⟩), .int .u8 c] w fun e w' => e = .returned .nilIface ∧ (Lib.BuilderAtF 77 5 B b (.pointer (some ⟨b, 0, none⟩)) (bs ++ [.int .u8 c]) w' ∧ Below B w w' ∧ Lib.OthersKept 5 (some b) w w'))
    (hST : ∀ (B b : Nat) (l : List UInt8) (w : World), Lib.IsBuilderF 77 5 B b (Lib.byteCells l) w → B ≤ w.heap.size → Calls Tryd.prog 38 #[.pointer (some ⟨b, 0, none⟩)] w fun e w' => e = .returned (.string ⟨l.toArray⟩) ∧ (Lib.IsBuilderF 77 5 B b (Lib.byteCells l) w' ∧ Below B w w' ∧ Lib.OthersKept 5 (some b) w w')) :
    Calls Tryd.prog 16 #[.slice p 0 cap] w fun e w' => e = .returned (.string ⟨#[]⟩) ∧ Below w.heap.size w w' := by
  have hF : ∀ k, Fence.wide.fn k := fun _ => trivial
  have hro : Fence.wide.round = none := rfl
  refine (callsIn_wide (n := 3)).1 ?_
  refine callsIn_of_wp_marks Tryd.func16 rfl (hF 16) ?_ hro
  simp only [Tryd.ntmps16, List.size_toArray, List.length_cons, List.length_nil, Nat.reduceAdd, Nat.reduceSub, Array.replicate_succ, Array.replicate_zero, List.push_toArray, List.append_toArray, List.nil_append, List.cons_append]
  have f36 := hF 36
  gi_wp2_with (gi_at_call 36; refine (chunk_in Fence.wide _ (hF 36) hro _ _ _ _).mono ?_; rintro e w' ⟨rfl, rfl⟩)
  obtain ⟨W0, hW0⟩ : ∃ W0, ((w.alloc (.cells #[.pointer none, .slice none 0 0] 77)).alloc (.cells #[.slice p 0 cap] 22)).alloc (.cells #[.int .i64 3] 3) = W0 := ⟨_, rfl⟩
  rw [hW0]
  have hsz : W0.heap.size = w.heap.size + 3 := by rw [← hW0]; simp
  have g1 : W0.heap[w.heap.size + 1]? = some (.cells #[.slice p 0 cap] 22 (0, 0)) := by
    rw [← hW0, Below.heap_alloc _ _ _ (by rw [World.size_alloc, World.size_alloc]; omega)]
    have := World.alloc_heap_new (w.alloc (.cells #[.pointer none, .slice none 0 0] 77)) (.cells #[.slice p 0 cap] 22)
    rwa [World.size_alloc] at this
  have g2 : W0.heap[w.heap.size + 1 + 1]? = some (.cells #[.int .i64 3] 3 (0, 0)) := by
    rw [← hW0]
    have := World.alloc_heap_new ((w.alloc (.cells #[.pointer none, .slice none 0 0] 77)).alloc (.cells #[.slice p 0 cap] 22)) (.cells #[.int .i64 3] 3)
    rwa [World.size_alloc, World.size_alloc] at this
  have hB0 : Below w.heap.size w W0 := by
    rw [← hW0]
    exact (((Below.refl _ w).alloc (Nat.le_refl _) _).alloc (by rw [World.size_alloc]; omega) _).alloc (by rw [World.size_alloc, World.size_alloc]; omega) _
  have hI0 : Lib.IsBuilderF 77 5 w.heap.size w.heap.size (Lib.byteCells []) W0 := by
    rw [← hW0]
    exact (((Lib.IsBuilderF.of (Lib.fresh_isBuilder 77 5 w))).alloc _).alloc _
  have hseq : SeqStopsK Fence.wide (3 - 1) Tryd.prog 59 #[.pointer (some ⟨w.heap.size + 1, 0, none⟩), .pointer (some ⟨w.heap.size + 1 + 1, 0, none⟩)] (fun k : Nat => #[part 0 0 0 k]) (Kp (w.heap.size + 1) (w.heap.size + 1 + 1)) (fun ys => ys = []) (fun _ => False) 0 W0 := by
    intro l' J Jx W hW hJ hJx hY h0
    exact (chunk1_nil Fence.wide (3 - 1) trivial hro (by omega) l' _ _ p cap J W ((hW.block _ (by omega)).trans g1) h0).mono fun e W' h => ⟨h.1, .inl ⟨[], rfl, h.2⟩⟩
  refine wpIn_rangeFunc_ownG hro (by omega) (gf := 59) (lb := #[.pointer (some ⟨w.heap.size + 1, 0, none⟩), .pointer (some ⟨w.heap.size + 1 + 1, 0, none⟩)]) rfl trivial (enters_of Tryd.func59 (by kernel_rfl) rfl) hseq
    (fun h1 h2 => ⟨h2.1.trans h1.1, h2.2.trans h1.2⟩) (fun W l' o o' hl _ _ _ => kp_put (by omega) (by omega) W l' o' hl) (Below.refl _ _) (fun _ => rfl)
    (fun pre W => Lib.IsBuilderF 77 5 w.heap.size w.heap.size (Lib.byteCells []) W ∧ Below w.heap.size w W) (fun _ _ _ => False)
    (fun s A B row hs hg hr => ⟨isBuilderF_kept hs.1 hg (fun r e => (hr r e).2), hs.2.grown hg hs.2.size (fun k e => by have := (hr k e).1; omega)⟩)
    (fun _ _ _ _ _ hs _ _ => hs) ⟨hI0, hB0⟩
    (fun k => { tmps := #[.slice p 0 cap, undef, .string ⟨#[]⟩, .pointer (some ⟨w.heap.size, 0, none⟩), part 0 0 0 k, undef, undef, undef, .slice p 0 cap, .func (.func 59) #[] #[.pointer (some ⟨w.heap.size + 1, 0, none⟩), .pointer (some ⟨w.heap.size + 1 + 1, 0, none⟩)], part 0 0 0 k, undef, undef, undef, undef, undef, undef, undef, undef, undef, undef, undef, undef, undef, undef, undef, undef, undef, undef, undef, undef, undef, undef, undef, undef, undef, undef, undef, undef, undef, undef, undef, undef, undef, undef], defers := [] }) ?assign ?body ?done ?stop
  case assign =>
    intro l' x W K hK
    gi_wp2
    exact hK
  case body =>
    rintro l' pre x W _ hlt
    exact absurd hlt (Nat.not_lt_zero _)
  case done =>
    rintro D ys W hD rfl ⟨hI1, hB1⟩ hK
    have f38 := hF 38
    gi_wp2
    refine (callsIn_wide.2 (hST _ _ _ _ hI1 hB1.size)).mono ?_
    rintro e w' ⟨rfl, h1, h2, h3⟩
    have hK2 : w'.heap[D]? = some (.deferred (some [])) := h3 D _ hK (fun e1 => by have := Option.some.inj e1; omega) (fun _ _ e1 => by cases e1)
    gi_wp2
    refine ⟨by simp, .inl ⟨_, _, rfl, run_takeDeferred hK2, ?_⟩⟩
    exact ⟨_, results_tmp rfl _ _ _, rfl, (hB1.trans h2).trans (belowK_b (w := w) (Nat.le_refl _) w' D _ _ (by omega) hK2 rfl rfl)⟩
  case stop =>
    rintro D c pre W _ _ h _
    exact h.elim
end Ba
end Go.Proofs
