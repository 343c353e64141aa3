/- Base: the document's reading: the loops. -/
import Derived.Test.YtdnfbmminagflaaDoorba8
set_option linter.unusedVariables false
set_option linter.unusedSimpArgs false
set_option linter.unusedSectionVars false
namespace Go.Det
open Go.Proofs
attribute [local irreducible] Wp Wo Wd iop ev slots quiets wanted put

/-- A number's bits, the upper ones first. -/
def down (n : Nat) : Nat → List Nat
  | 0 => []
  | j + 1 => n / 2 ^ j % 2 :: down n j
/-- The bits of letters; none: one is none. -/
def bitsOf : List UInt8 → Option (List Nat)
  | [] => some []
  | c :: l => if Lib.indexByte Ba.table c < 0 then none else (bitsOf l).map fun b => down (Lib.indexByte Ba.table c).toNat 6 ++ b
/-- Bits as a number. -/
def byteN (x : Nat) (r : List Nat) : Nat := r.foldl (fun x b => 2 * x + b) x
/-- The whole bytes of bits; what is left. -/
def outF : List Nat → List UInt8
  | a :: b :: c :: d :: e :: f :: g :: k :: r => UInt8.ofNat (byteN 0 [a, b, c, d, e, f, g, k]) :: outF r
  | _ => []
def leftF : List Nat → List Nat
  | _ :: _ :: _ :: _ :: _ :: _ :: _ :: _ :: r => leftF r
  | l => l
/-- How many signs of padding stand at the end. -/
def padF (s : List UInt8) : Nat → Nat → Nat
  | 0, p => p
  | k + 1, p => if p < s.length ∧ s[s.length - 1 - p]? = some 61 then padF s k (p + 1) else p
/-- The document's reading. -/
def refF (s : List UInt8) : Option (List UInt8) := if s.length % 4 ≠ 0 then none else
  match bitsOf (s.take (s.length - padF s 2 0)) with
  | none => none
  | some b => if (leftF b).all (fun x => x == 0) then some (outF b) else none

theorem down_len (n : Nat) : ∀ j, (down n j).length = j
  | 0 => rfl
  | j + 1 => by simp [down, down_len n j]
theorem down_two (n : Nat) : ∀ j, ∀ b ∈ down n j, b < 2
  | 0, b, h => by simp [down] at h
  | j + 1, b, h => by
    simp only [down, List.mem_cons] at h
    rcases h with rfl | h
    · exact Nat.mod_lt _ (by omega)
    · exact down_two n j b h
theorem bitsOf_two : ∀ {l : List UInt8} {b : List Nat}, bitsOf l = some b → ∀ x ∈ b, x < 2
  | [], b, h, x, hx => by simp only [bitsOf, Option.some.injEq] at h; subst h; simp at hx
  | c :: l, b, h, x, hx => by
    simp only [bitsOf] at h
    split at h
    · cases h
    · cases hb : bitsOf l with
      | none => rw [hb] at h; cases h
      | some b' =>
        rw [hb] at h
        simp only [Option.map_some, Option.some.injEq] at h
        subst h
        rcases List.mem_append.1 hx with hx | hx
        · exact down_two _ _ x hx
        · exact bitsOf_two hb x hx

theorem iop_shrD {x y : IX} {ρ : IX → AV} {h : H} {a i d : Nat} (hx : ρ x = .int .i64 a) (hy : ρ y = .int .u64 i) (hi : i ≤ 64) (hd : a / 2 ^ i = d) : iop (.bin .shr x y) ρ h = some (.val (.int .i64 ((d : Nat) : Int)) h) := by
  subst hd
  exact iop_shrI hx hy hi rfl

set_option maxHeartbeats 8000000 in
theorem bits_loop {hb : H} {n i p : Nat} {s : List UInt8} (hn : n < 64) :
    ∀ (j : Nat), j ≤ 6 → ∀ (k : Int), k = (j : Int) - 1 → ∀ (h : H) (v : AV) (acc : List Nat) (ts : List AV), Ext hb h → OwN 3 hb.n h v acc → acc.length ≤ 1000000000 + 6 - j → ts.length = 104 → getL ts 0 = some (.str s) → getL ts 4 = some (.int .i64 p) → getL ts 5 = some v → getL ts 6 = some (.int .i64 i) → getL ts 7 = some (.int .i64 n) → getL ts 8 = some (.int .i64 k) →
      ∀ (Q : Ex → St → Prop), (∀ ts' h' v', Ext hb h' → OwN 3 hb.n h' v' (acc ++ down n j) → ts'.length = 104 → getL ts' 0 = some (.str s) → getL ts' 4 = some (.int .i64 p) → getL ts' 5 = some v' → getL ts' 6 = some (.int .i64 i) → Q (.exit 4) (ts', h')) → Wp TF (.loop l14_4) (ts, h) Q := by
  intro j
  induction j with
  | zero =>
    intro hj k hk h v acc ts hx ho hl t0 g0 g4 g5 g6 g7 g8 Q hQ
    subst hk
    rw [down, List.append_nil] at hQ
    refine Wp.loop ?_
    rw [laid_eq t0 [(0, .str s), (4, .int .i64 p), (5, v), (6, .int .i64 i), (7, .int .i64 n), (8, .int .i64 (-1))] (by simp [g0, g4, g5, g6, g7, g8])]
    have m1 := ho.bq
    have k2 := ho.parts
    have m3 := hx.1
    refine Wp.seq ?_
    refine Wp.seq ?_
    refine Wp.region ?_
    refine Wo.pre 1 (by kernel_rfl) ?_
    refine Wo.pre 1 (by kernel_rfl) ?_
    refine Wo.nil ?_
    refine Wp.cond false (by kernel_rfl) ?_
    refine Wp.exit ?_
    exact hQ _ _ _ hx ho (by kernel_rfl) (by kernel_rfl) (by kernel_rfl) (by kernel_rfl) (by kernel_rfl)
  | succ j ih =>
    intro hj k hk h v acc ts hx ho hl t0 g0 g4 g5 g6 g7 g8 Q hQ
    obtain rfl : k = (j : Int) := by omega
    obtain ⟨d, hd⟩ : ∃ d, n / 2 ^ j = d := ⟨_, rfl⟩
    have hdn : d ≤ n := by rw [← hd]; exact Nat.div_le_self _ _
    have hq : ∀ ts' h' v', Ext hb h' → OwN 3 hb.n h' v' ((acc ++ [d % 2]) ++ down n j) → ts'.length = 104 → getL ts' 0 = some (.str s) → getL ts' 4 = some (.int .i64 p) → getL ts' 5 = some v' → getL ts' 6 = some (.int .i64 i) → Q (.exit 4) (ts', h') := by
      intro ts' h' v' a b
      refine hQ ts' h' v' a ?_
      rw [down, hd]
      rw [List.append_assoc] at b
      exact b
    have hl2 : (acc ++ [d % 2]).length ≤ 1000000000 + 6 - j := by simp; omega
    refine Wp.loop ?_
    rw [laid_eq t0 [(0, .str s), (4, .int .i64 p), (5, v), (6, .int .i64 i), (7, .int .i64 n), (8, .int .i64 j)] (by simp [g0, g4, g5, g6, g7, g8])]
    have hxn := hx.1
    have m1 := ho.bq
    have k2 := ho.parts
    have m3 := hx.1
    refine Wp.seq ?_
    refine Wp.seq ?_
    refine Wp.region ?_
    refine Wo.pre 1 (by kernel_rfl) ?_
    refine Wo.cmp (op := .geq) (x := IX.t 52) (y := IX.c (AV.int IntKind.i64 0)) (k := IntKind.i64) (a := ↑j) (b := 0) ((↑j : Int) ≥ (0 : Int)) (by kernel_rfl) (by kernel_rfl) (by kernel_rfl) (by kernel_rfl) (by simp) (by kernel_rfl) (fun q4 => ?_) (fun q4 => ?_)
    rotate_left
    · (exfalso; omega)
    refine Wo.nil ?_
    refine Wp.cond true (by kernel_rfl) ?_
    refine Wp.skip ?_
    refine Wp.seq ?_
    refine Wp.block ?_
    refine Wp.region ?_
    refine Wo.pre 3 (by kernel_rfl) ?_
    refine Wo.val (.int IntKind.u64 (↑j)) h (by kernel_rfl) (iop_cvIfit (k := IntKind.u64) (kk := IntKind.i64) (a := ↑j) (by kernel_rfl) (by simp only [min_u64]; omega) (by simp only [max_u64]; omega)) ?_
    refine Wo.val (.int .i64 ((d : Nat) : Int)) _ (by kernel_rfl) (iop_shrD (a := n) (i := j) (by kernel_rfl) (by kernel_rfl) (by omega) hd) ?_
    refine Wo.val (.int .i64 ((d % 2 : Nat) : Int)) _ (by kernel_rfl) (iop_and1 (a := d) (by kernel_rfl) (by kernel_rfl) (by omega)) ?_
    obtain ⟨H5, e5, P5, X5, n5⟩ := bsl_new h 3 [AV.int IntKind.i64 ↑(d % 2)] (ones_cons rfl ones_nil)
    refine Wo.val (.sl ⟨H.n h, 0, 0⟩ 1 (.ex 1)) H5 (by kernel_rfl) (e5 (fill_cons (v := AV.int IntKind.i64 ↑(d % 2)) (vs := [AV.int IntKind.i64 ↑(d % 2)]) (by kernel_rfl) rfl (by kernel_rfl) rfl)) ?_
    clear e5
    have m6 := X5.1
    have F7 := (ho.fr X5 (.inr id))
    obtain ⟨v8, H9, a10, q11, X12⟩ := app3_num (lo := hb.n) (b := h.n) (a := d % 2) P5 F7 (by first | omega | (simp; omega) | (simp; done) | assumption) (by first | omega | (simp; omega) | (simp; done) | assumption)
    refine Wo.val _ _ (by kernel_rfl) (iop_appG (v := v) (w := AV.sl { b := h.n, g := 0, o := 0 } 1 (Cp.ex 1)) (by kernel_rfl) (by kernel_rfl) rfl a10) ?_
    have m13 := q11.bq
    have k14 := q11.parts
    have m15 := X12.1
    refine Wo.pre 1 (by kernel_rfl) ?_
    refine Wo.nil ?_
    refine Wp.region ?_
    refine Wo.pre 1 (by kernel_rfl) ?_
    refine Wo.val (.int IntKind.i64 ((↑j : Int) - (1 : Int))) H9 (by kernel_rfl) (iop_arith (op := .sub) (a := ↑j) (b := 1) (by kernel_rfl) (by kernel_rfl) (by simp) (bin_sub IntKind.i64 (by simp only [min_i64]; omega) (by simp only [max_i64]; omega))) ?_
    refine Wo.pre 1 (by kernel_rfl) ?_
    refine Wo.nil ?_
    exact ih (by omega) _ rfl _ _ _ _ (((hx.fr.trans0 X5).transL X12).ext (by have d0 := m1.1.e; intro s hs; first | omega | (dsimp only at hs; omega) | (simp only [blk_nils, blk_sl] at hs ⊢; omega))) q11 hl2 (by kernel_rfl) (by kernel_rfl) (by kernel_rfl) (by kernel_rfl) (by kernel_rfl) (by kernel_rfl) (by kernel_rfl) Q hq

set_option maxHeartbeats 8000000 in
theorem letters_loop {hb : H} {p m : Nat} {s : List UInt8} (hm : m + p = s.length) (hs : s.length ≤ 2000000) :
    ∀ (l : List UInt8) (i : Nat), (s.take m).drop i = l → ∀ (h : H) (v : AV) (acc : List Nat) (ts : List AV), Ext hb h → OwN 3 hb.n h v acc → acc.length = 6 * i → i ≤ m → ts.length = 104 → getL ts 0 = some (.str s) → getL ts 4 = some (.int .i64 p) → getL ts 5 = some v → getL ts 6 = some (.int .i64 i) →
      ∀ (Q : Ex → St → Prop), (∀ ts' h' v' b, bitsOf l = some b → Ext hb h' → OwN 3 hb.n h' v' (acc ++ b) → (acc ++ b).length ≤ 6 * s.length → ts'.length = 104 → getL ts' 5 = some v' → Q (.exit 2) (ts', h')) → (∀ ts' h', bitsOf l = none → getL ts' 2 = some .nils → getL ts' 3 = some (.int .i64 5) → Q .ret (ts', h')) → Wp TF (.loop l14_5) (ts, h) Q := by
  intro l
  induction l with
  | nil =>
    intro i hi h v acc ts hx ho hl him t0 g0 g4 g5 g6 Q hQ hQ'
    have hle : m ≤ i := by
      have := congrArg List.length hi
      simp only [List.length_drop, List.length_take, List.length_nil] at this
      omega
    have hq : ∀ ts' h' v', Ext hb h' → OwN 3 hb.n h' v' acc → ts'.length = 104 → getL ts' 5 = some v' → Q (.exit 2) (ts', h') := by
      intro ts' h' v' a b c d
      refine hQ ts' h' v' [] rfl a (by rw [List.append_nil]; exact b) ?_ c d
      rw [List.append_nil, hl]
      omega
    refine Wp.loop ?_
    rw [laid_eq t0 [(0, .str s), (4, .int .i64 p), (5, v), (6, .int .i64 i)] (by simp [g0, g4, g5, g6])]
    have m1 := ho.bq
    have k2 := ho.parts
    have m3 := hx.1
    refine Wp.seq ?_
    refine Wp.seq ?_
    refine Wp.region ?_
    refine Wo.pre 4 (by kernel_rfl) ?_
    refine Wo.val (.int IntKind.i64 ((↑s.length : Int) - (↑p : Int))) h (by kernel_rfl) (iop_arith (op := .sub) (a := ↑s.length) (b := ↑p) (by kernel_rfl) (by kernel_rfl) (by simp) (bin_sub IntKind.i64 (by simp only [min_i64]; omega) (by simp only [max_i64]; omega))) ?_
    refine Wo.cmp (op := .lss) (x := IX.t 38) (y := IX.t 42) (k := IntKind.i64) (a := ↑i) (b := ↑s.length - ↑p) ((↑i : Int) < (↑s.length - ↑p : Int)) (by kernel_rfl) (by kernel_rfl) (by kernel_rfl) (by kernel_rfl) (by simp) (by kernel_rfl) (fun q4 => ?_) (fun q4 => ?_)
    · (exfalso; omega)
    refine Wo.nil ?_
    refine Wp.cond false (by kernel_rfl) ?_
    refine Wp.exit ?_
    exact hq _ _ _ hx ho (by kernel_rfl) (by kernel_rfl)
  | cons c l ih =>
    intro i hi h v acc ts hx ho hl him t0 g0 g4 g5 g6 Q hQ hQ'
    have hlt : i < m := by
      have := congrArg List.length hi
      simp only [List.length_drop, List.length_take, List.length_cons] at this
      omega
    have hc : s[i]? = some c := by
      have e := congrArg (fun z => z[0]?) hi
      simp only [List.getElem?_drop, Nat.add_zero, List.getElem?_cons_zero] at e
      rw [List.getElem?_take, if_pos hlt] at e
      exact e
    have hi2 : (s.take m).drop (i + 1) = l := by
      rw [← List.drop_drop, hi]
      rfl
    by_cases h0 : Lib.indexByte Ba.table c < 0
    · have ha : bitsOf (c :: l) = none := by simp only [bitsOf, if_pos h0]
      refine Wp.loop ?_
      rw [laid_eq t0 [(0, .str s), (4, .int .i64 p), (5, v), (6, .int .i64 i)] (by simp [g0, g4, g5, g6])]
      have m1 := ho.bq
      have k2 := ho.parts
      have m3 := hx.1
      refine Wp.seq ?_
      refine Wp.seq ?_
      refine Wp.region ?_
      refine Wo.pre 4 (by kernel_rfl) ?_
      refine Wo.val (.int IntKind.i64 ((↑s.length : Int) - (↑p : Int))) h (by kernel_rfl) (iop_arith (op := .sub) (a := ↑s.length) (b := ↑p) (by kernel_rfl) (by kernel_rfl) (by simp) (bin_sub IntKind.i64 (by simp only [min_i64]; omega) (by simp only [max_i64]; omega))) ?_
      refine Wo.cmp (op := .lss) (x := IX.t 38) (y := IX.t 42) (k := IntKind.i64) (a := ↑i) (b := ↑s.length - ↑p) ((↑i : Int) < (↑s.length - ↑p : Int)) (by kernel_rfl) (by kernel_rfl) (by kernel_rfl) (by kernel_rfl) (by simp) (by kernel_rfl) (fun q4 => ?_) (fun q4 => ?_)
      rotate_left
      · (exfalso; omega)
      refine Wo.nil ?_
      refine Wp.cond true (by kernel_rfl) ?_
      refine Wp.skip ?_
      refine Wp.seq ?_
      refine Wp.block ?_
      refine Wp.seq ?_
      refine Wp.region ?_
      refine Wo.pre 2 (by kernel_rfl) ?_
      refine Wo.val (.int .u8 c.toNat) _ (by kernel_rfl) (iop_ixS (s := s) (i := i) (by kernel_rfl) (by kernel_rfl) hc) ?_
      have c5 := number_run (h) (c)
      refine Wo.call (by kernel_rfl) (by kernel_rfl) c5 ?_
      clear c5
      refine Wo.pre 1 (by kernel_rfl) ?_
      refine Wo.nil ?_
      refine Wp.seq ?_
      refine Wp.seq ?_
      refine Wp.region ?_
      refine Wo.pre 1 (by kernel_rfl) ?_
      refine Wo.cmp (op := .lss) (x := IX.t 50) (y := IX.c (AV.int IntKind.i64 0)) (k := IntKind.i64) (a := Lib.indexByte Ba.table c) (b := 0) ((Lib.indexByte Ba.table c : Int) < (0 : Int)) (by kernel_rfl) (by kernel_rfl) (by kernel_rfl) (by kernel_rfl) (by simp) (by kernel_rfl) (fun q6 => ?_) (fun q6 => ?_)
      rotate_left
      · (exfalso; omega)
      refine Wo.nil ?_
      refine Wp.cond true (by kernel_rfl) ?_
      refine Wp.seq ?_
      refine Wp.region ?_
      refine Wo.pre 2 (by kernel_rfl) ?_
      refine Wo.nil ?_
      refine Wp.ret ?_
      exact hQ' _ _ ha (by kernel_rfl) (by kernel_rfl)
    · obtain ⟨k, hk⟩ : ∃ k : Nat, Lib.indexByte Ba.table c = (k : Int) := ⟨(Lib.indexByte Ba.table c).toNat, by omega⟩
      have hk64 : k < 64 := by have := index_lt c; omega
      have ha : bitsOf (c :: l) = (bitsOf l).map fun b => down k 6 ++ b := by rw [bitsOf, if_neg h0, hk, Int.toNat_natCast]
      have hr : Runs TF 35 [.int .u8 c.toNat] h (.int .i64 ((k : Nat) : Int)) h := by rw [← hk]; exact number_run h c
      have hq1 : ∀ ts' h' v' b, bitsOf l = some b → Ext hb h' → OwN 3 hb.n h' v' ((acc ++ down k 6) ++ b) → ((acc ++ down k 6) ++ b).length ≤ 6 * s.length → ts'.length = 104 → getL ts' 5 = some v' → Q (.exit 2) (ts', h') := by
        intro ts' h' v' b e1 e2 e3 e4 e5 e6
        rw [List.append_assoc] at e3 e4
        exact hQ ts' h' v' _ (by rw [ha, e1]; rfl) e2 e3 e4 e5 e6
      have hq2 : ∀ ts' h', bitsOf l = none → getL ts' 2 = some .nils → getL ts' 3 = some (.int .i64 5) → Q .ret (ts', h') := by
        intro ts' h' e1
        exact hQ' ts' h' (by rw [ha, e1]; rfl)
      have hl2 : (acc ++ down k 6).length = 6 * (i + 1) := by rw [List.length_append, down_len, hl]; omega
      refine Wp.loop ?_
      rw [laid_eq t0 [(0, .str s), (4, .int .i64 p), (5, v), (6, .int .i64 i)] (by simp [g0, g4, g5, g6])]
      have m1 := ho.bq
      have k2 := ho.parts
      have m3 := hx.1
      refine Wp.seq ?_
      refine Wp.seq ?_
      refine Wp.region ?_
      refine Wo.pre 4 (by kernel_rfl) ?_
      refine Wo.val (.int IntKind.i64 ((↑s.length : Int) - (↑p : Int))) h (by kernel_rfl) (iop_arith (op := .sub) (a := ↑s.length) (b := ↑p) (by kernel_rfl) (by kernel_rfl) (by simp) (bin_sub IntKind.i64 (by simp only [min_i64]; omega) (by simp only [max_i64]; omega))) ?_
      refine Wo.cmp (op := .lss) (x := IX.t 38) (y := IX.t 42) (k := IntKind.i64) (a := ↑i) (b := ↑s.length - ↑p) ((↑i : Int) < (↑s.length - ↑p : Int)) (by kernel_rfl) (by kernel_rfl) (by kernel_rfl) (by kernel_rfl) (by simp) (by kernel_rfl) (fun q4 => ?_) (fun q4 => ?_)
      rotate_left
      · (exfalso; omega)
      refine Wo.nil ?_
      refine Wp.cond true (by kernel_rfl) ?_
      refine Wp.skip ?_
      refine Wp.seq ?_
      refine Wp.block ?_
      refine Wp.seq ?_
      refine Wp.region ?_
      refine Wo.pre 2 (by kernel_rfl) ?_
      refine Wo.val (.int .u8 c.toNat) _ (by kernel_rfl) (iop_ixS (s := s) (i := i) (by kernel_rfl) (by kernel_rfl) hc) ?_
      refine Wo.call (by kernel_rfl) (by kernel_rfl) hr ?_
      clear hr
      refine Wo.pre 1 (by kernel_rfl) ?_
      refine Wo.nil ?_
      refine Wp.seq ?_
      refine Wp.seq ?_
      refine Wp.region ?_
      refine Wo.pre 1 (by kernel_rfl) ?_
      refine Wo.cmp (op := .lss) (x := IX.t 50) (y := IX.c (AV.int IntKind.i64 0)) (k := IntKind.i64) (a := ↑k) (b := 0) ((↑k : Int) < (0 : Int)) (by kernel_rfl) (by kernel_rfl) (by kernel_rfl) (by kernel_rfl) (by simp) (by kernel_rfl) (fun q5 => ?_) (fun q5 => ?_)
      · (exfalso; omega)
      refine Wo.nil ?_
      refine Wp.cond false (by kernel_rfl) ?_
      refine Wp.skip ?_
      refine Wp.seq ?_
      refine Wp.region ?_
      refine Wo.pre 1 (by kernel_rfl) ?_
      refine Wo.nil ?_
      refine Wp.block ?_
      refine bits_loop (s := s) (p := p) (i := i) hk64 6 (by omega) 5 rfl h v acc _ hx ho (by omega) (by kernel_rfl) (by kernel_rfl) (by kernel_rfl) (by kernel_rfl) (by kernel_rfl) (by kernel_rfl) (by kernel_rfl) _ ?_
      intro ts2 h2 v2 x2 o2 u0 u1 u4 u5 u6
      show Wp TF _ _ _
      rw [laid_eq u0 [(0, .str s), (4, .int .i64 p), (5, v2), (6, .int .i64 i)] (by simp [u1, u4, u5, u6])]
      have m1 := ho.bq
      have k2 := ho.parts
      have m3 := o2.bq
      have k4 := o2.parts
      have m5 := hx.1
      have m6 := x2.1
      refine Wp.region ?_
      refine Wo.pre 1 (by kernel_rfl) ?_
      refine Wo.val (.int IntKind.i64 ((↑i : Int) + (1 : Int))) h2 (by kernel_rfl) (iop_arith (op := .add) (a := ↑i) (b := 1) (by kernel_rfl) (by kernel_rfl) (by simp) (bin_add IntKind.i64 (by simp only [min_i64]; omega) (by simp only [max_i64]; omega))) ?_
      refine Wo.pre 1 (by kernel_rfl) ?_
      refine Wo.nil ?_
      exact ih (i + 1) hi2 h2 v2 _ _ x2 o2 hl2 (by omega) (by kernel_rfl) (by kernel_rfl) (by kernel_rfl) (by kernel_rfl) (by kernel_rfl) Q hq1 hq2

theorem outF_step : ∀ (d r : List Nat), d.length = 8 → outF (d ++ r) = UInt8.ofNat (byteN 0 d) :: outF r ∧ leftF (d ++ r) = leftF r := by
  intro d r hd
  match d, hd with
  | [_, _, _, _, _, _, _, _], _ => exact ⟨rfl, rfl⟩
theorem outF_short : ∀ (r : List Nat), r.length < 8 → outF r = [] ∧ leftF r = r := by
  intro r hr
  match r, hr with
  | [], _ => exact ⟨rfl, rfl⟩
  | [_], _ => exact ⟨rfl, rfl⟩
  | [_, _], _ => exact ⟨rfl, rfl⟩
  | [_, _, _], _ => exact ⟨rfl, rfl⟩
  | [_, _, _, _], _ => exact ⟨rfl, rfl⟩
  | [_, _, _, _, _], _ => exact ⟨rfl, rfl⟩
  | [_, _, _, _, _, _], _ => exact ⟨rfl, rfl⟩
  | [_, _, _, _, _, _, _], _ => exact ⟨rfl, rfl⟩
  | _ :: _ :: _ :: _ :: _ :: _ :: _ :: _ :: _, hr => exact absurd hr (by simp)
theorem eight {l : List Nat} (h : 8 ≤ l.length) : ∃ d r, l = d ++ r ∧ d.length = 8 := ⟨l.take 8, l.drop 8, (List.take_append_drop 8 l).symm, by rw [List.length_take]; omega⟩

set_option maxHeartbeats 8000000 in
theorem fold_loop {h : H} {b g at_ : Nat} {bits : List Nat} {w : AV} (p : Pt h b (.cells g 3 (numAV bits) 0 false)) (hl : bits.length ≤ 100000000) :
    ∀ (r : List Nat) (k x : Nat), k + r.length = 8 → (∀ j c, r[j]? = some c → bits[at_ + (k + j)]? = some c) → (∀ c ∈ r, c < 2) → x < 2 ^ k → ∀ (ts : List AV), ts.length = 104 → getL ts 5 = some (.sl ⟨b, g, 0⟩ bits.length (.op 1)) → getL ts 9 = some w → getL ts 10 = some (.int .i64 at_) → getL ts 11 = some (.int .i64 x) → getL ts 12 = some (.int .i64 k) →
      ∀ (Q : Ex → St → Prop), (∀ ts', ts'.length = 104 → getL ts' 5 = some (.sl ⟨b, g, 0⟩ bits.length (.op 1)) → getL ts' 9 = some w → getL ts' 10 = some (.int .i64 at_) → getL ts' 11 = some (.int .i64 ((byteN x r : Nat) : Int)) → byteN x r < 256 → Q (.exit 8) (ts', h)) → Wp TF (.loop l14_2) (ts, h) Q := by
  intro r
  induction r with
  | nil =>
    intro k x hk hr h2 hx ts t0 g5 g9 g10 g11 g12 Q hQ
    obtain rfl : k = 8 := by simpa using hk
    have hb : byteN x [] < 256 := hx
    refine Wp.loop ?_
    rw [laid_eq t0 [(5, .sl ⟨b, g, 0⟩ bits.length (.op 1)), (9, w), (10, .int .i64 at_), (11, .int .i64 x), (12, .int .i64 8)] (by simp [g5, g9, g10, g11, g12])]
    have m1 := p.1
    refine Wp.seq ?_
    refine Wp.seq ?_
    refine Wp.region ?_
    refine Wo.pre 1 (by kernel_rfl) ?_
    refine Wo.pre 1 (by kernel_rfl) ?_
    refine Wo.nil ?_
    refine Wp.cond false (by kernel_rfl) ?_
    refine Wp.exit ?_
    exact hQ _ (by kernel_rfl) (by kernel_rfl) (by kernel_rfl) (by kernel_rfl) (by kernel_rfl) hb
  | cons c r ih =>
    intro k x hk hr h2 hx ts t0 g5 g9 g10 g11 g12 Q hQ
    rw [List.length_cons] at hk
    have hc : bits[at_ + k]? = some c := hr 0 c rfl
    have hlt : at_ + k < bits.length := by
      rcases Nat.lt_or_ge (at_ + k) bits.length with q | q
      · exact q
      · rw [List.getElem?_eq_none q] at hc; cases hc
    have hc2 := h2 c (by simp)
    have hx2 : 2 * x + c < 2 ^ (k + 1) := by rw [Nat.pow_succ]; omega
    have hx256 : x < 256 := Nat.lt_of_lt_of_le hx (Nat.pow_le_pow_right (n := 2) (by omega) (show k ≤ 8 by omega))
    have hr2 : ∀ j d, r[j]? = some d → bits[at_ + (k + 1 + j)]? = some d := by
      intro j d e
      have := hr (j + 1) d (by simpa using e)
      rw [show k + 1 + j = k + (j + 1) by omega]
      exact this
    have hq : ∀ ts', ts'.length = 104 → getL ts' 5 = some (.sl ⟨b, g, 0⟩ bits.length (.op 1)) → getL ts' 9 = some w → getL ts' 10 = some (.int .i64 at_) → getL ts' 11 = some (.int .i64 ((byteN (2 * x + c) r : Nat) : Int)) → byteN (2 * x + c) r < 256 → Q (.exit 8) (ts', h) := hQ
    refine Wp.loop ?_
    rw [laid_eq t0 [(5, .sl ⟨b, g, 0⟩ bits.length (.op 1)), (9, w), (10, .int .i64 at_), (11, .int .i64 x), (12, .int .i64 k)] (by simp [g5, g9, g10, g11, g12])]
    have m1 := p.1
    refine Wp.seq ?_
    refine Wp.seq ?_
    refine Wp.region ?_
    refine Wo.pre 1 (by kernel_rfl) ?_
    refine Wo.cmp (op := .lss) (x := IX.t 71) (y := IX.c (AV.int IntKind.i64 8)) (k := IntKind.i64) (a := ↑k) (b := 8) ((↑k : Int) < (8 : Int)) (by kernel_rfl) (by kernel_rfl) (by kernel_rfl) (by kernel_rfl) (by simp) (by kernel_rfl) (fun q2 => ?_) (fun q2 => ?_)
    rotate_left
    · (exfalso; omega)
    refine Wo.nil ?_
    refine Wp.cond true (by kernel_rfl) ?_
    refine Wp.skip ?_
    refine Wp.seq ?_
    refine Wp.block ?_
    refine Wp.region ?_
    refine Wo.pre 1 (by kernel_rfl) ?_
    refine Wo.val (.int .i64 ((2 * x : Nat) : Int)) _ (by kernel_rfl) (iop_mul2 (a := x) (by kernel_rfl) (by kernel_rfl) (by omega)) ?_
    refine Wo.pre 3 (by kernel_rfl) ?_
    refine Wo.val (.int IntKind.i64 ((↑at_ : Int) + (↑k : Int))) h (by kernel_rfl) (iop_arith (op := .add) (a := ↑at_) (b := ↑k) (by kernel_rfl) (by kernel_rfl) (by simp) (bin_add IntKind.i64 (by simp only [min_i64]; omega) (by simp only [max_i64]; omega))) ?_
    refine Wo.val (.ptr ⟨({ b := b, g := g, o := 0 } : AA).b, ({ b := b, g := g, o := 0 } : AA).g, ({ b := b, g := g, o := 0 } : AA).o + ((at_) + (k)) * 1⟩) h (by kernel_rfl) (iop_iaN (a := { b := b, g := g, o := 0 }) (n := bits.length) (c := Cp.op 1) (ie := (↑at_ + ↑k : Int)) (i := ((at_) + (k))) (by kernel_rfl) (by kernel_rfl) (by omega) (by first | omega | (simp; omega))) ?_
    refine Wo.val (.int .i64 ((c : Nat) : Int)) _ (by kernel_rfl) (iop_ldE (j := at_ + k) p (by kernel_rfl) hc) ?_
    refine Wo.val (.int .i64 ((2 * x + c : Nat) : Int)) _ (by kernel_rfl) (iop_addN (a := 2 * x) (b := c) (by kernel_rfl) (by kernel_rfl) (by omega)) ?_
    refine Wo.pre 1 (by kernel_rfl) ?_
    refine Wo.nil ?_
    refine Wp.region ?_
    refine Wo.pre 1 (by kernel_rfl) ?_
    refine Wo.val (.int IntKind.i64 ((↑k : Int) + (1 : Int))) h (by kernel_rfl) (iop_arith (op := .add) (a := ↑k) (b := 1) (by kernel_rfl) (by kernel_rfl) (by simp) (bin_add IntKind.i64 (by simp only [min_i64]; omega) (by simp only [max_i64]; omega))) ?_
    refine Wo.pre 1 (by kernel_rfl) ?_
    refine Wo.nil ?_
    exact ih (k + 1) (2 * x + c) (by omega) hr2 (fun d hd => h2 d (List.mem_cons_of_mem _ hd)) hx2 _ (by kernel_rfl) (by kernel_rfl) (by kernel_rfl) (by kernel_rfl) (by kernel_rfl) (by kernel_rfl) Q hq

theorem iop_cv8N {x : IX} {ρ : IX → AV} {h : H} {i : Nat} (hx : ρ x = .int .i64 i) (hi : i < 256) : iop (.cvI .u8 x) ρ h = some (.val (.int .u8 ((UInt8.ofNat i).toNat : Int)) h) := by
  simp only [iop, hx, asI, Option.map_some]
  congr 3

set_option maxHeartbeats 8000000 in
theorem out_loop {hb : H} {b g lo : Nat} {bits : List Nat} (hl : bits.length ≤ 100000000) (hb2 : ∀ x ∈ bits, x < 2) (hblo : b < lo) (hlo : hb.n ≤ lo) :
    ∀ (m : Nat) (r : List Nat), r.length ≤ m → ∀ (at_ : Nat), bits.drop at_ = r → at_ ≤ bits.length → ∀ (h : H) (w : AV) (acc : List UInt8) (ts : List AV), Ext hb h → Pt h b (.cells g 3 (numAV bits) 0 false) → Ow lo h w acc → lo ≤ h.n → acc.length * 8 = at_ → ts.length = 104 → getL ts 5 = some (.sl ⟨b, g, 0⟩ bits.length (.op 1)) → getL ts 9 = some w → getL ts 10 = some (.int .i64 at_) →
      ∀ (Q : Ex → St → Prop), (∀ ts' h' w', Ext hb h' → Pt h' b (.cells g 3 (numAV bits) 0 false) → Ow lo h' w' (acc ++ outF r) → ts'.length = 104 → getL ts' 5 = some (.sl ⟨b, g, 0⟩ bits.length (.op 1)) → getL ts' 9 = some w' → Q (.exit 6) (ts', h')) → Wp TF (.loop l14_3) (ts, h) Q := by
  intro m
  induction m with
  | zero =>
    intro r hr at_ hd hat h w acc ts hx p ho hln ha t0 g5 g9 g10 Q hQ
    obtain rfl : r = [] := List.eq_nil_of_length_eq_zero (by omega)
    rw [(outF_short [] (by simp)).1, List.append_nil] at hQ
    have hle : bits.length ≤ at_ := by
      have := congrArg List.length hd
      simp only [List.length_drop, List.length_nil] at this
      omega
    refine Wp.loop ?_
    rw [laid_eq t0 [(5, .sl ⟨b, g, 0⟩ bits.length (.op 1)), (9, w), (10, .int .i64 at_)] (by simp [g5, g9, g10])]
    have m1 := p.1
    have m2 := ho.bq
    have k3 := ho.parts
    have m4 := hx.1
    refine Wp.seq ?_
    refine Wp.seq ?_
    refine Wp.region ?_
    refine Wo.pre 1 (by kernel_rfl) ?_
    refine Wo.val (.int IntKind.i64 ((↑at_ : Int) + (8 : Int))) h (by kernel_rfl) (iop_arith (op := .add) (a := ↑at_) (b := 8) (by kernel_rfl) (by kernel_rfl) (by simp) (bin_add IntKind.i64 (by simp only [min_i64]; omega) (by simp only [max_i64]; omega))) ?_
    refine Wo.pre 2 (by kernel_rfl) ?_
    refine Wo.cmp (op := .leq) (x := IX.t 65) (y := IX.t 67) (k := IntKind.i64) (a := ↑at_ + 8) (b := ↑bits.length) ((↑at_ + 8 : Int) ≤ (↑bits.length : Int)) (by kernel_rfl) (by kernel_rfl) (by kernel_rfl) (by kernel_rfl) (by simp) (by kernel_rfl) (fun q5 => ?_) (fun q5 => ?_)
    · (exfalso; omega)
    refine Wo.nil ?_
    refine Wp.cond false (by kernel_rfl) ?_
    refine Wp.exit ?_
    exact hQ _ _ _ hx p ho (by kernel_rfl) (by kernel_rfl) (by kernel_rfl)
  | succ m ih =>
    intro r hr at_ hd hat h w acc ts hx p ho hln ha t0 g5 g9 g10 Q hQ
    have hrl : r.length = bits.length - at_ := by rw [← hd, List.length_drop]
    have hmx : 200000000000000 = maxRow := rfl
    by_cases h8 : 8 ≤ r.length
    · obtain ⟨d, r', rfl, hd8⟩ := eight h8
      have e8 := (outF_step d r' hd8).1
      rw [List.length_append] at hrl hr
      have hd2 : bits.drop (at_ + 8) = r' := by
        rw [← List.drop_drop, hd, ← hd8, List.drop_left']
        rfl
      have hat2 : at_ + 8 ≤ bits.length := by omega
      have hdb : ∀ j c, d[j]? = some c → bits[at_ + (0 + j)]? = some c := by
        intro j c e
        have e2 : (bits.drop at_)[j]? = some c := by
          rw [hd, List.getElem?_append_left]
          · exact e
          · rcases Nat.lt_or_ge j d.length with q | q
            · exact q
            · rw [List.getElem?_eq_none q] at e; cases e
        rw [List.getElem?_drop] at e2
        rw [Nat.zero_add]
        exact e2
      have hdm : ∀ c ∈ d, c < 2 := fun c hc => hb2 c (List.mem_of_mem_drop (i := at_) (by rw [hd]; exact List.mem_append_left _ hc))
      have hq : ∀ ts' h' w', Ext hb h' → Pt h' b (.cells g 3 (numAV bits) 0 false) → Ow lo h' w' ((acc ++ [UInt8.ofNat (byteN 0 d)]) ++ outF r') → ts'.length = 104 → getL ts' 5 = some (.sl ⟨b, g, 0⟩ bits.length (.op 1)) → getL ts' 9 = some w' → Q (.exit 6) (ts', h') := by
        intro ts' h' w' a1 a2 a3
        rw [List.append_assoc] at a3
        exact hQ ts' h' w' a1 a2 (by rw [e8]; exact a3)
      have hl8 : (acc ++ [UInt8.ofNat (byteN 0 d)]).length * 8 = at_ + 8 := by simp; omega
      refine Wp.loop ?_
      rw [laid_eq t0 [(5, .sl ⟨b, g, 0⟩ bits.length (.op 1)), (9, w), (10, .int .i64 at_)] (by simp [g5, g9, g10])]
      have m1 := p.1
      have m2 := ho.bq
      have k3 := ho.parts
      have m4 := hx.1
      refine Wp.seq ?_
      refine Wp.seq ?_
      refine Wp.region ?_
      refine Wo.pre 1 (by kernel_rfl) ?_
      refine Wo.val (.int IntKind.i64 ((↑at_ : Int) + (8 : Int))) h (by kernel_rfl) (iop_arith (op := .add) (a := ↑at_) (b := 8) (by kernel_rfl) (by kernel_rfl) (by simp) (bin_add IntKind.i64 (by simp only [min_i64]; omega) (by simp only [max_i64]; omega))) ?_
      refine Wo.pre 2 (by kernel_rfl) ?_
      refine Wo.cmp (op := .leq) (x := IX.t 65) (y := IX.t 67) (k := IntKind.i64) (a := ↑at_ + 8) (b := ↑bits.length) ((↑at_ + 8 : Int) ≤ (↑bits.length : Int)) (by kernel_rfl) (by kernel_rfl) (by kernel_rfl) (by kernel_rfl) (by simp) (by kernel_rfl) (fun q5 => ?_) (fun q5 => ?_)
      rotate_left
      · (exfalso; omega)
      refine Wo.nil ?_
      refine Wp.cond true (by kernel_rfl) ?_
      refine Wp.skip ?_
      refine Wp.seq ?_
      refine Wp.block ?_
      refine Wp.seq ?_
      refine Wp.region ?_
      refine Wo.pre 1 (by kernel_rfl) ?_
      refine Wo.nil ?_
      refine Wp.seq ?_
      refine Wp.seq ?_
      refine Wp.region ?_
      refine Wo.pre 1 (by kernel_rfl) ?_
      refine Wo.nil ?_
      refine Wp.block ?_
      refine fold_loop (at_ := at_) (w := w) p hl d 0 0 (by omega) hdb hdm (by decide) _ (by kernel_rfl) (by kernel_rfl) (by kernel_rfl) (by kernel_rfl) (by kernel_rfl) (by kernel_rfl) _ ?_
      intro ts2 u0 u5 u9 u10 u11 ub
      show Wp TF _ _ _
      rw [laid_eq u0 [(5, .sl ⟨b, g, 0⟩ bits.length (.op 1)), (9, w), (10, .int .i64 at_), (11, .int .i64 ((byteN 0 d : Nat) : Int))] (by simp [u5, u9, u10, u11])]
      obtain ⟨z, hz⟩ : ∃ z, z = byteN 0 d := ⟨_, rfl⟩
      rw [← hz] at ub hq hl8 ⊢
      have hxn := hx.1
      have m1 := p.1
      have m2 := ho.bq
      have k3 := ho.parts
      have m4 := hx.1
      refine Wp.region ?_
      refine Wo.pre 2 (by kernel_rfl) ?_
      refine Wo.val (.int .u8 ((UInt8.ofNat z).toNat : Int)) _ (by kernel_rfl) (iop_cv8N (i := z) (by kernel_rfl) ub) ?_
      (refine Wo.lit1 (UInt8.ofNat z) rfl (by kernel_rfl) (by kernel_rfl) (fun Ha Xa Oa => ?_); have na := Xa.1; have qa := Oa.bq; have pa := Oa.parts)
      have F5 := (ho.fr Xa (.inr id))
      obtain ⟨v6, H7, a8, q9, X10, q11⟩ := Ow.appF (lo := lo) F5 Oa.bs (by first | omega | (simp; omega) | (simp; done) | assumption) (by first | omega | (simp; omega) | (simp; done) | assumption)
      refine Wo.val _ _ (by kernel_rfl) (iop_appG (v := w) (w := AV.sl { b := h.n, g := 0, o := 0 } 1 (Cp.ex 1)) (by kernel_rfl) (by kernel_rfl) rfl a8) ?_
      have m12 := q9.bq
      have k13 := q9.parts
      have m14 := X10.1
      refine Wo.pre 1 (by kernel_rfl) ?_
      refine Wo.nil ?_
      refine Wp.region ?_
      refine Wo.pre 1 (by kernel_rfl) ?_
      refine Wo.val (.int IntKind.i64 ((↑at_ : Int) + (8 : Int))) H7 (by kernel_rfl) (iop_arith (op := .add) (a := ↑at_) (b := 8) (by kernel_rfl) (by kernel_rfl) (by simp) (bin_add IntKind.i64 (by simp only [min_i64]; omega) (by simp only [max_i64]; omega))) ?_
      refine Wo.pre 1 (by kernel_rfl) ?_
      refine Wo.nil ?_
      exact ih r' (by omega) (at_ + 8) hd2 hat2 _ _ (acc ++ [UInt8.ofNat z]) _ (((hx.fr.trans0 Xa).transL X10).ext (by have d0 := m2.1.e; intro s hs; first | omega | (dsimp only at hs; omega) | (simp only [blk_nils, blk_sl] at hs ⊢; omega))) (p.fr (Xa.transL X10) (by have d0 := m2.1.e; (first | omega | (intro s hs; omega) | (dsimp only; omega) | (intro s hs; dsimp only at hs; omega) | (simp only [blk_nils, blk_sl]; omega) | (intro s hs; simp only [blk_nils, blk_sl] at hs ⊢; omega) | (simp; done)))) q9 (by omega) hl8 (by kernel_rfl) (by kernel_rfl) (by kernel_rfl) (by kernel_rfl) Q hq
    · rw [(outF_short r (by omega)).1, List.append_nil] at hQ
      refine Wp.loop ?_
      rw [laid_eq t0 [(5, .sl ⟨b, g, 0⟩ bits.length (.op 1)), (9, w), (10, .int .i64 at_)] (by simp [g5, g9, g10])]
      have m1 := p.1
      have m2 := ho.bq
      have k3 := ho.parts
      have m4 := hx.1
      refine Wp.seq ?_
      refine Wp.seq ?_
      refine Wp.region ?_
      refine Wo.pre 1 (by kernel_rfl) ?_
      refine Wo.val (.int IntKind.i64 ((↑at_ : Int) + (8 : Int))) h (by kernel_rfl) (iop_arith (op := .add) (a := ↑at_) (b := 8) (by kernel_rfl) (by kernel_rfl) (by simp) (bin_add IntKind.i64 (by simp only [min_i64]; omega) (by simp only [max_i64]; omega))) ?_
      refine Wo.pre 2 (by kernel_rfl) ?_
      refine Wo.cmp (op := .leq) (x := IX.t 65) (y := IX.t 67) (k := IntKind.i64) (a := ↑at_ + 8) (b := ↑bits.length) ((↑at_ + 8 : Int) ≤ (↑bits.length : Int)) (by kernel_rfl) (by kernel_rfl) (by kernel_rfl) (by kernel_rfl) (by simp) (by kernel_rfl) (fun q5 => ?_) (fun q5 => ?_)
      · (exfalso; omega)
      refine Wo.nil ?_
      refine Wp.cond false (by kernel_rfl) ?_
      refine Wp.exit ?_
      exact hQ _ _ _ hx p ho (by kernel_rfl) (by kernel_rfl) (by kernel_rfl)

set_option maxHeartbeats 8000000 in
theorem zero_loop {h : H} {b g : Nat} {bits : List Nat} {w : AV} (p : Pt h b (.cells g 3 (numAV bits) 0 false)) (hl : bits.length ≤ 100000000) :
    ∀ (r : List Nat) (at_ : Nat), bits.drop at_ = r → at_ ≤ bits.length → ∀ (ts : List AV), ts.length = 104 → getL ts 5 = some (.sl ⟨b, g, 0⟩ bits.length (.op 1)) → getL ts 9 = some w → getL ts 13 = some (.int .i64 at_) →
      ∀ (Q : Ex → St → Prop), (∀ ts', r.all (fun x => x == 0) = true → ts'.length = 104 → getL ts' 9 = some w → Q (.exit 10) (ts', h)) → (∀ ts', r.all (fun x => x == 0) = false → getL ts' 2 = some .nils → getL ts' 3 = some (.int .i64 5) → Q .ret (ts', h)) → Wp TF (.loop l14_1) (ts, h) Q := by
  intro r
  induction r with
  | nil =>
    intro at_ hd hat ts t0 g5 g9 g13 Q hQ hQ'
    have hle : bits.length ≤ at_ := by
      have := congrArg List.length hd
      simp only [List.length_drop, List.length_nil] at this
      omega
    refine Wp.loop ?_
    rw [laid_eq t0 [(5, .sl ⟨b, g, 0⟩ bits.length (.op 1)), (9, w), (13, .int .i64 at_)] (by simp [g5, g9, g13])]
    have m1 := p.1
    refine Wp.seq ?_
    refine Wp.seq ?_
    refine Wp.region ?_
    refine Wo.pre 3 (by kernel_rfl) ?_
    refine Wo.cmp (op := .lss) (x := IX.t 92) (y := IX.t 94) (k := IntKind.i64) (a := ↑at_) (b := ↑bits.length) ((↑at_ : Int) < (↑bits.length : Int)) (by kernel_rfl) (by kernel_rfl) (by kernel_rfl) (by kernel_rfl) (by simp) (by kernel_rfl) (fun q2 => ?_) (fun q2 => ?_)
    · (exfalso; omega)
    refine Wo.nil ?_
    refine Wp.cond false (by kernel_rfl) ?_
    refine Wp.exit ?_
    exact hQ _ rfl (by kernel_rfl) (by kernel_rfl)
  | cons c r ih =>
    intro at_ hd hat ts t0 g5 g9 g13 Q hQ hQ'
    have hlt : at_ < bits.length := by
      have := congrArg List.length hd
      simp only [List.length_drop, List.length_cons] at this
      omega
    have hc : bits[at_]? = some c := by
      have e := congrArg (fun z => z[0]?) hd
      simp only [List.getElem?_drop, Nat.add_zero, List.getElem?_cons_zero] at e
      exact e
    have hd2 : bits.drop (at_ + 1) = r := by
      rw [← List.drop_drop, hd]
      rfl
    refine Wp.loop ?_
    rw [laid_eq t0 [(5, .sl ⟨b, g, 0⟩ bits.length (.op 1)), (9, w), (13, .int .i64 at_)] (by simp [g5, g9, g13])]
    by_cases h0 : c = 0
    · have hq : ∀ ts', r.all (fun x => x == 0) = true → ts'.length = 104 → getL ts' 9 = some w → Q (.exit 10) (ts', h) := fun ts' e => hQ ts' (by rw [List.all_cons, e, h0]; rfl)
      have hq' : ∀ ts', r.all (fun x => x == 0) = false → getL ts' 2 = some .nils → getL ts' 3 = some (.int .i64 5) → Q .ret (ts', h) := fun ts' e => hQ' ts' (by rw [List.all_cons, e, h0]; rfl)
      have m1 := p.1
      refine Wp.seq ?_
      refine Wp.seq ?_
      refine Wp.region ?_
      refine Wo.pre 3 (by kernel_rfl) ?_
      refine Wo.cmp (op := .lss) (x := IX.t 92) (y := IX.t 94) (k := IntKind.i64) (a := ↑at_) (b := ↑bits.length) ((↑at_ : Int) < (↑bits.length : Int)) (by kernel_rfl) (by kernel_rfl) (by kernel_rfl) (by kernel_rfl) (by simp) (by kernel_rfl) (fun q2 => ?_) (fun q2 => ?_)
      rotate_left
      · (exfalso; omega)
      refine Wo.nil ?_
      refine Wp.cond true (by kernel_rfl) ?_
      refine Wp.skip ?_
      refine Wp.seq ?_
      refine Wp.block ?_
      refine Wp.seq ?_
      refine Wp.region ?_
      refine Wo.pre 2 (by kernel_rfl) ?_
      refine Wo.val (.ptr ⟨({ b := b, g := g, o := 0 } : AA).b, ({ b := b, g := g, o := 0 } : AA).g, ({ b := b, g := g, o := 0 } : AA).o + (at_) * 1⟩) h (by kernel_rfl) (iop_iaN (a := { b := b, g := g, o := 0 }) (n := bits.length) (c := Cp.op 1) (ie := (↑at_ : Int)) (i := (at_)) (by kernel_rfl) (by kernel_rfl) rfl (by first | omega | (simp; omega))) ?_
      refine Wo.val (.int .i64 ((c : Nat) : Int)) _ (by kernel_rfl) (iop_ldE (j := at_) p (by kernel_rfl) hc) ?_
      refine Wo.cmpN (op := .neq) (x := IX.t 101) (y := IX.c (AV.int IntKind.i64 0)) (k := IntKind.i64) (a := ↑c) (b := 0) ((↑c : Int) = (0 : Int)) (by kernel_rfl) (by kernel_rfl) (by kernel_rfl) (by kernel_rfl) (by simp) (by kernel_rfl) (fun q3 => ?_) (fun q3 => ?_)
      rotate_left
      · (exfalso; omega)
      refine Wo.nil ?_
      refine Wp.cond false (by kernel_rfl) ?_
      refine Wp.skip ?_
      refine Wp.region ?_
      refine Wo.pre 1 (by kernel_rfl) ?_
      refine Wo.val (.int IntKind.i64 ((↑at_ : Int) + (1 : Int))) h (by kernel_rfl) (iop_arith (op := .add) (a := ↑at_) (b := 1) (by kernel_rfl) (by kernel_rfl) (by simp) (bin_add IntKind.i64 (by simp only [min_i64]; omega) (by simp only [max_i64]; omega))) ?_
      refine Wo.pre 1 (by kernel_rfl) ?_
      refine Wo.nil ?_
      exact ih (at_ + 1) hd2 (by omega) _ (by kernel_rfl) (by kernel_rfl) (by kernel_rfl) (by kernel_rfl) Q hq hq'
    · have hf : (c :: r).all (fun x => x == 0) = false := by rw [List.all_cons]; simp [h0]
      have m1 := p.1
      refine Wp.seq ?_
      refine Wp.seq ?_
      refine Wp.region ?_
      refine Wo.pre 3 (by kernel_rfl) ?_
      refine Wo.cmp (op := .lss) (x := IX.t 92) (y := IX.t 94) (k := IntKind.i64) (a := ↑at_) (b := ↑bits.length) ((↑at_ : Int) < (↑bits.length : Int)) (by kernel_rfl) (by kernel_rfl) (by kernel_rfl) (by kernel_rfl) (by simp) (by kernel_rfl) (fun q2 => ?_) (fun q2 => ?_)
      rotate_left
      · (exfalso; omega)
      refine Wo.nil ?_
      refine Wp.cond true (by kernel_rfl) ?_
      refine Wp.skip ?_
      refine Wp.seq ?_
      refine Wp.block ?_
      refine Wp.seq ?_
      refine Wp.region ?_
      refine Wo.pre 2 (by kernel_rfl) ?_
      refine Wo.val (.ptr ⟨({ b := b, g := g, o := 0 } : AA).b, ({ b := b, g := g, o := 0 } : AA).g, ({ b := b, g := g, o := 0 } : AA).o + (at_) * 1⟩) h (by kernel_rfl) (iop_iaN (a := { b := b, g := g, o := 0 }) (n := bits.length) (c := Cp.op 1) (ie := (↑at_ : Int)) (i := (at_)) (by kernel_rfl) (by kernel_rfl) rfl (by first | omega | (simp; omega))) ?_
      refine Wo.val (.int .i64 ((c : Nat) : Int)) _ (by kernel_rfl) (iop_ldE (j := at_) p (by kernel_rfl) hc) ?_
      refine Wo.cmpN (op := .neq) (x := IX.t 101) (y := IX.c (AV.int IntKind.i64 0)) (k := IntKind.i64) (a := ↑c) (b := 0) ((↑c : Int) = (0 : Int)) (by kernel_rfl) (by kernel_rfl) (by kernel_rfl) (by kernel_rfl) (by simp) (by kernel_rfl) (fun q3 => ?_) (fun q3 => ?_)
      · (exfalso; omega)
      refine Wo.nil ?_
      refine Wp.cond true (by kernel_rfl) ?_
      refine Wp.seq ?_
      refine Wp.region ?_
      refine Wo.pre 2 (by kernel_rfl) ?_
      refine Wo.nil ?_
      refine Wp.ret ?_
      exact hQ' _ hf (by kernel_rfl) (by kernel_rfl)

set_option maxHeartbeats 8000000 in
theorem pad_loop {h : H} {s : List UInt8} (hs : s.length ≤ 100000000) :
    ∀ (k p : Nat), p + k = 2 → ∀ (ts : List AV), ts.length = 104 → getL ts 0 = some (.str s) → getL ts 4 = some (.int .i64 p) →
      ∀ (Q : Ex → St → Prop), (∀ ts', ts'.length = 104 → getL ts' 0 = some (.str s) → getL ts' 4 = some (.int .i64 ((padF s k p : Nat) : Int)) → Q (.exit 0) (ts', h)) → Wp TF (.loop l14_6) (ts, h) Q := by
  intro k
  induction k with
  | zero =>
    intro p hp ts t0 g0 g4 Q hQ
    obtain rfl : p = 2 := by omega
    refine Wp.loop ?_
    rw [laid_eq t0 [(0, .str s), (4, .int .i64 2)] (by simp [g0, g4])]
    refine Wp.seq ?_
    refine Wp.seq ?_
    refine Wp.region ?_
    refine Wo.pre 1 (by kernel_rfl) ?_
    refine Wo.pre 5 (by kernel_rfl) ?_
    refine Wo.pre 1 (by kernel_rfl) ?_
    refine Wo.pre 5 (by kernel_rfl) ?_
    refine Wo.pre 1 (by kernel_rfl) ?_
    refine Wo.pre 1 (by kernel_rfl) ?_
    refine Wo.pre 1 (by kernel_rfl) ?_
    refine Wo.pre 1 (by kernel_rfl) ?_
    refine Wo.pre 1 (by kernel_rfl) ?_
    refine Wo.pre 1 (by kernel_rfl) ?_
    refine Wo.nil ?_
    refine Wp.cond false (by kernel_rfl) ?_
    refine Wp.exit ?_
    exact hQ _ (by kernel_rfl) (by kernel_rfl) (by kernel_rfl)
  | succ k ih =>
    intro p hp ts t0 g0 g4 Q hQ
    by_cases hlt : p < s.length
    · obtain ⟨c, hc⟩ : ∃ c, s[s.length - 1 - p]? = some c := ⟨_, List.getElem?_eq_getElem (by omega)⟩
      by_cases h61 : c = 61
      · have e : padF s (k + 1) p = padF s k (p + 1) := by rw [padF, if_pos ⟨hlt, by rw [hc, h61]⟩]
        rw [e] at hQ
        refine Wp.loop ?_
        rw [laid_eq t0 [(0, .str s), (4, .int .i64 p)] (by simp [g0, g4])]
        have hcn : c.toNat = 61 := by rw [h61]; rfl
        refine Wp.seq ?_
        refine Wp.seq ?_
        refine Wp.region ?_
        refine Wo.pre 1 (by kernel_rfl) ?_
        refine Wo.cmp (op := .lss) (x := IX.t 18) (y := IX.c (AV.int IntKind.i64 2)) (k := IntKind.i64) (a := ↑p) (b := 2) ((↑p : Int) < (2 : Int)) (by kernel_rfl) (by kernel_rfl) (by kernel_rfl) (by kernel_rfl) (by simp) (by kernel_rfl) (fun q1 => ?_) (fun q1 => ?_)
        rotate_left
        · (exfalso; omega)
        refine Wo.pre 4 (by kernel_rfl) ?_
        refine Wo.cmp (op := .lss) (x := IX.t 21) (y := IX.t 23) (k := IntKind.i64) (a := ↑p) (b := ↑s.length) ((↑p : Int) < (↑s.length : Int)) (by kernel_rfl) (by kernel_rfl) (by kernel_rfl) (by kernel_rfl) (by simp) (by kernel_rfl) (fun q2 => ?_) (fun q2 => ?_)
        rotate_left
        · (exfalso; omega)
        refine Wo.pre 5 (by kernel_rfl) ?_
        refine Wo.val (.int IntKind.i64 ((↑s.length : Int) - (1 : Int))) h (by kernel_rfl) (iop_arith (op := .sub) (a := ↑s.length) (b := 1) (by kernel_rfl) (by kernel_rfl) (by simp) (bin_sub IntKind.i64 (by simp only [min_i64]; omega) (by simp only [max_i64]; omega))) ?_
        refine Wo.pre 1 (by kernel_rfl) ?_
        refine Wo.val (.int IntKind.i64 ((↑s.length - 1 : Int) - (↑p : Int))) h (by kernel_rfl) (iop_arith (op := .sub) (a := ↑s.length - 1) (b := ↑p) (by kernel_rfl) (by kernel_rfl) (by simp) (bin_sub IntKind.i64 (by simp only [min_i64]; omega) (by simp only [max_i64]; omega))) ?_
        refine Wo.val (.int .u8 c.toNat) _ (by kernel_rfl) (iop_ixSN (s := s) (ie := (s.length : Int) - 1 - p) (i := s.length - 1 - p) (by kernel_rfl) (by kernel_rfl) (by omega) hc) ?_
        refine Wo.cmp (op := .eql) (x := IX.t 33) (y := IX.c (AV.int IntKind.u8 61)) (k := IntKind.u8) (a := ↑c.toNat) (b := 61) ((↑c.toNat : Int) = (61 : Int)) (by kernel_rfl) (by kernel_rfl) (by kernel_rfl) (by kernel_rfl) (by simp) (by kernel_rfl) (fun q3 => ?_) (fun q3 => ?_)
        rotate_left
        · (exfalso; omega)
        refine Wo.pre 1 (by kernel_rfl) ?_
        refine Wo.nil ?_
        refine Wp.cond true (by kernel_rfl) ?_
        refine Wp.skip ?_
        refine Wp.block ?_
        refine Wp.region ?_
        refine Wo.pre 1 (by kernel_rfl) ?_
        refine Wo.val (.int IntKind.i64 ((↑p : Int) + (1 : Int))) h (by kernel_rfl) (iop_arith (op := .add) (a := ↑p) (b := 1) (by kernel_rfl) (by kernel_rfl) (by simp) (bin_add IntKind.i64 (by simp only [min_i64]; omega) (by simp only [max_i64]; omega))) ?_
        refine Wo.pre 1 (by kernel_rfl) ?_
        refine Wo.nil ?_
        exact ih (p + 1) (by omega) _ (by kernel_rfl) (by kernel_rfl) (by kernel_rfl) Q hQ
      · have e : padF s (k + 1) p = p := by rw [padF, if_neg (fun q => h61 (by have := q.2; rw [hc] at this; exact Option.some.inj this))]
        rw [e] at hQ
        refine Wp.loop ?_
        rw [laid_eq t0 [(0, .str s), (4, .int .i64 p)] (by simp [g0, g4])]
        have hcn : ¬ c.toNat = 61 := fun q => h61 (UInt8.toNat_inj.1 q)
        refine Wp.seq ?_
        refine Wp.seq ?_
        refine Wp.region ?_
        refine Wo.pre 1 (by kernel_rfl) ?_
        refine Wo.cmp (op := .lss) (x := IX.t 18) (y := IX.c (AV.int IntKind.i64 2)) (k := IntKind.i64) (a := ↑p) (b := 2) ((↑p : Int) < (2 : Int)) (by kernel_rfl) (by kernel_rfl) (by kernel_rfl) (by kernel_rfl) (by simp) (by kernel_rfl) (fun q1 => ?_) (fun q1 => ?_)
        rotate_left
        · (exfalso; omega)
        refine Wo.pre 4 (by kernel_rfl) ?_
        refine Wo.cmp (op := .lss) (x := IX.t 21) (y := IX.t 23) (k := IntKind.i64) (a := ↑p) (b := ↑s.length) ((↑p : Int) < (↑s.length : Int)) (by kernel_rfl) (by kernel_rfl) (by kernel_rfl) (by kernel_rfl) (by simp) (by kernel_rfl) (fun q2 => ?_) (fun q2 => ?_)
        rotate_left
        · (exfalso; omega)
        refine Wo.pre 5 (by kernel_rfl) ?_
        refine Wo.val (.int IntKind.i64 ((↑s.length : Int) - (1 : Int))) h (by kernel_rfl) (iop_arith (op := .sub) (a := ↑s.length) (b := 1) (by kernel_rfl) (by kernel_rfl) (by simp) (bin_sub IntKind.i64 (by simp only [min_i64]; omega) (by simp only [max_i64]; omega))) ?_
        refine Wo.pre 1 (by kernel_rfl) ?_
        refine Wo.val (.int IntKind.i64 ((↑s.length - 1 : Int) - (↑p : Int))) h (by kernel_rfl) (iop_arith (op := .sub) (a := ↑s.length - 1) (b := ↑p) (by kernel_rfl) (by kernel_rfl) (by simp) (bin_sub IntKind.i64 (by simp only [min_i64]; omega) (by simp only [max_i64]; omega))) ?_
        refine Wo.val (.int .u8 c.toNat) _ (by kernel_rfl) (iop_ixSN (s := s) (ie := (s.length : Int) - 1 - p) (i := s.length - 1 - p) (by kernel_rfl) (by kernel_rfl) (by omega) hc) ?_
        refine Wo.cmp (op := .eql) (x := IX.t 33) (y := IX.c (AV.int IntKind.u8 61)) (k := IntKind.u8) (a := ↑c.toNat) (b := 61) ((↑c.toNat : Int) = (61 : Int)) (by kernel_rfl) (by kernel_rfl) (by kernel_rfl) (by kernel_rfl) (by simp) (by kernel_rfl) (fun q3 => ?_) (fun q3 => ?_)
        · (exfalso; omega)
        refine Wo.pre 1 (by kernel_rfl) ?_
        refine Wo.nil ?_
        refine Wp.cond false (by kernel_rfl) ?_
        refine Wp.exit ?_
        exact hQ _ (by kernel_rfl) (by kernel_rfl) (by kernel_rfl)
    · have e : padF s (k + 1) p = p := by rw [padF, if_neg (fun q => hlt q.1)]
      rw [e] at hQ
      refine Wp.loop ?_
      rw [laid_eq t0 [(0, .str s), (4, .int .i64 p)] (by simp [g0, g4])]
      refine Wp.seq ?_
      refine Wp.seq ?_
      refine Wp.region ?_
      refine Wo.pre 1 (by kernel_rfl) ?_
      refine Wo.cmp (op := .lss) (x := IX.t 18) (y := IX.c (AV.int IntKind.i64 2)) (k := IntKind.i64) (a := ↑p) (b := 2) ((↑p : Int) < (2 : Int)) (by kernel_rfl) (by kernel_rfl) (by kernel_rfl) (by kernel_rfl) (by simp) (by kernel_rfl) (fun q1 => ?_) (fun q1 => ?_)
      rotate_left
      · (exfalso; omega)
      refine Wo.pre 4 (by kernel_rfl) ?_
      refine Wo.cmp (op := .lss) (x := IX.t 21) (y := IX.t 23) (k := IntKind.i64) (a := ↑p) (b := ↑s.length) ((↑p : Int) < (↑s.length : Int)) (by kernel_rfl) (by kernel_rfl) (by kernel_rfl) (by kernel_rfl) (by simp) (by kernel_rfl) (fun q2 => ?_) (fun q2 => ?_)
      · (exfalso; omega)
      refine Wo.pre 5 (by kernel_rfl) ?_
      refine Wo.pre 1 (by kernel_rfl) ?_
      refine Wo.pre 1 (by kernel_rfl) ?_
      refine Wo.pre 1 (by kernel_rfl) ?_
      refine Wo.pre 1 (by kernel_rfl) ?_
      refine Wo.pre 1 (by kernel_rfl) ?_
      refine Wo.pre 1 (by kernel_rfl) ?_
      refine Wo.nil ?_
      refine Wp.cond false (by kernel_rfl) ?_
      refine Wp.exit ?_
      exact hQ _ (by kernel_rfl) (by kernel_rfl) (by kernel_rfl)
end Go.Det
