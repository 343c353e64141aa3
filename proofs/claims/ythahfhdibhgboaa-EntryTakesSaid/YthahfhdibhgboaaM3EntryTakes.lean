/- Texts of the proof, one behind the other (Heads, Lays, Spoil, LaysR, RefL, RefR, Reads, ReadsR, Thing, May, Ent1, Ent2, Ent3, List). -/
import Derived.Test.YthahfhdibhgboaaM2EntryTakes
/- What is signed for a head: the program's bytes and the reference's. -/
set_option linter.unusedVariables false
set_option linter.unusedSimpArgs false
namespace Go.Det
open Go.Proofs
attribute [local simp] skip_iff ret_iff exit_iff seq_iff block_iff thenQ_normal thenQ_ret thenQ_exit thenQ_goto blockQ_normal blockQ_ret blockQ_exit blockQ_goto condQ_bool cond_iff region_iff wo_nil ansQ_val ansQ_call wo_cons wo_guard wanted put setL getL ev iop binop binInt shInt asI retV resOf unop getL_put len_put draw_iff wd_nil wd_quiet wd_act holds_nil holds_cons
attribute [local congr] ansQ_congr condQ_congr

theorem rnum8_run {b : AV} {l : List UInt8} {h : H} (hb : Bs h b l) (hl : l.length + 8 ≤ maxRow) {n : Nat} (hn : n < 2 ^ 64) :
    ∃ v h', Runs TF 20 [b, .int .u64 n, .int .i64 8] h v h' ∧ ∃ x, v = .tup [x, .int .i64 0] ∧ Ext h h' ∧ Ow h.n h' x (l ++ digits n 8 8) := by
  refine Runs.ofP f20 rfl ?_
  simp [List.replicate]
  refine ⟨_, _, rsized8_run h, ?_⟩
  have w1 : IntKind.i64.wrap (8 - 1) = 7 := by rw [i64_fit _ (by omega)]; rfl
  simp [maxRow, w1]
  refine rnum_loop (size := 8) hn (by omega) (blk := h.n) 8 (by omega) _ _ rfl (by simp) (by simp) rfl rfl (by rw [h.get_new]; simp [bytesAV, digits_len, List.replicate]) _ ?_
  intro ts' h' g0 gb g1 g8 gc gn go
  have hz : n / 256 ^ 8 = 0 := Nat.div_eq_of_lt (by simpa using hn)
  rw [hz] at g1
  have gb : getL ts' 0 = some b := gb
  have he : Ext h h' := ⟨by rw [gn]; simp, fun k hk => by rw [go k (by omega)]; exact h.get_new_ne k _ (by omega)⟩
  simp [g0, gb, g1, g8]
  obtain ⟨x, h2, c1, c2, c3⟩ := own_run (hb.ext he) (by omega)
  refine ⟨x, h2, c1, ?_⟩
  have hy : Bs h' (.sl ⟨h.n, 0, 0⟩ 8 (.ex 8)) (digits n 8 8) := (Ow.bs (lo := h.n) (.inr ⟨h.n, 0, Nat.le_refl _, by rw [gn]; simp, gc, .inr (by rw [digits_len])⟩))
  obtain ⟨y, h3, e1, e2, e3, _⟩ := Ow.app c3 (hy.ext c2) c2.1 (by rw [digits_len]; omega)
  simp [isStrV, e1]
  have hec := he.trans c2
  exact ⟨⟨Nat.le_trans hec.1 e3.1, fun k hk => (e3.2 k (Nat.lt_of_lt_of_le hk he.1)).trans (hec.2 k hk)⟩, e2.mono he.1⟩

theorem num8_run {b : AV} {l : List UInt8} {h : H} (hb : Bs h b l) (hl : l.length + 8 ≤ maxRow) {n : Nat} (hn : n < 2 ^ 64) :
    ∃ x h', Runs TF 76 [b, .int .u64 n, .int .i64 8] h x h' ∧ Ext h h' ∧ Ow h.n h' x (l ++ digits n 8 8) := by
  refine Runs.ofP f76 rfl ?_
  have e : numE n 8 = 0 := by simp [numE]; omega
  obtain ⟨v, h', c1, x, rfl, c2, c3⟩ := num_run hb hl hn 8
  rw [e] at c1
  rw [if_pos e] at c3
  simp [List.replicate]
  refine ⟨_, _, c1, ?_⟩
  simp
  exact ⟨c2, c3⟩

theorem rn8_run {h : H} {n : Nat} (hn : n < 2 ^ 64) : ∃ x h', Runs TF 77 [.int .u64 n, .int .i64 8] h x h' ∧ Ext h h' ∧ Ow h.n h' x (digits n 8 8) := by
  refine Runs.ofP f77 rfl ?_
  obtain ⟨v, h', c1, x, rfl, c2, c3⟩ := rnum8_run (b := .nils) (l := []) (h := h) (.inl ⟨rfl, rfl⟩) (by simp [maxRow]) hn
  simp [List.replicate]
  refine ⟨_, _, c1, ?_⟩
  simp
  exact ⟨c2, by simpa using c3⟩

/-- The bytes that are signed for a head. -/
def headB (t s : Nat) (r : List UInt8) : List UInt8 := [0, 1] ++ digits t 8 8 ++ digits s 8 8 ++ r

theorem Bs.two (h : H) (c d : UInt8) : Ow h.n (h.new (.cells 0 5 [.int .u8 c.toNat, .int .u8 d.toNat] 0 false)) (.sl ⟨h.n, 0, 0⟩ 2 (.ex 2)) [c, d] :=
  .inr ⟨h.n, 0, Nat.le_refl _, by simp, by rw [h.get_new]; rfl, .inr rfl⟩

theorem head_run {t s : Nat} (ht : t < 2 ^ 64) (hs : s < 2 ^ 64) {r : List UInt8} (hr : r.length = 32) {g : List AV} (hg : g.length = 64) (hg1 : ∀ x ∈ g, x.one = true) (h : H) :
    ∃ x h', Runs TF 36 [.agg (.int .u64 s :: .int .u64 t :: bytesAV r ++ g)] h x h' ∧ Ext h h' ∧ Ow h.n h' x (headB t s r) := by
  refine Runs.ofP f36 rfl ?_
  have o1 : ∀ k n, (AV.int k n).one = true := fun _ _ => rfl
  have hga : g.all AV.one = true := List.all_eq_true.2 hg1
  obtain ⟨B, hB⟩ : ∃ B, B = Blk.cells 0 65 (AV.int .u64 s :: AV.int .u64 t :: (bytesAV r ++ g)) 0 false := ⟨_, rfl⟩
  have LD : ∀ (k : H), k.get h.n = some B → k.ldg ⟨h.n, 0, 0⟩ none = some (.int .u64 s) ∧ k.ldg ⟨h.n, 0, 1⟩ none = some (.int .u64 t) := by
    intro k hk
    rw [hB] at hk
    simp [H.ldg, H.ld, H.row, hk]
  have G1 : ∀ C, ((h.new B).new C).get h.n = some B := fun C => by rw [H.get_new_ne _ _ _ (by simp), H.get_new]
  have L1 := fun C => (LD _ (G1 C)).2
  have w2 := Bs.two (h.new B) 0 1
  obtain ⟨x, h3, c1, c2, c3⟩ := num8_run (n := t) (Ow.bs w2) (by simp [maxRow]) ht
  have G3 : h3.get h.n = some B := by rw [c2.2 _ (by simp; omega)]; exact G1 _
  have L3 := (LD _ G3).1
  obtain ⟨y, h4, d1, d2, d3⟩ := num8_run (n := s) (Ow.bs c3) (by simp [maxRow, digits_len]) hs
  have G4 : h4.get h.n = some B := by rw [d2.2 _ (by have := c2.1; simp at this; omega)]; exact G3
  have hroot : Bs h4 (.sl ⟨h.n, 0, 2⟩ 32 (.ex 32)) r := by
    refine .inr ⟨⟨h.n, 0, 2⟩, .ex 32, by rw [hr], by have := c2.1; have := d2.1; simp at *; omega, ?_⟩
    rw [hB] at G4
    unfold H.ldn H.row
    simp only [G4, BEq.rfl, if_true]
    have hbl := bytes_len r
    simp [cut, List.take_append_of_le_length, hbl]
  obtain ⟨z, h5, e1, e2, e3, e4⟩ := Ow.app d3 hroot d2.1 (by simp [maxRow, digits_len, hr])
  simp [List.replicate, AV.cells, -List.all_eq_true, bytes_one, hga, o1, fillL, putAt, ← hB, L1]
  refine ⟨_, _, c1, ?_⟩
  simp [L3, bounds, Pend.add, rdOp, readsAs, AV.same]
  refine ⟨_, _, d1, ?_⟩
  have hx0 : Ext h h4 := (((Ext.new h B).trans (Ext.new _ _)).trans c2).trans d2
  simp [isStrV, e1, show Nat.testBit 7 2 = true from rfl, show Nat.testBit 63 2 = true from rfl, headB]
  have h3n := c2.1
  simp at h3n
  exact ⟨⟨Nat.le_trans hx0.1 e3.1, fun k hk => (e3.2 k (by omega)).trans (hx0.2 k hk)⟩, by simpa using e2.mono (by omega)⟩

theorem rhead_run {t s : Nat} (ht : t < 2 ^ 64) (hs : s < 2 ^ 64) {r : List UInt8} (hr : r.length = 32) {g : List AV} (hg : g.length = 64) (hg1 : ∀ x ∈ g, x.one = true) (h : H) :
    ∃ x h', Runs TF 37 [.agg (.int .u64 s :: .int .u64 t :: bytesAV r ++ g)] h x h' ∧ Ext h h' ∧ Ow h.n h' x (headB t s r) := by
  refine Runs.ofP f37 rfl ?_
  have o1 : ∀ k n, (AV.int k n).one = true := fun _ _ => rfl
  have hga : g.all AV.one = true := List.all_eq_true.2 hg1
  obtain ⟨B, hB⟩ : ∃ B, B = Blk.cells 0 65 (AV.int .u64 s :: AV.int .u64 t :: (bytesAV r ++ g)) 0 false := ⟨_, rfl⟩
  have LD : ∀ (k : H), k.get h.n = some B → k.ldg ⟨h.n, 0, 0⟩ none = some (.int .u64 s) ∧ k.ldg ⟨h.n, 0, 1⟩ none = some (.int .u64 t) := by
    intro k hk
    rw [hB] at hk
    simp [H.ldg, H.ld, H.row, hk]
  have G1 : ∀ C, ((h.new B).new C).get h.n = some B := fun C => by rw [H.get_new_ne _ _ _ (by simp), H.get_new]
  have L1 := fun C => (LD _ (G1 C)).2
  have w2 := Bs.two (h.new B) 0 1
  obtain ⟨x, h3, c1, c2, c3⟩ := rn8_run (h := ((h.new B).new (Blk.cells 0 5 [AV.int IntKind.u8 ↑(UInt8.toNat 0), AV.int IntKind.u8 ↑(UInt8.toNat 1)] 0 false))) (n := t) ht
  obtain ⟨y, h4, d1, d2, d3, d4⟩ := Ow.app (w2.ext c2) (Ow.bs c3) (by have := c2.1; simp at *; omega) (by simp [maxRow, digits_len])
  have G4 : h4.get h.n = some B := by rw [d3.2 _ (by simp), c2.2 _ (by simp; omega)]; exact G1 _
  have L4 := (LD _ G4).1
  obtain ⟨u, h5, e1, e2, e3⟩ := rn8_run (h := h4) (n := s) hs
  have l5 := e2.1
  have l4 := d3.1
  have l3 := c2.1
  simp at l3
  obtain ⟨z, h6, k1, k2, k3, k4⟩ := Ow.app (d2.ext e2) (Ow.bs e3) (by simp at *; omega) (by simp [maxRow, digits_len])
  have G6 : h6.get h.n = some B := by rw [k3.2 _ (by simp), e2.2 _ (by omega)]; exact G4
  have l6 := k3.1
  have hroot : Bs h6 (.sl ⟨h.n, 0, 2⟩ 32 (.ex 32)) r := by
    refine .inr ⟨⟨h.n, 0, 2⟩, .ex 32, by rw [hr], by simp at *; omega, ?_⟩
    rw [hB] at G6
    unfold H.ldn H.row
    simp only [G6, BEq.rfl, if_true]
    have hbl := bytes_len r
    simp [cut, List.take_append_of_le_length, hbl, hr]
  obtain ⟨v, h7, m1, m2, m3, m4⟩ := Ow.app k2 hroot (by simp at *; omega) (by simp [maxRow, digits_len, hr])
  simp [List.replicate, AV.cells, -List.all_eq_true, bytes_one, hga, o1, fillL, putAt, ← hB, L1]
  refine ⟨_, _, c1, ?_⟩
  have q1 := c3.bs.notStr
  have q2 := e3.bs.notStr
  simp at d1
  simp [q1, d1, L4]
  refine ⟨_, _, e1, ?_⟩
  simp [q2, k1, bounds]
  simp [isStrV, m1, headB]
  have hx0 : Ext h h3 := ((Ext.new h B).trans (Ext.new _ _)).trans c2
  have l7 := m3.1
  refine ⟨⟨by omega, fun k hk => ?_⟩, by simpa using m2.mono (by simp)⟩
  rw [m3.2 k (by simp; omega), k3.2 k (by simp; omega), e2.2 k (by omega), d3.2 k (by simp; omega)]
  exact hx0.2 k hk

theorem awake_run (h : H) : Runs TF 35 [] h (.bool true) h := Runs.known (by kernel_rfl) h

theorem law_heads {t s : Nat} (ht : t < 2 ^ 64) (hs : s < 2 ^ 64) {r : List UInt8} (hr : r.length = 32) {g : List AV} (hg : g.length = 64) (hg1 : ∀ x ∈ g, x.one = true) (h : H) :
    ∃ v h', Runs TF 8 [.agg (.int .u64 s :: .int .u64 t :: bytesAV r ++ g)] h v h' ∧ v = .bool true ∧ Ext h h' := by
  have o1 : ∀ k n, (AV.int k n).one = true := fun _ _ => rfl
  have hga : g.all AV.one = true := List.all_eq_true.2 hg1
  obtain ⟨A, hA⟩ : ∃ A, A = (.int .u64 s :: .int .u64 t :: (bytesAV r ++ g) : List AV) := ⟨_, rfl⟩
  have hl : A.length = 98 := by rw [hA]; simp [bytes_len, hr, hg]
  obtain ⟨B, hB⟩ : ∃ B, B = Blk.cells 0 65 A 0 false := ⟨_, rfl⟩
  have LD : ∀ (k : H), k.get h.n = some B → k.ldg ⟨h.n, 0, 0⟩ (some 98) = some (.agg A) := by
    intro k hk
    rw [hB] at hk
    simp [H.ldg, H.ldn, H.row, hk, cut, ← hl]
  have L1 := LD (h.new B) (h.get_new B)
  obtain ⟨x, h3, c1, c2, c3⟩ := head_run ht hs hr hg hg1 (h.new B)
  have L3 := LD h3 (by rw [c2.2 _ (by simp)]; exact h.get_new B)
  obtain ⟨y, h4, d1, d2, d3⟩ := rhead_run ht hs hr hg hg1 h3
  have eq := equal_run (c3.bs.ext d2) d3.bs
  rw [List.cons_append, List.cons_append, ← hA] at c1 d1
  have ha : A.all AV.one = true := by rw [hA]; simp [-List.all_eq_true, bytes_one, hga, o1]
  rw [List.cons_append, List.cons_append, ← hA]
  refine Runs.ofP f8 rfl ?_
  have AS : AV.same (.agg A) (.agg A) = true := same_refl _
  simp [List.replicate, AV.cells, -List.all_eq_true, ha, ← hB]
  refine ⟨_, _, awake_run _, ?_⟩
  simp [L1, Pend.add, rdOp, readsAs, AS]
  have b1 : Nat.testBit 7 4 = false := rfl
  have b2 : Nat.testBit 7 2 = true := rfl
  have b3 : Nat.testBit 31 4 = true := rfl
  have b4 : Nat.testBit 31 2 = true := rfl
  have b5 : Nat.testBit 63 4 = true := rfl
  refine ⟨_, _, c1, ?_⟩
  simp [L3, readsAs, AS, b1, b2, b3, b4, b5]
  refine ⟨_, _, d1, ?_⟩
  refine ⟨_, _, eq, ?_⟩
  simp
  exact ((Ext.new h B).trans c2).trans d2
end Go.Det

/- The reference's writers, any size; the program's Vec, any size. -/
set_option linter.unusedVariables false
set_option linter.unusedSimpArgs false
set_option linter.unusedSectionVars false
namespace Go.Det
open Go.Proofs
attribute [local irreducible] Wp Wo Wd iop ev slots quiets wanted put

theorem rsized_run (s : Int) (h : H) : Runs TF 73 [.int .i64 s] h (.bool (decide (1 ≤ s ∧ s ≤ 4 ∨ s = 8))) h := by
  by_cases h5 : s = 8
  · subst h5; exact rsized8_run h
  · by_cases h0 : 1 ≤ s ∧ s ≤ 4
    · have : s = 1 ∨ s = 2 ∨ s = 3 ∨ s = 4 := by omega
      rcases this with rfl | rfl | rfl | rfl <;> (refine Runs.of' f73 rfl ?_; exact Wp.seq (Wp.region (Wo.all (by kernel_rfl) (Wp.seq (Wp.region (Wo.all (by kernel_rfl) (Wp.ret ⟨.inr rfl, rfl, (by kernel_rfl)⟩)))))))
    · have e : decide (1 ≤ s ∧ s ≤ 4 ∨ s = 8) = false := by simp; omega
      rw [e]
      have e1 : (s == 1) = false := by simp; omega
      have e2 : (s == 2) = false := by simp; omega
      have e3 : (s == 3) = false := by simp; omega
      have e4 : (s == 4) = false := by simp; omega
      have e5 : (s == 8) = false := by simp; omega
      refine Runs.of' f73 rfl ?_
      refine Wp.seq ?_
      refine Wp.region ?_
      refine Wo.pre 1 (by kernel_rfl) ?_
      refine Wo.nil ?_
      refine Wp.seq ?_
      refine Wp.region ?_
      refine Wo.pre 1 (by kernel_rfl) ?_
      refine Wo.val (.bool false) h (by kernel_rfl) (iop_eqB (k := .i64) (a := s) (b := 1) false (by kernel_rfl) (by kernel_rfl) e1) ?_
      refine Wo.pre 1 (by kernel_rfl) ?_
      refine Wo.pre 1 (by kernel_rfl) ?_
      refine Wo.val (.bool false) h (by kernel_rfl) (iop_eqB (k := .i64) (a := s) (b := 2) false (by kernel_rfl) (by kernel_rfl) e2) ?_
      refine Wo.pre 1 (by kernel_rfl) ?_
      refine Wo.pre 1 (by kernel_rfl) ?_
      refine Wo.pre 1 (by kernel_rfl) ?_
      refine Wo.val (.bool false) h (by kernel_rfl) (iop_eqB (k := .i64) (a := s) (b := 3) false (by kernel_rfl) (by kernel_rfl) e3) ?_
      refine Wo.pre 1 (by kernel_rfl) ?_
      refine Wo.pre 1 (by kernel_rfl) ?_
      refine Wo.pre 1 (by kernel_rfl) ?_
      refine Wo.val (.bool false) h (by kernel_rfl) (iop_eqB (k := .i64) (a := s) (b := 4) false (by kernel_rfl) (by kernel_rfl) e4) ?_
      refine Wo.pre 1 (by kernel_rfl) ?_
      refine Wo.pre 1 (by kernel_rfl) ?_
      refine Wo.pre 1 (by kernel_rfl) ?_
      refine Wo.val (.bool false) h (by kernel_rfl) (iop_eqB (k := .i64) (a := s) (b := 8) false (by kernel_rfl) (by kernel_rfl) e5) ?_
      refine Wo.pre 1 (by kernel_rfl) ?_
      refine Wo.pre 1 (by kernel_rfl) ?_
      refine Wo.nil ?_
      exact Wp.ret ⟨.inr rfl, rfl, (by kernel_rfl)⟩
theorem rnum_run {b : AV} {l : List UInt8} {h : H} (hb : Bs h b l) (hl : l.length + 8 ≤ maxRow) {n : Nat} (hn : n < 2 ^ 64) (size : Int) :
    ∃ v h', Runs TF 20 [b, .int .u64 n, .int .i64 size] h v h' ∧ ∃ x, v = .tup [x, .int .i64 (numE n size)] ∧ Ext h h' ∧ Ow h.n h' x (if numE n size = 0 then l ++ digits n size.toNat size.toNat else []) := by
  refine Runs.ofP f20 rfl ?_
  have hz := rsized_run size h
  by_cases hs : 1 ≤ size ∧ size ≤ 4 ∨ size = 8
  · rw [decide_eq_true hs] at hz
    obtain ⟨m, rfl⟩ : ∃ m : Nat, size = m := ⟨size.toNat, by omega⟩
    have hm8 : m ≤ 8 := by omega
    have hmax : 8 < maxRow := by decide
    have hm : m ≤ maxRow := by omega
    have w1 : IntKind.i64.wrap ((m : Int) - 1) = (m : Int) - 1 := i64_fit _ (by omega)
    have w2 : n / 256 ^ (m - m) = n := by simp
    refine Wp.seq ?_
    refine Wp.region ?_
    refine Wo.pre 8 (by kernel_rfl) ?_
    refine Wo.nil ?_
    refine Wp.seq ?_
    refine Wp.seq ?_
    refine Wp.region ?_
    refine Wo.pre 1 (by kernel_rfl) ?_
    refine Wo.call (by kernel_rfl) (by kernel_rfl) (hz) ?_
    refine Wo.pre 8 (by kernel_rfl) ?_
    refine Wo.nil ?_
    refine Wp.cond false (by kernel_rfl) ?_
    refine Wp.skip ?_
    refine Wp.seq ?_
    refine Wp.region ?_
    refine Wo.pre 1 (by kernel_rfl) ?_
    refine Wo.val (.sl ⟨h.n, 0, 0⟩ m (.ex m)) (h.new (.cells 0 5 (List.replicate m (.int .u8 0)) 0 false)) (by kernel_rfl) (iop_mkS (k := .i64) (by kernel_rfl) hm) ?_
    refine Wo.pre 8 (by kernel_rfl) ?_
    refine Wo.nil ?_
    refine Wp.seq ?_
    refine Wp.seq ?_
    refine Wp.region ?_
    refine Wo.pre 8 (by kernel_rfl) ?_
    refine Wo.nil ?_
    refine Wp.block ?_
    refine rnum_loop (size := m) hn (by omega) (blk := h.n) m (Nat.le_refl _) _ _ (by kernel_rfl) (by simp) (by rw [w2]; kernel_rfl) (by kernel_rfl) (by rw [← w1]; kernel_rfl) (by rw [h.get_new]; simp [bytesAV, digits_len]) _ ?_
    intro ts' h' g0 gb g1 g8 gc gn go
    have gb : getL ts' 0 = some b := gb.trans (by kernel_rfl)
    obtain ⟨q, hq⟩ : ∃ q, q = n / 256 ^ m := ⟨_, rfl⟩
    rw [← hq] at g1
    have he : Ext h h' := ⟨by rw [gn]; simp, fun k hk => by rw [go k (by omega)]; exact h.get_new_ne k _ (by omega)⟩
    rw [laid_eq g0 [(0, b), (1, .int .u64 q), (8, .sl ⟨h.n, 0, 0⟩ m (.ex m))] (by simp [g1, g8, gb])]
    have hp : (2 : Nat) ^ (8 * m) = 256 ^ m := by rw [Nat.pow_mul]
    by_cases hbig : 2 ^ (8 * m) ≤ n
    · have e3 : numE n (m : Int) = 3 := by simp only [numE, hs, Int.toNat_natCast, hbig, not_true, if_false, if_true]
      have hq0 : decide ((q : Int) > 0) = true := by
        have : 0 < q := by rw [hq]; exact Nat.div_pos (by rw [← hp]; exact hbig) (Nat.pos_of_ne_zero (by simp))
        simpa using this
      refine Wp.seq ?_
      refine Wp.seq ?_
      refine Wp.region ?_
      refine Wo.pre 8 (by kernel_rfl) ?_
      refine Wo.nil ?_
      refine Wp.cond (decide ((q : Int) > 0)) (by kernel_rfl) ?_
      rw [hq0]
      refine Wp.seq ?_
      refine Wp.region ?_
      refine Wo.pre 8 (by kernel_rfl) ?_
      refine Wo.nil ?_
      rw [e3]
      exact Wp.ret ⟨.inr rfl, .tup [.nils, .int .i64 3], (by kernel_rfl), .nils, rfl, he, .inl ⟨rfl, rfl⟩⟩
    · have e0 : numE n (m : Int) = 0 := by simp only [numE, hs, Int.toNat_natCast, hbig, not_true, if_false]
      have hq0 : q = 0 := by rw [hq]; exact Nat.div_eq_of_lt (by rw [← hp]; omega)
      subst hq0
      obtain ⟨x, h2, c1, c2, c3⟩ := own_run (hb.ext he) (by omega)
      have hy : Bs h' (.sl ⟨h.n, 0, 0⟩ m (.ex m)) (digits n m m) := (Ow.bs (lo := h.n) (.inr ⟨h.n, 0, Nat.le_refl _, by rw [gn]; simp, gc, .inr (by rw [digits_len])⟩))
      obtain ⟨y, h3, e1, e2, e3, _⟩ := Ow.app c3 (hy.ext c2) c2.1 (by rw [digits_len]; omega)
      refine Wp.seq ?_
      refine Wp.seq ?_
      refine Wp.region ?_
      refine Wo.pre 8 (by kernel_rfl) ?_
      refine Wo.nil ?_
      refine Wp.cond false (by kernel_rfl) ?_
      refine Wp.skip ?_
      refine Wp.seq ?_
      refine Wp.region ?_
      refine Wo.pre 1 (by kernel_rfl) ?_
      refine Wo.call (by kernel_rfl) (by kernel_rfl) (c1) ?_
      refine Wo.pre 1 (by kernel_rfl) ?_
      refine Wo.val y h3 (by kernel_rfl) (iop_app (v := x) (w := .sl ⟨h.n, 0, 0⟩ m (.ex m)) (by kernel_rfl) (by kernel_rfl) rfl e1) ?_
      refine Wo.pre 8 (by kernel_rfl) ?_
      refine Wo.nil ?_
      have hec := he.trans c2
      rw [e0]
      exact Wp.ret ⟨.inr rfl, .tup [y, .int .i64 0], (by kernel_rfl), y, rfl, ⟨Nat.le_trans hec.1 e3.1, fun k hk => (e3.2 k (Nat.lt_of_lt_of_le hk he.1)).trans (hec.2 k hk)⟩, e2.mono he.1⟩
  · rw [decide_eq_false hs] at hz
    have e1 : numE n size = 1 := by simp only [numE, hs, not_false_eq_true, if_true]
    refine Wp.seq ?_
    refine Wp.region ?_
    refine Wo.pre 8 (by kernel_rfl) ?_
    refine Wo.nil ?_
    refine Wp.seq ?_
    refine Wp.seq ?_
    refine Wp.region ?_
    refine Wo.pre 1 (by kernel_rfl) ?_
    refine Wo.call (by kernel_rfl) (by kernel_rfl) (hz) ?_
    refine Wo.pre 8 (by kernel_rfl) ?_
    refine Wo.nil ?_
    refine Wp.cond true (by kernel_rfl) ?_
    refine Wp.seq ?_
    refine Wp.region ?_
    refine Wo.pre 8 (by kernel_rfl) ?_
    refine Wo.nil ?_
    rw [e1]
    exact Wp.ret ⟨.inr rfl, .tup [.nils, .int .i64 1], (by kernel_rfl), .nils, rfl, Ext.refl h, .inl ⟨rfl, rfl⟩⟩

def vecE (n : Nat) (size : Int) : Int := if 1 ≤ size ∧ size ≤ 3 then numE n size else 1

theorem vecE_num {n : Nat} {size : Int} (hs : ¬ 3 < size) : vecE n size = numE n size := by
  unfold vecE
  split
  · rfl
  · rename_i h1
    have h2 : ¬ (1 ≤ size ∧ size ≤ 4 ∨ size = 8) := by omega
    simp only [numE, h2, not_false_eq_true, if_true]

/-- wire.Vec, any size. -/
theorem wvec_any {h : H} {x y : AV} {lx ly : List UInt8} (hx : Bs h x lx) (hy : Bs h y ly) (size : Int) (hl : lx.length + 16777224 ≤ maxRow) (hl2 : ly.length ≤ maxRow) :
    ∃ r h', Runs TF 21 [x, y, .int .i64 size] h r h' ∧ ∃ z, r = .tup [z, .int .i64 (vecE ly.length size)] ∧ Ext h h' ∧ Ow h.n h' z (if vecE ly.length size = 0 then lx ++ digits ly.length size.toNat size.toNat ++ ly else []) := by
  by_cases hs : 1 ≤ size ∧ size ≤ 3
  · obtain ⟨m, rfl⟩ : ∃ m : Nat, size = m := ⟨size.toNat, by omega⟩
    have e : vecE ly.length (m : Int) = numE ly.length m := vecE_num (by omega)
    rw [e]
    exact wvec_run hx hy (size := m) (by omega) hl hl2
  · have e1 : vecE ly.length size = 1 := by simp only [vecE, hs, if_false]
    rw [e1]
    refine Runs.ofP f21 rfl ?_
    refine Wp.seq ?_
    refine Wp.region ?_
    refine Wo.pre 8 (by kernel_rfl) ?_
    refine Wo.nil ?_
    refine Wp.seq ?_
    refine Wp.seq ?_
    refine Wp.region ?_
    refine Wo.pre 8 (by kernel_rfl) ?_
    refine Wo.nil ?_
    refine Wp.cond (decide (size > 3)) (by kernel_rfl) ?_
    by_cases h3 : 3 < size
    · rw [if_pos (by simpa using h3)]
      refine Wp.seq ?_
      refine Wp.region ?_
      refine Wo.pre 8 (by kernel_rfl) ?_
      refine Wo.nil ?_
      exact Wp.ret ⟨.inr rfl, .tup [.nils, .int .i64 1], (by kernel_rfl), .nils, rfl, Ext.refl h, .inl ⟨rfl, rfl⟩⟩
    · rw [if_neg (by simpa using h3)]
      have hw : IntKind.u64.wrap ((ly.length : Nat) : Int) = ((ly.length : Nat) : Int) := u64_fit _ (by unfold maxRow at hl2; omega)
      obtain ⟨r, h1, c1, z1, rfl, c2, c3⟩ := num_run hx (by omega) (n := ly.length) (by unfold maxRow at hl2; omega) size
      have en : numE ly.length size = 1 := by rw [← vecE_num h3, e1]
      rw [← hw, en] at c1
      rw [en] at c3
      refine Wp.skip ?_
      refine Wp.seq ?_
      refine Wp.region ?_
      refine Wo.pre 1 (by kernel_rfl) ?_
      refine Wo.pre 1 (by kernel_rfl) ?_
      refine Wo.val (.int .i64 ly.length) h (by kernel_rfl) (hy.len (by kernel_rfl)) ?_
      refine Wo.pre 1 (by kernel_rfl) ?_
      refine Wo.pre 1 (by kernel_rfl) ?_
      refine Wo.call (by kernel_rfl) (by kernel_rfl) (c1) ?_
      refine Wo.pre 8 (by kernel_rfl) ?_
      refine Wo.nil ?_
      refine Wp.seq ?_
      refine Wp.seq ?_
      refine Wp.region ?_
      refine Wo.pre 8 (by kernel_rfl) ?_
      refine Wo.nil ?_
      refine Wp.cond true (by kernel_rfl) ?_
      refine Wp.seq ?_
      refine Wp.region ?_
      refine Wo.pre 8 (by kernel_rfl) ?_
      refine Wo.nil ?_
      exact Wp.ret ⟨.inr rfl, .tup [.nils, .int .i64 1], (by kernel_rfl), .nils, rfl, c2, .inl ⟨rfl, rfl⟩⟩

/-- The reference's Vec, any size. -/
theorem rvec_run {h : H} {x y : AV} {lx ly : List UInt8} (hx : Bs h x lx) (hy : Bs h y ly) (size : Int) (hl : lx.length + 16777224 ≤ maxRow) (hl2 : ly.length ≤ maxRow) :
    ∃ r h', Runs TF 22 [x, y, .int .i64 size] h r h' ∧ ∃ z, r = .tup [z, .int .i64 (vecE ly.length size)] ∧ Ext h h' ∧ Ow h.n h' z (if vecE ly.length size = 0 then lx ++ digits ly.length size.toNat size.toNat ++ ly else []) := by
  by_cases hs : 1 ≤ size ∧ size ≤ 3
  · obtain ⟨m, rfl⟩ : ∃ m : Nat, size = m := ⟨size.toNat, by omega⟩
    have e : vecE ly.length (m : Int) = numE ly.length m := vecE_num (by omega)
    rw [e]
    have hw : IntKind.u64.wrap ((ly.length : Nat) : Int) = ((ly.length : Nat) : Int) := u64_fit _ (by unfold maxRow at hl2; omega)
    obtain ⟨r, h1, c1, z1, rfl, c2, c3⟩ := rnum_run hx (by omega) (n := ly.length) (by unfold maxRow at hl2; omega) m
    rw [← hw] at c1
    have hm : m = 1 ∨ m = 2 ∨ m = 3 := by omega
    rcases hm with rfl | rfl | rfl
    · skip
      by_cases he : numE ly.length ((1 : Nat) : Int) = 0
      · rw [he] at c1 ⊢
        rw [if_pos he] at c3
        obtain ⟨z, h2, e1, e2, e3, e4⟩ := Ow.app c3 (hy.ext c2) c2.1 (by rw [List.length_append, digits_len]; have := numE_lt (size := 1) (by omega) he; simp; omega)
        refine Runs.ofP f22 rfl ?_
        refine Wp.seq ?_
        refine Wp.region ?_
        refine Wo.pre 8 (by kernel_rfl) ?_
        refine Wo.nil ?_
        refine Wp.seq ?_
        refine Wp.seq ?_
        refine Wp.region ?_
        refine Wo.pre 8 (by kernel_rfl) ?_
        refine Wo.pre 8 (by kernel_rfl) ?_
        refine Wo.nil ?_
        refine Wp.cond false (by kernel_rfl) ?_
        refine Wp.skip ?_
        refine Wp.seq ?_
        refine Wp.region ?_
        refine Wo.pre 1 (by kernel_rfl) ?_
        refine Wo.pre 1 (by kernel_rfl) ?_
        refine Wo.val (.int .i64 ly.length) h (by kernel_rfl) (hy.len (by kernel_rfl)) ?_
        refine Wo.pre 1 (by kernel_rfl) ?_
        refine Wo.pre 1 (by kernel_rfl) ?_
        refine Wo.call (by kernel_rfl) (by kernel_rfl) (c1) ?_
        refine Wo.pre 8 (by kernel_rfl) ?_
        refine Wo.nil ?_
        refine Wp.seq ?_
        refine Wp.seq ?_
        refine Wp.region ?_
        refine Wo.pre 8 (by kernel_rfl) ?_
        refine Wo.nil ?_
        refine Wp.cond false (by kernel_rfl) ?_
        refine Wp.skip ?_
        refine Wp.seq ?_
        refine Wp.region ?_
        refine Wo.pre 1 (by kernel_rfl) ?_
        refine Wo.pre 1 (by kernel_rfl) ?_
        refine Wo.val z h2 (by kernel_rfl) (iop_app (v := z1) (w := y) (by kernel_rfl) (by kernel_rfl) hy.parts.2.2 e1) ?_
        refine Wo.pre 8 (by kernel_rfl) ?_
        refine Wo.nil ?_
        exact Wp.ret ⟨.inr rfl, .tup [z, .int .i64 0], (by kernel_rfl), z, rfl, ⟨Nat.le_trans c2.1 e3.1, fun k hk => (e3.2 k hk).trans (c2.2 k hk)⟩, e2⟩
      · have e3 : numE ly.length ((1 : Nat) : Int) = 3 := by
          have h1 : (1 ≤ ((1 : Nat) : Int) ∧ ((1 : Nat) : Int) ≤ 4 ∨ ((1 : Nat) : Int) = 8) := by omega
          simp only [numE, h1, not_true, if_false] at he ⊢
          split at he
          · rename_i h2; rw [if_pos h2]
          · exact absurd rfl he
        rw [e3] at c1 ⊢
        refine Runs.ofP f22 rfl ?_
        refine Wp.seq ?_
        refine Wp.region ?_
        refine Wo.pre 8 (by kernel_rfl) ?_
        refine Wo.nil ?_
        refine Wp.seq ?_
        refine Wp.seq ?_
        refine Wp.region ?_
        refine Wo.pre 8 (by kernel_rfl) ?_
        refine Wo.pre 8 (by kernel_rfl) ?_
        refine Wo.nil ?_
        refine Wp.cond false (by kernel_rfl) ?_
        refine Wp.skip ?_
        refine Wp.seq ?_
        refine Wp.region ?_
        refine Wo.pre 1 (by kernel_rfl) ?_
        refine Wo.pre 1 (by kernel_rfl) ?_
        refine Wo.val (.int .i64 ly.length) h (by kernel_rfl) (hy.len (by kernel_rfl)) ?_
        refine Wo.pre 1 (by kernel_rfl) ?_
        refine Wo.pre 1 (by kernel_rfl) ?_
        refine Wo.call (by kernel_rfl) (by kernel_rfl) (c1) ?_
        refine Wo.pre 8 (by kernel_rfl) ?_
        refine Wo.nil ?_
        refine Wp.seq ?_
        refine Wp.seq ?_
        refine Wp.region ?_
        refine Wo.pre 8 (by kernel_rfl) ?_
        refine Wo.nil ?_
        refine Wp.cond true (by kernel_rfl) ?_
        refine Wp.seq ?_
        refine Wp.region ?_
        refine Wo.pre 8 (by kernel_rfl) ?_
        refine Wo.nil ?_
        exact Wp.ret ⟨.inr rfl, .tup [.nils, .int .i64 3], (by kernel_rfl), .nils, rfl, c2, .inl ⟨rfl, rfl⟩⟩
    · skip
      by_cases he : numE ly.length ((2 : Nat) : Int) = 0
      · rw [he] at c1 ⊢
        rw [if_pos he] at c3
        obtain ⟨z, h2, e1, e2, e3, e4⟩ := Ow.app c3 (hy.ext c2) c2.1 (by rw [List.length_append, digits_len]; have := numE_lt (size := 2) (by omega) he; simp; omega)
        refine Runs.ofP f22 rfl ?_
        refine Wp.seq ?_
        refine Wp.region ?_
        refine Wo.pre 8 (by kernel_rfl) ?_
        refine Wo.nil ?_
        refine Wp.seq ?_
        refine Wp.seq ?_
        refine Wp.region ?_
        refine Wo.pre 8 (by kernel_rfl) ?_
        refine Wo.pre 8 (by kernel_rfl) ?_
        refine Wo.nil ?_
        refine Wp.cond false (by kernel_rfl) ?_
        refine Wp.skip ?_
        refine Wp.seq ?_
        refine Wp.region ?_
        refine Wo.pre 1 (by kernel_rfl) ?_
        refine Wo.pre 1 (by kernel_rfl) ?_
        refine Wo.val (.int .i64 ly.length) h (by kernel_rfl) (hy.len (by kernel_rfl)) ?_
        refine Wo.pre 1 (by kernel_rfl) ?_
        refine Wo.pre 1 (by kernel_rfl) ?_
        refine Wo.call (by kernel_rfl) (by kernel_rfl) (c1) ?_
        refine Wo.pre 8 (by kernel_rfl) ?_
        refine Wo.nil ?_
        refine Wp.seq ?_
        refine Wp.seq ?_
        refine Wp.region ?_
        refine Wo.pre 8 (by kernel_rfl) ?_
        refine Wo.nil ?_
        refine Wp.cond false (by kernel_rfl) ?_
        refine Wp.skip ?_
        refine Wp.seq ?_
        refine Wp.region ?_
        refine Wo.pre 1 (by kernel_rfl) ?_
        refine Wo.pre 1 (by kernel_rfl) ?_
        refine Wo.val z h2 (by kernel_rfl) (iop_app (v := z1) (w := y) (by kernel_rfl) (by kernel_rfl) hy.parts.2.2 e1) ?_
        refine Wo.pre 8 (by kernel_rfl) ?_
        refine Wo.nil ?_
        exact Wp.ret ⟨.inr rfl, .tup [z, .int .i64 0], (by kernel_rfl), z, rfl, ⟨Nat.le_trans c2.1 e3.1, fun k hk => (e3.2 k hk).trans (c2.2 k hk)⟩, e2⟩
      · have e3 : numE ly.length ((2 : Nat) : Int) = 3 := by
          have h1 : (1 ≤ ((2 : Nat) : Int) ∧ ((2 : Nat) : Int) ≤ 4 ∨ ((2 : Nat) : Int) = 8) := by omega
          simp only [numE, h1, not_true, if_false] at he ⊢
          split at he
          · rename_i h2; rw [if_pos h2]
          · exact absurd rfl he
        rw [e3] at c1 ⊢
        refine Runs.ofP f22 rfl ?_
        refine Wp.seq ?_
        refine Wp.region ?_
        refine Wo.pre 8 (by kernel_rfl) ?_
        refine Wo.nil ?_
        refine Wp.seq ?_
        refine Wp.seq ?_
        refine Wp.region ?_
        refine Wo.pre 8 (by kernel_rfl) ?_
        refine Wo.pre 8 (by kernel_rfl) ?_
        refine Wo.nil ?_
        refine Wp.cond false (by kernel_rfl) ?_
        refine Wp.skip ?_
        refine Wp.seq ?_
        refine Wp.region ?_
        refine Wo.pre 1 (by kernel_rfl) ?_
        refine Wo.pre 1 (by kernel_rfl) ?_
        refine Wo.val (.int .i64 ly.length) h (by kernel_rfl) (hy.len (by kernel_rfl)) ?_
        refine Wo.pre 1 (by kernel_rfl) ?_
        refine Wo.pre 1 (by kernel_rfl) ?_
        refine Wo.call (by kernel_rfl) (by kernel_rfl) (c1) ?_
        refine Wo.pre 8 (by kernel_rfl) ?_
        refine Wo.nil ?_
        refine Wp.seq ?_
        refine Wp.seq ?_
        refine Wp.region ?_
        refine Wo.pre 8 (by kernel_rfl) ?_
        refine Wo.nil ?_
        refine Wp.cond true (by kernel_rfl) ?_
        refine Wp.seq ?_
        refine Wp.region ?_
        refine Wo.pre 8 (by kernel_rfl) ?_
        refine Wo.nil ?_
        exact Wp.ret ⟨.inr rfl, .tup [.nils, .int .i64 3], (by kernel_rfl), .nils, rfl, c2, .inl ⟨rfl, rfl⟩⟩
    · skip
      by_cases he : numE ly.length ((3 : Nat) : Int) = 0
      · rw [he] at c1 ⊢
        rw [if_pos he] at c3
        obtain ⟨z, h2, e1, e2, e3, e4⟩ := Ow.app c3 (hy.ext c2) c2.1 (by rw [List.length_append, digits_len]; have := numE_lt (size := 3) (by omega) he; simp; omega)
        refine Runs.ofP f22 rfl ?_
        refine Wp.seq ?_
        refine Wp.region ?_
        refine Wo.pre 8 (by kernel_rfl) ?_
        refine Wo.nil ?_
        refine Wp.seq ?_
        refine Wp.seq ?_
        refine Wp.region ?_
        refine Wo.pre 8 (by kernel_rfl) ?_
        refine Wo.pre 8 (by kernel_rfl) ?_
        refine Wo.nil ?_
        refine Wp.cond false (by kernel_rfl) ?_
        refine Wp.skip ?_
        refine Wp.seq ?_
        refine Wp.region ?_
        refine Wo.pre 1 (by kernel_rfl) ?_
        refine Wo.pre 1 (by kernel_rfl) ?_
        refine Wo.val (.int .i64 ly.length) h (by kernel_rfl) (hy.len (by kernel_rfl)) ?_
        refine Wo.pre 1 (by kernel_rfl) ?_
        refine Wo.pre 1 (by kernel_rfl) ?_
        refine Wo.call (by kernel_rfl) (by kernel_rfl) (c1) ?_
        refine Wo.pre 8 (by kernel_rfl) ?_
        refine Wo.nil ?_
        refine Wp.seq ?_
        refine Wp.seq ?_
        refine Wp.region ?_
        refine Wo.pre 8 (by kernel_rfl) ?_
        refine Wo.nil ?_
        refine Wp.cond false (by kernel_rfl) ?_
        refine Wp.skip ?_
        refine Wp.seq ?_
        refine Wp.region ?_
        refine Wo.pre 1 (by kernel_rfl) ?_
        refine Wo.pre 1 (by kernel_rfl) ?_
        refine Wo.val z h2 (by kernel_rfl) (iop_app (v := z1) (w := y) (by kernel_rfl) (by kernel_rfl) hy.parts.2.2 e1) ?_
        refine Wo.pre 8 (by kernel_rfl) ?_
        refine Wo.nil ?_
        exact Wp.ret ⟨.inr rfl, .tup [z, .int .i64 0], (by kernel_rfl), z, rfl, ⟨Nat.le_trans c2.1 e3.1, fun k hk => (e3.2 k hk).trans (c2.2 k hk)⟩, e2⟩
      · have e3 : numE ly.length ((3 : Nat) : Int) = 3 := by
          have h1 : (1 ≤ ((3 : Nat) : Int) ∧ ((3 : Nat) : Int) ≤ 4 ∨ ((3 : Nat) : Int) = 8) := by omega
          simp only [numE, h1, not_true, if_false] at he ⊢
          split at he
          · rename_i h2; rw [if_pos h2]
          · exact absurd rfl he
        rw [e3] at c1 ⊢
        refine Runs.ofP f22 rfl ?_
        refine Wp.seq ?_
        refine Wp.region ?_
        refine Wo.pre 8 (by kernel_rfl) ?_
        refine Wo.nil ?_
        refine Wp.seq ?_
        refine Wp.seq ?_
        refine Wp.region ?_
        refine Wo.pre 8 (by kernel_rfl) ?_
        refine Wo.pre 8 (by kernel_rfl) ?_
        refine Wo.nil ?_
        refine Wp.cond false (by kernel_rfl) ?_
        refine Wp.skip ?_
        refine Wp.seq ?_
        refine Wp.region ?_
        refine Wo.pre 1 (by kernel_rfl) ?_
        refine Wo.pre 1 (by kernel_rfl) ?_
        refine Wo.val (.int .i64 ly.length) h (by kernel_rfl) (hy.len (by kernel_rfl)) ?_
        refine Wo.pre 1 (by kernel_rfl) ?_
        refine Wo.pre 1 (by kernel_rfl) ?_
        refine Wo.call (by kernel_rfl) (by kernel_rfl) (c1) ?_
        refine Wo.pre 8 (by kernel_rfl) ?_
        refine Wo.nil ?_
        refine Wp.seq ?_
        refine Wp.seq ?_
        refine Wp.region ?_
        refine Wo.pre 8 (by kernel_rfl) ?_
        refine Wo.nil ?_
        refine Wp.cond true (by kernel_rfl) ?_
        refine Wp.seq ?_
        refine Wp.region ?_
        refine Wo.pre 8 (by kernel_rfl) ?_
        refine Wo.nil ?_
        exact Wp.ret ⟨.inr rfl, .tup [.nils, .int .i64 3], (by kernel_rfl), .nils, rfl, c2, .inl ⟨rfl, rfl⟩⟩
  · have e1 : vecE ly.length size = 1 := by simp only [vecE, hs, if_false]
    rw [e1]
    have n1 : (size != 1) = true := by simp; omega
    have n2 : (size != 2) = true := by simp; omega
    have n3 : (size != 3) = true := by simp; omega
    refine Runs.ofP f22 rfl ?_
    refine Wp.seq ?_
    refine Wp.region ?_
    refine Wo.pre 1 (by kernel_rfl) ?_
    refine Wo.pre 1 (by kernel_rfl) ?_
    refine Wo.nil ?_
    refine Wp.seq ?_
    refine Wp.seq ?_
    refine Wp.region ?_
    refine Wo.pre 1 (by kernel_rfl) ?_
    refine Wo.val (.bool true) h (by kernel_rfl) (iop_neB (k := .i64) (a := size) (b := 1) true (by kernel_rfl) (by kernel_rfl) n1) ?_
    refine Wo.pre 1 (by kernel_rfl) ?_
    refine Wo.pre 1 (by kernel_rfl) ?_
    refine Wo.val (.bool true) h (by kernel_rfl) (iop_neB (k := .i64) (a := size) (b := 2) true (by kernel_rfl) (by kernel_rfl) n2) ?_
    refine Wo.pre 1 (by kernel_rfl) ?_
    refine Wo.pre 1 (by kernel_rfl) ?_
    refine Wo.pre 1 (by kernel_rfl) ?_
    refine Wo.val (.bool true) h (by kernel_rfl) (iop_neB (k := .i64) (a := size) (b := 3) true (by kernel_rfl) (by kernel_rfl) n3) ?_
    refine Wo.pre 1 (by kernel_rfl) ?_
    refine Wo.nil ?_
    refine Wp.cond true (by kernel_rfl) ?_
    refine Wp.seq ?_
    refine Wp.region ?_
    refine Wo.pre 1 (by kernel_rfl) ?_
    refine Wo.pre 1 (by kernel_rfl) ?_
    refine Wo.nil ?_
    exact Wp.ret ⟨.inr rfl, .tup [.nils, .int .i64 1], (by kernel_rfl), .nils, rfl, Ext.refl h, .inl ⟨rfl, rfl⟩⟩
end Go.Det

/- Rows that are spoiled, byte by byte. -/
set_option linter.unusedVariables false
set_option linter.unusedSimpArgs false
set_option linter.unusedSectionVars false
namespace Go.Det
open Go.Proofs
attribute [local simp] skip_iff ret_iff exit_iff seq_iff block_iff thenQ_normal thenQ_ret thenQ_exit thenQ_goto blockQ_normal blockQ_ret blockQ_exit blockQ_goto condQ_bool cond_iff region_iff wo_nil ansQ_val ansQ_call wo_cons wo_guard wanted put setL getL ev iop binop binInt shInt asI retV resOf unop
attribute [local congr] ansQ_congr condQ_congr Wo_congr Wp_congr

theorem spoil3_2 {blk g n : Nat} (hn : n ≤ maxRow) :
    ∀ (k i : Nat), i + k = n → ∀ (h : H) (ts : List AV) (x : AV), ts.length = 143 → getL ts 10 = some x → getL ts 98 = some (.int .i64 n) → getL ts 99 = some (.int .i64 i) →
      (n = 0 ∨ ((∃ cc, x = .sl ⟨blk, g, 0⟩ n cc) ∧ ∃ r : List UInt8, r.length = n ∧ h.get blk = some (.cells g 5 (bytesAV r) 0 false))) →
      ∀ (Q : Ex → St → Prop), (∀ ts' h', ts'.length = 143 → (∀ j, j < 97 → j ≠ 19 → getL ts' j = getL ts j) → h'.n = h.n → (∀ b, b ≠ blk → h'.get b = h.get b) → (n = 0 ∨ ∃ r : List UInt8, r.length = n ∧ h'.get blk = some (.cells g 5 (bytesAV r) 0 false)) → Q (.exit 0) (ts', h')) → Wp TF (.loop l3_2) (ts, h) Q := by
  have hmx : maxRow < 2 ^ 62 := by decide
  intro k
  induction k with
  | zero =>
    intro i hi h ts x t0 tx tl ti hx Q hQ
    obtain rfl : i = n := by omega
    refine Wp.loop ?_
    simp [l3_2, t0, tl, ti, getL_put, len_put]
    refine hQ _ _ (by simp [t0, len_put]) (fun j hj hk => ?_) rfl (fun _ _ => rfl) (hx.imp id (fun y => y.2))
    repeat rw [getL_ne _ _ (by omega)]
  | succ k ih =>
    intro i hi h ts x t0 tx tl ti hx Q hQ
    refine Wp.loop ?_
    obtain ⟨⟨cc, rfl⟩, r, hr, hg⟩ := hx.resolve_left (by omega)
    have hlt : i < n := by omega
    obtain ⟨c, hc⟩ : ∃ c, r[i]? = some c := ⟨r[i]'(by omega), by simp [hr, hlt]⟩
    have hld : h.ldg ⟨blk, g, i⟩ none = some (.int .u8 c.toNat) := by simp [H.ldg, H.ld, H.row, hg, get_byte, hc]
    have w1 : IntKind.i64.wrap ((i : Int) + 1) = (i : Int) + 1 := i64_fit _ (by omega)
    simp only [l3_2]
    simp [t0, tx, tl, ti, getL_put, len_put, hlt, hld, IntKind.bits, wrap_u8, AV.cells, st_byte hg (k := i) (by omega)]
    refine ih (i + 1) (by omega) _ _ _ (by simp [t0, len_put]) (by simp [tx, getL_put]) (by simp [tl, getL_put]) (by simp [t0, getL_put, len_put, w1]) (.inr ⟨⟨cc, rfl⟩, ⟨_, ?hl, h.get_set _ _⟩⟩) Q ?_
    case hl => rw [List.length_set, hr]
    intro ts' h' g1 g2 g3 g4 g5
    refine hQ ts' h' g1 (fun j hj hk => ?_) (by rw [g3]; rfl) (fun b hb => by rw [g4 b hb, h.get_set_ne _ b _ hb]) g5
    rw [g2 j hj hk]
    repeat rw [getL_ne _ _ (by omega)]

theorem spoil3_1 {blk g n : Nat} (hn : n ≤ maxRow) :
    ∀ (k i : Nat), i + k = n → ∀ (h : H) (ts : List AV) (x : AV), ts.length = 143 → getL ts 14 = some x → getL ts 110 = some (.int .i64 n) → getL ts 111 = some (.int .i64 i) →
      (n = 0 ∨ ((∃ cc, x = .sl ⟨blk, g, 0⟩ n cc) ∧ ∃ r : List UInt8, r.length = n ∧ h.get blk = some (.cells g 5 (bytesAV r) 0 false))) →
      ∀ (Q : Ex → St → Prop), (∀ ts' h', ts'.length = 143 → (∀ j, j < 109 → j ≠ 20 → getL ts' j = getL ts j) → h'.n = h.n → (∀ b, b ≠ blk → h'.get b = h.get b) → (n = 0 ∨ ∃ r : List UInt8, r.length = n ∧ h'.get blk = some (.cells g 5 (bytesAV r) 0 false)) → Q (.exit 2) (ts', h')) → Wp TF (.loop l3_1) (ts, h) Q := by
  have hmx : maxRow < 2 ^ 62 := by decide
  intro k
  induction k with
  | zero =>
    intro i hi h ts x t0 tx tl ti hx Q hQ
    obtain rfl : i = n := by omega
    refine Wp.loop ?_
    simp [l3_1, t0, tl, ti, getL_put, len_put]
    refine hQ _ _ (by simp [t0, len_put]) (fun j hj hk => ?_) rfl (fun _ _ => rfl) (hx.imp id (fun y => y.2))
    repeat rw [getL_ne _ _ (by omega)]
  | succ k ih =>
    intro i hi h ts x t0 tx tl ti hx Q hQ
    refine Wp.loop ?_
    obtain ⟨⟨cc, rfl⟩, r, hr, hg⟩ := hx.resolve_left (by omega)
    have hlt : i < n := by omega
    obtain ⟨c, hc⟩ : ∃ c, r[i]? = some c := ⟨r[i]'(by omega), by simp [hr, hlt]⟩
    have hld : h.ldg ⟨blk, g, i⟩ none = some (.int .u8 c.toNat) := by simp [H.ldg, H.ld, H.row, hg, get_byte, hc]
    have w1 : IntKind.i64.wrap ((i : Int) + 1) = (i : Int) + 1 := i64_fit _ (by omega)
    simp only [l3_1]
    simp [t0, tx, tl, ti, getL_put, len_put, hlt, hld, IntKind.bits, wrap_u8, AV.cells, st_byte hg (k := i) (by omega)]
    refine ih (i + 1) (by omega) _ _ _ (by simp [t0, len_put]) (by simp [tx, getL_put]) (by simp [tl, getL_put]) (by simp [t0, getL_put, len_put, w1]) (.inr ⟨⟨cc, rfl⟩, ⟨_, ?hl, h.get_set _ _⟩⟩) Q ?_
    case hl => rw [List.length_set, hr]
    intro ts' h' g1 g2 g3 g4 g5
    refine hQ ts' h' g1 (fun j hj hk => ?_) (by rw [g3]; rfl) (fun b hb => by rw [g4 b hb, h.get_set_ne _ b _ hb]) g5
    rw [g2 j hj hk]
    repeat rw [getL_ne _ _ (by omega)]

theorem spoil4_3 {blk g n : Nat} (hn : n ≤ maxRow) :
    ∀ (k i : Nat), i + k = n → ∀ (h : H) (ts : List AV) (x : AV), ts.length = 136 → getL ts 5 = some x → getL ts 28 = some (.int .i64 n) → getL ts 29 = some (.int .i64 i) →
      (n = 0 ∨ ((∃ cc, x = .sl ⟨blk, g, 0⟩ n cc) ∧ ∃ r : List UInt8, r.length = n ∧ h.get blk = some (.cells g 5 (bytesAV r) 0 false))) →
      ∀ (Q : Ex → St → Prop), (∀ ts' h', ts'.length = 136 → (∀ j, j < 28 → j ≠ 8 → getL ts' j = getL ts j) → h'.n = h.n → (∀ b, b ≠ blk → h'.get b = h.get b) → (n = 0 ∨ ∃ r : List UInt8, r.length = n ∧ h'.get blk = some (.cells g 5 (bytesAV r) 0 false)) → Q (.exit 0) (ts', h')) → Wp TF (.loop l4_3) (ts, h) Q := by
  have hmx : maxRow < 2 ^ 62 := by decide
  intro k
  induction k with
  | zero =>
    intro i hi h ts x t0 tx tl ti hx Q hQ
    obtain rfl : i = n := by omega
    refine Wp.loop ?_
    simp [l4_3, t0, tl, ti, getL_put, len_put]
    refine hQ _ _ (by simp [t0, len_put]) (fun j hj hk => ?_) rfl (fun _ _ => rfl) (hx.imp id (fun y => y.2))
    repeat rw [getL_ne _ _ (by omega)]
  | succ k ih =>
    intro i hi h ts x t0 tx tl ti hx Q hQ
    refine Wp.loop ?_
    obtain ⟨⟨cc, rfl⟩, r, hr, hg⟩ := hx.resolve_left (by omega)
    have hlt : i < n := by omega
    obtain ⟨c, hc⟩ : ∃ c, r[i]? = some c := ⟨r[i]'(by omega), by simp [hr, hlt]⟩
    have hld : h.ldg ⟨blk, g, i⟩ none = some (.int .u8 c.toNat) := by simp [H.ldg, H.ld, H.row, hg, get_byte, hc]
    have w1 : IntKind.i64.wrap ((i : Int) + 1) = (i : Int) + 1 := i64_fit _ (by omega)
    simp only [l4_3]
    simp [t0, tx, tl, ti, getL_put, len_put, hlt, hld, IntKind.bits, wrap_u8, AV.cells, st_byte hg (k := i) (by omega)]
    refine ih (i + 1) (by omega) _ _ _ (by simp [t0, len_put]) (by simp [tx, getL_put]) (by simp [tl, getL_put]) (by simp [t0, getL_put, len_put, w1]) (.inr ⟨⟨cc, rfl⟩, ⟨_, ?hl, h.get_set _ _⟩⟩) Q ?_
    case hl => rw [List.length_set, hr]
    intro ts' h' g1 g2 g3 g4 g5
    refine hQ ts' h' g1 (fun j hj hk => ?_) (by rw [g3]; rfl) (fun b hb => by rw [g4 b hb, h.get_set_ne _ b _ hb]) g5
    rw [g2 j hj hk]
    repeat rw [getL_ne _ _ (by omega)]

theorem spoil4_1 {blk g n : Nat} (hn : n ≤ maxRow) :
    ∀ (k i : Nat), i + k = n → ∀ (h : H) (ts : List AV) (x : AV), ts.length = 136 → getL ts 15 = some x → getL ts 115 = some (.int .i64 n) → getL ts 116 = some (.int .i64 i) →
      (n = 0 ∨ ((∃ cc, x = .sl ⟨blk, g, 0⟩ n cc) ∧ ∃ r : List UInt8, r.length = n ∧ h.get blk = some (.cells g 5 (bytesAV r) 0 false))) →
      ∀ (Q : Ex → St → Prop), (∀ ts' h', ts'.length = 136 → (∀ j, j < 115 → j ≠ 19 → getL ts' j = getL ts j) → h'.n = h.n → (∀ b, b ≠ blk → h'.get b = h.get b) → (n = 0 ∨ ∃ r : List UInt8, r.length = n ∧ h'.get blk = some (.cells g 5 (bytesAV r) 0 false)) → Q (.exit 5) (ts', h')) → Wp TF (.loop l4_1) (ts, h) Q := by
  have hmx : maxRow < 2 ^ 62 := by decide
  intro k
  induction k with
  | zero =>
    intro i hi h ts x t0 tx tl ti hx Q hQ
    obtain rfl : i = n := by omega
    refine Wp.loop ?_
    simp [l4_1, t0, tl, ti, getL_put, len_put]
    refine hQ _ _ (by simp [t0, len_put]) (fun j hj hk => ?_) rfl (fun _ _ => rfl) (hx.imp id (fun y => y.2))
    repeat rw [getL_ne _ _ (by omega)]
  | succ k ih =>
    intro i hi h ts x t0 tx tl ti hx Q hQ
    refine Wp.loop ?_
    obtain ⟨⟨cc, rfl⟩, r, hr, hg⟩ := hx.resolve_left (by omega)
    have hlt : i < n := by omega
    obtain ⟨c, hc⟩ : ∃ c, r[i]? = some c := ⟨r[i]'(by omega), by simp [hr, hlt]⟩
    have hld : h.ldg ⟨blk, g, i⟩ none = some (.int .u8 c.toNat) := by simp [H.ldg, H.ld, H.row, hg, get_byte, hc]
    have w1 : IntKind.i64.wrap ((i : Int) + 1) = (i : Int) + 1 := i64_fit _ (by omega)
    simp only [l4_1]
    simp [t0, tx, tl, ti, getL_put, len_put, hlt, hld, IntKind.bits, wrap_u8, AV.cells, st_byte hg (k := i) (by omega)]
    refine ih (i + 1) (by omega) _ _ _ (by simp [t0, len_put]) (by simp [tx, getL_put]) (by simp [tl, getL_put]) (by simp [t0, getL_put, len_put, w1]) (.inr ⟨⟨cc, rfl⟩, ⟨_, ?hl, h.get_set _ _⟩⟩) Q ?_
    case hl => rw [List.length_set, hr]
    intro ts' h' g1 g2 g3 g4 g5
    refine hQ ts' h' g1 (fun j hj hk => ?_) (by rw [g3]; rfl) (fun b hb => by rw [g4 b hb, h.get_set_ne _ b _ hb]) g5
    rw [g2 j hj hk]
    repeat rw [getL_ne _ _ (by omega)]

end Go.Det

/- The law WireLays: numbers and vectors are laid down as the document says; what is handed in stays. -/
set_option linter.unusedVariables false
set_option linter.unusedSimpArgs false
set_option linter.unusedSectionVars false
namespace Go.Det
open Go.Proofs
attribute [local irreducible] Wp Wo Wd iop ev slots quiets wanted put

/-- A row of its own, to be spoiled. -/
theorem Ow.spoil {lo : Nat} {h h' : H} {x : AV} {l : List UInt8} (hx : Ow lo h x l) (hE : Ext h h') (far : Nat) : ∃ blk g, ((lo ≤ blk ∧ blk < h.n) ∨ blk = far) ∧ (l.length = 0 ∨ ((∃ cc, x = .sl ⟨blk, g, 0⟩ l.length cc) ∧ ∃ r : List UInt8, r.length = l.length ∧ h'.get blk = some (.cells g 5 (bytesAV r) 0 false))) := by
  rcases hx with ⟨rfl, rfl⟩ | ⟨b, g, h1, h2, h3, h4⟩
  · exact ⟨far, 0, .inr rfl, .inl rfl⟩
  · exact ⟨b, g, .inl ⟨h1, h2⟩, .inr ⟨by rcases h4 with rfl | rfl <;> exact ⟨_, rfl⟩, l, rfl, by rw [hE.2 _ h2]; exact h3⟩⟩

set_option maxHeartbeats 4000000 in
theorem lays_run {h : H} {xb xd : AV} {lb ld : List UInt8} (hb : Bs h xb lb) (hd : Bs h xd ld) (hlb : lb.length + 16777300 ≤ maxRow) (hld : ld.length + 16777300 ≤ maxRow) {n : Nat} (hn : n < 2 ^ 64) (size : Int) :
    ∃ r h', Runs TF 3 [.agg [xb, xd, .int .u64 n, .int .i64 size]] h r h' ∧ r = .bool true := by
  refine Runs.ofP f3 rfl ?_
  have hmx : maxRow < 2 ^ 62 := by decide
  have hall : ([xb, xd, .int .u64 n, .int .i64 size] : List AV).all AV.one = true := by
    have o1 := hb.parts.2.1
    have o2 := hd.parts.2.1
    have o3 : ∀ k i, (AV.int k i).one = true := fun _ _ => rfl
    simp [o1, o2, o3]
  obtain ⟨H1, hH1⟩ : ∃ H1, H1 = h.new (.cells 0 25 [xb, xd, .int .u64 n, .int .i64 size] 0 false) := ⟨_, rfl⟩
  have enew : ∀ {x : IX} {ρ : IX → AV}, ρ x = .agg [xb, xd, .int .u64 n, .int .i64 size] → iop (.new 25 x) ρ h = some (.val (.ptr ⟨h.n, 0, 0⟩) H1) := fun hx => by rw [hH1]; exact iop_new hx hall
  have E1 : Ext h H1 := by rw [hH1]; exact Ext.new h _
  have hg1 : H1.get h.n = some (.cells 0 25 [xb, xd, .int .u64 n, .int .i64 size] 0 false) := by rw [hH1]; exact h.get_new _
  have L0 : H1.ldg ⟨h.n, 0, 0⟩ none = some xb := by simp [H.ldg, H.ld, H.row, hg1, getL]
  have L1 : H1.ldg ⟨h.n, 0, 1⟩ none = some xd := by simp [H.ldg, H.ld, H.row, hg1, getL]
  have L2 : H1.ldg ⟨h.n, 0, 2⟩ none = some (.int .u64 n) := by simp [H.ldg, H.ld, H.row, hg1, getL]
  have L3 : H1.ldg ⟨h.n, 0, 3⟩ none = some (.int .i64 size) := by simp [H.ldg, H.ld, H.row, hg1, getL]
  have hb1 := hb.ext E1
  have hd1 := hd.ext E1
  obtain ⟨ow, H3, ea, oa, X3⟩ := copy_new hb1 (by omega)
  obtain ⟨gi, H5, eb, ob, X5⟩ := copy_new (hd1.ext X3) (by omega)
  have hb5 := (hb1.ext X3).ext X5
  have hd5 := (hd1.ext X3).ext X5
  obtain ⟨q, H7, ec, oc, X7⟩ := copy_new hb5 (by omega)
  obtain ⟨nine, hnine⟩ : ∃ l : List UInt8, l = [1, 2, 3, 4, 5, 6, 7, 8, 9] := ⟨_, rfl⟩
  have h9 : nine.length = 9 := by rw [hnine]; rfl
  obtain ⟨H8, hH8⟩ : ∃ H8, H8 = H7.new (.cells 0 5 (bytesAV nine) 0 false) := ⟨_, rfl⟩
  have X8 : Ext H7 H8 := by rw [hH8]; exact Ext.new _ _
  have hlit : Bs H8 (.sl ⟨H7.n, 0, 0⟩ 9 (.ex 9)) nine := by have := (Ow.lit H7 nine).bs; rw [hH8]; rw [h9] at this; exact this
  obtain ⟨room, H9, ed, od, Y9, _⟩ := Ow.app (oc.ext X8) hlit (Nat.le_trans X7.1 X8.1) (by omega)
  have X9 : Ext H5 H9 := (X7.trans X8).then2 Y9
  have hb9 := hb5.ext X9
  have hd9 := hd5.ext X9
  have hlr : (lb ++ nine).length = lb.length + 9 := by rw [List.length_append, h9]
  obtain ⟨rm, t1, t2, t3⟩ := od.bs.take od.cok (n := lb.length) (by omega)
  rw [List.take_left] at t2
  obtain ⟨r1, H10, c1, x, rfl, X10, ox⟩ := num_run t2 (by omega) hn size
  obtain ⟨r2, H11, c2, y, rfl, X11, oy⟩ := rnum_run (hb9.ext X10) (by omega) hn size
  have X911 := X10.trans X11
  have oo11 := ((oa.ext X5).ext X9).ext X911
  have og11 := (ob.ext X9).ext X911
  obtain ⟨r3, H12, c3, z, rfl, X12, oz⟩ := wvec_any oo11.bs og11.bs size (by omega) (by omega)
  have X912 := X911.trans X12
  obtain ⟨r4, H13, c4, w, rfl, X13, ow2⟩ := rvec_run (hb9.ext X912) (hd9.ext X912) size (by omega) (by omega)
  have X913 := X912.trans X13
  obtain ⟨LX, hLX⟩ : ∃ LX, LX = (if numE n size = 0 then lb ++ digits n size.toNat size.toNat else []) := ⟨_, rfl⟩
  obtain ⟨LZ, hLZ⟩ : ∃ LZ, LZ = (if vecE ld.length size = 0 then lb ++ digits ld.length size.toNat size.toNat ++ ld else []) := ⟨_, rfl⟩
  rw [← hLX] at ox oy
  rw [← hLZ] at oz ow2
  have q1 := equal_run (((ox.ext X11).ext X12).ext X13).bs ((oy.ext X12).ext X13).bs
  rw [show (LX == LX) = true by simp] at q1
  have q2 := equal_run (oz.ext X13).bs ow2.bs
  rw [show (LZ == LZ) = true by simp] at q2
  have or13 := od.ext X913
  obtain ⟨rest, s1, s2, _⟩ := or13.bs.drop or13.cok (n := lb.length) (by omega)
  rw [List.drop_left] at s2
  obtain ⟨H14, hH14⟩ : ∃ H14, H14 = H13.new (.cells 0 5 (bytesAV nine) 0 false) := ⟨_, rfl⟩
  have X14 : Ext H13 H14 := by rw [hH14]; exact Ext.new _ _
  have hlit2 : Bs H14 (.sl ⟨H13.n, 0, 0⟩ 9 (.ex 9)) nine := by have := (Ow.lit H13 nine).bs; rw [hH14]; rw [h9] at this; exact this
  have q3 := equal_run (s2.ext X14) hlit2
  rw [show (nine == nine) = true by simp] at q3
  subst hnine
  have e9 : ∀ ts, iop (.bsl 5 [.int .u8 0, .int .u8 0, .int .u8 0, .int .u8 0, .int .u8 0, .int .u8 0, .int .u8 0, .int .u8 0, .int .u8 0] 9 [(0, 1, .c (.int .u8 1)), (1, 1, .c (.int .u8 2)), (2, 1, .c (.int .u8 3)), (3, 1, .c (.int .u8 4)), (4, 1, .c (.int .u8 5)), (5, 1, .c (.int .u8 6)), (6, 1, .c (.int .u8 7)), (7, 1, .c (.int .u8 8)), (8, 1, .c (.int .u8 9))]) (ev ts) H7 = some (.val (.sl ⟨H7.n, 0, 0⟩ 9 (.ex 9)) H8) := fun ts => by rw [hH8]; kernel_rfl
  have e9' : ∀ ts, iop (.bsl 5 [.int .u8 0, .int .u8 0, .int .u8 0, .int .u8 0, .int .u8 0, .int .u8 0, .int .u8 0, .int .u8 0, .int .u8 0] 9 [(0, 1, .c (.int .u8 1)), (1, 1, .c (.int .u8 2)), (2, 1, .c (.int .u8 3)), (3, 1, .c (.int .u8 4)), (4, 1, .c (.int .u8 5)), (5, 1, .c (.int .u8 6)), (6, 1, .c (.int .u8 7)), (7, 1, .c (.int .u8 8)), (8, 1, .c (.int .u8 9))]) (ev ts) H13 = some (.val (.sl ⟨H13.n, 0, 0⟩ 9 (.ex 9)) H14) := fun ts => by rw [hH14]; kernel_rfl
  have hLXm : LX.length ≤ maxRow := by
    rw [hLX]
    split
    · rename_i he
      have : size.toNat ≤ 8 := by
        by_cases hs : 1 ≤ size ∧ size ≤ 4 ∨ size = 8
        · omega
        · simp [numE, hs] at he
      rw [List.length_append, digits_len]; omega
    · simp
  have hLZm : LZ.length ≤ maxRow := by
    rw [hLZ]
    split
    · rename_i he
      have hs : 1 ≤ size ∧ size ≤ 3 := by
        by_cases hs : 1 ≤ size ∧ size ≤ 3
        · exact hs
        · simp [vecE, hs] at he
      obtain ⟨m, rfl⟩ : ∃ m : Nat, size = m := ⟨size.toNat, by omega⟩
      have := numE_lt (size := m) (by omega) (by rw [← vecE_num (by omega)]; exact he)
      rw [List.length_append, List.length_append, digits_len]; omega
    · simp
  clear hLX hLZ
  refine Wp.seq ?_
  refine Wp.region ?_
  refine Wo.val _ _ (by kernel_rfl) (enew (by kernel_rfl)) ?_
  refine Wo.pre 1 (by kernel_rfl) ?_
  refine Wo.nil ?_
  refine Wp.seq ?_
  refine Wp.draw ?_
  refine Wd.pure (by kernel_rfl) (by kernel_rfl) ?_
  refine Wd.read (xb) (.ld none (.c (.ptr ⟨h.n, 0, 0⟩))) (by kernel_rfl) (by kernel_rfl) (iop_ld (a := ⟨h.n, 0, 0⟩) (by kernel_rfl) L0) ?_
  refine Wd.pure (by kernel_rfl) (by kernel_rfl) ?_
  refine Wd.read (xd) (.ld none (.c (.ptr ⟨h.n, 0, 1⟩))) (by kernel_rfl) (by kernel_rfl) (iop_ld (a := ⟨h.n, 0, 1⟩) (by kernel_rfl) L1) ?_
  refine Wd.pure (by kernel_rfl) (by kernel_rfl) ?_
  refine Wd.read (.int .u64 n) (.ld none (.c (.ptr ⟨h.n, 0, 2⟩))) (by kernel_rfl) (by kernel_rfl) (iop_ld (a := ⟨h.n, 0, 2⟩) (by kernel_rfl) L2) ?_
  refine Wd.pure (by kernel_rfl) (by kernel_rfl) ?_
  refine Wd.read (.int .i64 size) (.ld none (.c (.ptr ⟨h.n, 0, 3⟩))) (by kernel_rfl) (by kernel_rfl) (iop_ld (a := ⟨h.n, 0, 3⟩) (by kernel_rfl) L3) ?_
  refine Wd.pure (by kernel_rfl) (by kernel_rfl) ?_
  refine Wd.pure (by kernel_rfl) (by kernel_rfl) ?_
  refine Wd.pure (by kernel_rfl) (by kernel_rfl) ?_
  refine Wd.pure (by kernel_rfl) (by kernel_rfl) ?_
  refine Wd.done (holds_of [(.ld none (.c (.ptr ⟨h.n, 0, 3⟩)), .int .i64 size, 7), (.ld none (.c (.ptr ⟨h.n, 0, 2⟩)), .int .u64 n, 5), (.ld none (.c (.ptr ⟨h.n, 0, 1⟩)), xd, 3), (.ld none (.c (.ptr ⟨h.n, 0, 0⟩)), xb, 1)] (by kernel_rfl) (holds_and (rd_ld L3) (holds_and (rd_ld L2) (holds_and (rd_ld L1) (holds_and (rd_ld L0) rfl))))) ?_
  refine Wp.seq ?_
  refine Wp.region ?_
  refine Wo.val (.sl ⟨H1.n, 0, 0⟩ 0 (.ex 0)) (H1.new (.cells 0 5 [] 0 false)) (by kernel_rfl) (((by kernel_rfl))) ?_
  refine Wo.pre 1 (by kernel_rfl) ?_
  refine Wo.val ow H3 (by kernel_rfl) (iop_app (v := .sl ⟨H1.n, 0, 0⟩ 0 (.ex 0)) (w := xb) (by kernel_rfl) (by kernel_rfl) hb.parts.2.2 ea) ?_
  refine Wo.val (.sl ⟨H3.n, 0, 0⟩ 0 (.ex 0)) (H3.new (.cells 0 5 [] 0 false)) (by kernel_rfl) (((by kernel_rfl))) ?_
  refine Wo.pre 1 (by kernel_rfl) ?_
  refine Wo.val gi H5 (by kernel_rfl) (iop_app (v := .sl ⟨H3.n, 0, 0⟩ 0 (.ex 0)) (w := xd) (by kernel_rfl) (by kernel_rfl) hd.parts.2.2 eb) ?_
  refine Wo.pre 1 (by kernel_rfl) ?_
  refine Wo.pre 1 (by kernel_rfl) ?_
  refine Wo.nil ?_
  refine Wp.seq ?_
  refine Wp.region ?_
  refine Wo.val (.sl ⟨H5.n, 0, 0⟩ 0 (.ex 0)) (H5.new (.cells 0 5 [] 0 false)) (by kernel_rfl) (((by kernel_rfl))) ?_
  refine Wo.pre 1 (by kernel_rfl) ?_
  refine Wo.val q H7 (by kernel_rfl) (iop_app (v := .sl ⟨H5.n, 0, 0⟩ 0 (.ex 0)) (w := xb) (by kernel_rfl) (by kernel_rfl) hb.parts.2.2 ec) ?_
  refine Wo.val _ _ (by kernel_rfl) (e9 _) ?_
  refine Wo.val room H9 (by kernel_rfl) (iop_app (v := q) (w := .sl ⟨H7.n, 0, 0⟩ 9 (.ex 9)) (by kernel_rfl) (by kernel_rfl) rfl ed) ?_
  refine Wo.pre 1 (by kernel_rfl) ?_
  refine Wo.nil ?_
  refine Wp.seq ?_
  refine Wp.region ?_
  refine Wo.pre 1 (by kernel_rfl) ?_
  refine Wo.pre 1 (by kernel_rfl) ?_
  refine Wo.val (.int .i64 lb.length) H9 (by kernel_rfl) (hb9.len (by kernel_rfl)) ?_
  refine Wo.val rm H9 (by kernel_rfl) (t1 _ _ _ (by kernel_rfl) (by kernel_rfl)) ?_
  refine Wo.pre 1 (by kernel_rfl) ?_
  refine Wo.pre 1 (by kernel_rfl) ?_
  refine Wo.call (by kernel_rfl) (by kernel_rfl) (c1) ?_
  refine Wo.pre 1 (by kernel_rfl) ?_
  refine Wo.pre 1 (by kernel_rfl) ?_
  refine Wo.pre 1 (by kernel_rfl) ?_
  refine Wo.pre 1 (by kernel_rfl) ?_
  refine Wo.pre 1 (by kernel_rfl) ?_
  refine Wo.nil ?_
  refine Wp.seq ?_
  refine Wp.region ?_
  refine Wo.pre 1 (by kernel_rfl) ?_
  refine Wo.pre 1 (by kernel_rfl) ?_
  refine Wo.pre 1 (by kernel_rfl) ?_
  refine Wo.call (by kernel_rfl) (by kernel_rfl) (c2) ?_
  refine Wo.pre 1 (by kernel_rfl) ?_
  refine Wo.pre 1 (by kernel_rfl) ?_
  refine Wo.pre 1 (by kernel_rfl) ?_
  refine Wo.pre 1 (by kernel_rfl) ?_
  refine Wo.pre 1 (by kernel_rfl) ?_
  refine Wo.nil ?_
  refine Wp.seq ?_
  refine Wp.region ?_
  refine Wo.pre 1 (by kernel_rfl) ?_
  refine Wo.pre 1 (by kernel_rfl) ?_
  refine Wo.pre 1 (by kernel_rfl) ?_
  refine Wo.call (by kernel_rfl) (by kernel_rfl) (c3) ?_
  refine Wo.pre 1 (by kernel_rfl) ?_
  refine Wo.pre 1 (by kernel_rfl) ?_
  refine Wo.pre 1 (by kernel_rfl) ?_
  refine Wo.pre 1 (by kernel_rfl) ?_
  refine Wo.pre 1 (by kernel_rfl) ?_
  refine Wo.nil ?_
  refine Wp.seq ?_
  refine Wp.region ?_
  refine Wo.pre 1 (by kernel_rfl) ?_
  refine Wo.pre 1 (by kernel_rfl) ?_
  refine Wo.pre 1 (by kernel_rfl) ?_
  refine Wo.call (by kernel_rfl) (by kernel_rfl) (c4) ?_
  refine Wo.pre 1 (by kernel_rfl) ?_
  refine Wo.pre 1 (by kernel_rfl) ?_
  refine Wo.pre 1 (by kernel_rfl) ?_
  refine Wo.pre 1 (by kernel_rfl) ?_
  refine Wo.pre 1 (by kernel_rfl) ?_
  refine Wo.nil ?_
  refine Wp.seq ?_
  refine Wp.region ?_
  refine Wo.pre 1 (by kernel_rfl) ?_
  refine Wo.pre 1 (by kernel_rfl) ?_
  refine Wo.val (.bool true) H13 (by kernel_rfl) (iop_eqB (k := .i64) (a := numE n size) (b := numE n size) true (by kernel_rfl) (by kernel_rfl) (by simp)) ?_
  refine Wo.pre 1 (by kernel_rfl) ?_
  refine Wo.pre 1 (by kernel_rfl) ?_
  refine Wo.pre 1 (by kernel_rfl) ?_
  refine Wo.call (by kernel_rfl) (by kernel_rfl) (q1) ?_
  refine Wo.pre 1 (by kernel_rfl) ?_
  refine Wo.pre 1 (by kernel_rfl) ?_
  refine Wo.pre 1 (by kernel_rfl) ?_
  refine Wo.pre 1 (by kernel_rfl) ?_
  refine Wo.val (.bool true) H13 (by kernel_rfl) (iop_eqB (k := .i64) (a := vecE ld.length size) (b := vecE ld.length size) true (by kernel_rfl) (by kernel_rfl) (by simp)) ?_
  refine Wo.pre 1 (by kernel_rfl) ?_
  refine Wo.pre 1 (by kernel_rfl) ?_
  refine Wo.pre 1 (by kernel_rfl) ?_
  refine Wo.pre 1 (by kernel_rfl) ?_
  refine Wo.call (by kernel_rfl) (by kernel_rfl) (q2) ?_
  refine Wo.pre 1 (by kernel_rfl) ?_
  refine Wo.pre 1 (by kernel_rfl) ?_
  refine Wo.pre 1 (by kernel_rfl) ?_
  refine Wo.pre 1 (by kernel_rfl) ?_
  refine Wo.val (.int .i64 lb.length) H13 (by kernel_rfl) (((hb9.ext X913).len (by kernel_rfl))) ?_
  refine Wo.val rest H13 (by kernel_rfl) (s1 _ _ _ (by kernel_rfl) (by kernel_rfl)) ?_
  refine Wo.val _ _ (by kernel_rfl) (e9' _) ?_
  refine Wo.call (by kernel_rfl) (by kernel_rfl) (q3) ?_
  refine Wo.pre 1 (by kernel_rfl) ?_
  refine Wo.pre 1 (by kernel_rfl) ?_
  refine Wo.nil ?_
  refine Wp.seq ?_
  refine Wp.seq ?_
  refine Wp.region ?_
  refine Wo.pre 1 (by kernel_rfl) ?_
  refine Wo.val (.int .i64 LX.length) H14 (by kernel_rfl) ((((((ox.ext X11).ext X12).ext X13).ext X14).bs.len (by kernel_rfl))) ?_
  refine Wo.pre 1 (by kernel_rfl) ?_
  refine Wo.nil ?_
  refine Wp.block ?_
  have n1 := X10.1
  have n2 := X11.1
  have n3 := X12.1
  have n4 := X13.1
  have n5 := X14.1
  obtain ⟨bx, gx, hbx, hsx⟩ := ox.spoil (((X11.trans X12).trans X13).trans X14) H14.n
  refine spoil3_2 hLXm LX.length 0 (by omega) H14 _ x (by kernel_rfl) (by kernel_rfl) (by kernel_rfl) (by kernel_rfl) hsx _ ?_
  intro ts1 K1 g0 g1 g2 g3 g4
  clear hsx g4
  rw [laid_of g0 19 (fun j hj => g1 j (by omega) (by omega)) [(3, xb), (4, xd), (7, ow), (8, gi), (9, room), (14, z), (18, .bool true)] (by kernel_rfl) (by kernel_rfl)]
  have XK1 : ∀ b, b < H14.n → ¬ (H9.n ≤ b ∧ b < H10.n) → K1.get b = H14.get b := fun b hb hn => g3 b (by omega)
  have hz1 : Ow H11.n K1 z LZ := by
    rcases oz with h0 | ⟨b, g, w1, w2, w3, w4⟩
    · exact .inl h0
    · refine .inr ⟨b, g, w1, by omega, ?_, w4⟩
      rw [XK1 b (by omega) (by omega), X14.2 b (by omega), X13.2 b (by omega)]
      exact w3
  obtain ⟨bz, gz, hbz, hsz⟩ := hz1.spoil (Ext.refl K1) K1.n
  refine Wp.seq ?_
  refine Wp.seq ?_
  refine Wp.region ?_
  refine Wo.pre 1 (by kernel_rfl) ?_
  refine Wo.val (.int .i64 LZ.length) K1 (by kernel_rfl) ((hz1.bs.len (by kernel_rfl))) ?_
  refine Wo.pre 8 (by kernel_rfl) ?_
  refine Wo.nil ?_
  refine Wp.block ?_
  refine spoil3_1 hLZm LZ.length 0 (by omega) K1 _ z (by kernel_rfl) (by kernel_rfl) (by kernel_rfl) (by kernel_rfl) hsz _ ?_
  intro ts2 K2 k0 k1 k2 k3 k4
  clear hsz k4
  rw [laid_of k0 19 (fun j hj => k1 j (by omega) (by omega)) [(3, xb), (4, xd), (7, ow), (8, gi), (9, room), (18, .bool true)] (by kernel_rfl) (by kernel_rfl)]
  have XK : Ext H9 K2 := by
    refine ⟨by omega, fun b hb => ?_⟩
    rw [k3 b (by omega), XK1 b (by omega) (by omega), X14.2 b (by omega), X13.2 b (by omega), X12.2 b (by omega), X11.2 b (by omega), X10.2 b (by omega)]
  have p1 := equal_run (((oa.ext X5).ext X9).ext XK).bs (hb9.ext XK)
  rw [show (lb == lb) = true by simp] at p1
  have p2 := equal_run ((ob.ext X9).ext XK).bs (hd9.ext XK)
  rw [show (ld == ld) = true by simp] at p2
  have orK := od.ext XK
  obtain ⟨rk, u1, u2, _⟩ := orK.bs.take orK.cok (n := lb.length) (by omega)
  rw [List.take_left] at u2
  have p3 := equal_run u2 (hb9.ext XK)
  rw [show (lb == lb) = true by simp] at p3
  refine Wp.seq ?_
  refine Wp.region ?_
  refine Wo.call (by kernel_rfl) (by kernel_rfl) (awake24_run K2) ?_
  refine Wo.pre 3 (by kernel_rfl) ?_
  refine Wo.pre 3 (by kernel_rfl) ?_
  refine Wo.call (by kernel_rfl) (by kernel_rfl) (p1) ?_
  refine Wo.pre 3 (by kernel_rfl) ?_
  refine Wo.pre 1 (by kernel_rfl) ?_
  refine Wo.call (by kernel_rfl) (by kernel_rfl) (p2) ?_
  refine Wo.pre 3 (by kernel_rfl) ?_
  refine Wo.pre 1 (by kernel_rfl) ?_
  refine Wo.val (.int .i64 lb.length) K2 (by kernel_rfl) (((hb9.ext XK).len (by kernel_rfl))) ?_
  refine Wo.val rk K2 (by kernel_rfl) (u1 _ _ _ (by kernel_rfl) (by kernel_rfl)) ?_
  refine Wo.pre 1 (by kernel_rfl) ?_
  refine Wo.call (by kernel_rfl) (by kernel_rfl) (p3) ?_
  refine Wo.pre 8 (by kernel_rfl) ?_
  refine Wo.nil ?_
  exact Wp.ret ⟨.inr rfl, .bool true, (by kernel_rfl), rfl⟩
end Go.Det

/- The loops of the reference's reader: a number out of bytes. -/
set_option linter.unusedVariables false
set_option linter.unusedSimpArgs false
set_option linter.unusedSectionVars false
namespace Go.Det
open Go.Proofs
attribute [local simp] skip_iff ret_iff exit_iff seq_iff block_iff thenQ_normal thenQ_ret thenQ_exit thenQ_goto blockQ_normal blockQ_ret blockQ_exit blockQ_goto condQ_bool cond_iff region_iff wo_nil ansQ_val ansQ_call wo_cons wo_guard wanted put setL getL ev iop binop binInt shInt asI retV resOf unop
attribute [local congr] ansQ_congr condQ_congr Wo_congr Wp_congr

/-- One cell of a row. -/
theorem ldn_at {h : H} {a : AA} {m : Nat} {c : List AV} (hc : h.ldn a m = some c) {i : Nat} {v : AV} (hv : c[i]? = some v) : h.ldg ⟨a.b, a.g, a.o + i⟩ none = some v := by
  unfold H.ldn at hc
  cases hr : h.row a with
  | none => rw [hr] at hc; simp at hc
  | some c0 =>
    rw [hr] at hc
    simp only [cut] at hc
    split at hc
    · simp only [Option.some.injEq] at hc
      subst hc
      simp only [H.ldg, H.ld, row_drop hr i, getL_eq]
      rw [List.getElem?_take] at hv
      split at hv
      · rw [List.getElem?_drop] at hv; exact hv
      · simp at hv
    · simp at hc

theorem Bs.at {h : H} {a : AA} {c : Cp} {l : List UInt8} (hb : Bs h (.sl a l.length c) l) {i : Nat} {b : UInt8} (hi : l[i]? = some b) : h.ldg ⟨a.b, a.g, a.o + i⟩ none = some (.int .u8 b.toNat) := by
  rcases hb with ⟨e, _⟩ | ⟨a', c', e, _, h2⟩
  · simp at e
  · simp only [AV.sl.injEq] at e
    obtain ⟨rfl, _, rfl⟩ := e
    exact ldn_at h2 (by simp [bytesAV, hi])

theorem be_take {l : List UInt8} {i : Nat} {c : UInt8} (hc : l[i]? = some c) : be (l.take (i + 1)) = be (l.take i) * 256 + c.toNat := by
  have ht : l.take (i + 1) = l.take i ++ [c] := by rw [List.take_add_one, hc]; rfl
  rw [ht, be_snoc]

theorem rrnum_loop {h : H} {l : List UInt8} {b : Nat} {a : AA} {cc : Cp} (hg : h.ldg ⟨b, 0, 0⟩ none = some (.sl a l.length cc)) (hb : Bs h (.sl a l.length cc) l) {size : Nat} (hs : size ≤ 8) (hl : size ≤ l.length) :
    ∀ (k i : Nat), i + k = size → ∀ (ts : List AV), ts.length = 44 → getL ts 0 = some (.ptr ⟨b, 0, 0⟩) → getL ts 1 = some (.int .i64 size) → getL ts 6 = some (.int .u64 (be (l.take i) : Nat)) → getL ts 7 = some (.int .i64 i) →
      ∀ (Q : Ex → St → Prop), (∀ ts', ts'.length = 44 → (∀ j, j < 6 → getL ts' j = getL ts j) → getL ts' 6 = some (.int .u64 (be (l.take size) : Nat)) → Q (.exit 0) (ts', h)) → Wp TF (.loop l28_1) (ts, h) Q := by
  intro k
  induction k with
  | zero =>
    intro i hi ts t0 ta t1 t6 t7 Q hQ
    obtain rfl : i = size := by omega
    refine Wp.loop ?_
    simp [l28_1, t0, t1, t7, getL_put, len_put]
    refine hQ _ (by simp [t0, len_put]) (fun j hj => ?_) (by simp [getL_put, t6])
    repeat rw [getL_low _ _ hj (by omega)]
  | succ k ih =>
    intro i hi ts t0 ta t1 t6 t7 Q hQ
    refine Wp.loop ?_
    have hlt : i < size := by omega
    have hlt2 : i < l.length := by omega
    obtain ⟨c, hc⟩ : ∃ c, l[i]? = some c := ⟨l[i]'(by omega), by simp [hlt2]⟩
    have hld := hb.at hc
    have hA : be (l.take i) < 256 ^ i := by have := be_lt (l.take i); rwa [List.length_take, Nat.min_eq_left (by omega)] at this
    have hA2 : be (l.take i) * 256 + 255 < 2 ^ 64 := by
      have : 256 ^ i ≤ 256 ^ 7 := Nat.pow_le_pow_right (by omega) (by omega)
      omega
    have hbe := be_take hc
    obtain ⟨A, hAe⟩ : ∃ A, A = be (l.take i) := ⟨_, rfl⟩
    rw [← hAe] at t6 hA2 hbe
    have w1 : IntKind.i64.wrap ((i : Int) + 1) = (i : Int) + 1 := i64_fit _ (by omega)
    have w2 : IntKind.u64.wrap (256 * (A : Int)) = 256 * (A : Int) := u64_fit _ (by omega)
    have hc8 := c.toNat_lt
    have w3 : IntKind.u64.wrap ((c.toNat : Nat) : Int) = ((c.toNat : Nat) : Int) := u64_fit _ (by omega)
    have w4 : IntKind.u64.wrap (256 * (A : Int) + ((c.toNat : Nat) : Int)) = ((be (l.take (i + 1)) : Nat) : Int) := by rw [u64_fit _ (by omega), hbe]; omega
    simp only [l28_1]
    simp [ta, t0, t1, t6, t7, getL_put, len_put, hlt, hlt2, hg, hld, w2, w3, w4]
    refine ih (i + 1) (by omega) _ (by simp [t0, len_put]) (by simp [ta, getL_put]) (by simp [t1, getL_put]) (by simp [t0, getL_put, len_put]) (by simp [t0, getL_put, len_put, w1]) Q ?_
    intro ts' g0 g1 g2
    refine hQ ts' g0 (fun j hj => ?_) g2
    rw [g1 j hj]
    repeat rw [getL_low _ _ hj (by omega)]

theorem rrvec_loop {h : H} {l : List UInt8} {b : Nat} {a : AA} {cc : Cp} (hg : h.ldg ⟨b, 0, 0⟩ none = some (.sl a l.length cc)) (hb : Bs h (.sl a l.length cc) l) {size : Nat} (hs : size ≤ 3) (hl : size ≤ l.length) :
    ∀ (k i : Nat), i + k = size → ∀ (ts : List AV), ts.length = 73 → getL ts 0 = some (.ptr ⟨b, 0, 0⟩) → getL ts 1 = some (.int .i64 size) → getL ts 6 = some (.int .i64 (be (l.take i) : Nat)) → getL ts 7 = some (.int .i64 i) →
      ∀ (Q : Ex → St → Prop), (∀ ts', ts'.length = 73 → (∀ j, j < 6 → getL ts' j = getL ts j) → getL ts' 6 = some (.int .i64 (be (l.take size) : Nat)) → Q (.exit 0) (ts', h)) → Wp TF (.loop l30_1) (ts, h) Q := by
  intro k
  induction k with
  | zero =>
    intro i hi ts t0 ta t1 t6 t7 Q hQ
    obtain rfl : i = size := by omega
    refine Wp.loop ?_
    simp [l30_1, t0, t1, t7, getL_put, len_put]
    refine hQ _ (by simp [t0, len_put]) (fun j hj => ?_) (by simp [getL_put, t6])
    repeat rw [getL_low _ _ hj (by omega)]
  | succ k ih =>
    intro i hi ts t0 ta t1 t6 t7 Q hQ
    refine Wp.loop ?_
    have hlt : i < size := by omega
    have hlt2 : i < l.length := by omega
    obtain ⟨c, hc⟩ : ∃ c, l[i]? = some c := ⟨l[i]'(by omega), by simp [hlt2]⟩
    have hld := hb.at hc
    have hA : be (l.take i) < 256 ^ i := by have := be_lt (l.take i); rwa [List.length_take, Nat.min_eq_left (by omega)] at this
    have hA2 : be (l.take i) * 256 + 255 < 2 ^ 62 := by
      have : 256 ^ i ≤ 256 ^ 3 := Nat.pow_le_pow_right (by omega) (by omega)
      omega
    have hbe := be_take hc
    obtain ⟨A, hAe⟩ : ∃ A, A = be (l.take i) := ⟨_, rfl⟩
    rw [← hAe] at t6 hA2 hbe
    have w1 : IntKind.i64.wrap ((i : Int) + 1) = (i : Int) + 1 := i64_fit _ (by omega)
    have w2 : IntKind.i64.wrap (256 * (A : Int)) = 256 * (A : Int) := i64_fit _ (by omega)
    have hc8 := c.toNat_lt
    have w3 : IntKind.i64.wrap ((c.toNat : Nat) : Int) = ((c.toNat : Nat) : Int) := i64_fit _ (by omega)
    have w4 : IntKind.i64.wrap (256 * (A : Int) + ((c.toNat : Nat) : Int)) = ((be (l.take (i + 1)) : Nat) : Int) := by rw [i64_fit _ (by omega), hbe]; omega
    simp only [l30_1]
    simp [ta, t0, t1, t6, t7, getL_put, len_put, hlt, hlt2, hg, hld, w2, w3, w4]
    refine ih (i + 1) (by omega) _ (by simp [t0, len_put]) (by simp [ta, getL_put]) (by simp [t1, getL_put]) (by simp [t0, getL_put, len_put]) (by simp [t0, getL_put, len_put, w1]) Q ?_
    intro ts' g0 g1 g2
    refine hQ ts' g0 (fun j hj => ?_) g2
    rw [g1 j hj]
    repeat rw [getL_low _ _ hj (by omega)]
end Go.Det

/- The reference's reader; the program's reader, all its ways. -/
set_option linter.unusedVariables false
set_option linter.unusedSimpArgs false
set_option linter.unusedSectionVars false
namespace Go.Det
open Go.Proofs
attribute [local irreducible] Wp Wo Wd iop ev slots quiets wanted put

def rdV (l : List UInt8) (size : Int) : Nat := if rdE l size = 0 then be (l.take size.toNat) else 0
def rdL (l : List UInt8) (size : Int) : List UInt8 := if rdE l size = 0 then l.drop size.toNat else l
def vE (l : List UInt8) (size : Int) : Int := if ¬ (1 ≤ size ∧ size ≤ 3) then 1 else if (l.length : Int) < size then 4 else if l.length < size.toNat + be (l.take size.toNat) then 4 else 0
def vN (l : List UInt8) (size : Int) : Nat := size.toNat + be (l.take size.toNat)
def vX (l : List UInt8) (size : Int) : List UInt8 := if vE l size = 0 then (l.drop size.toNat).take (be (l.take size.toNat)) else []
def vL (l : List UInt8) (size : Int) : List UInt8 := if vE l size = 0 then l.drop (vN l size) else l
def tX (l : List UInt8) (n : Int) : List UInt8 := if readyE l n = 0 then l.take n.toNat else []
def tL (l : List UInt8) (n : Int) : List UInt8 := if readyE l n = 0 then l.drop n.toNat else l

theorem rdnum_any {h : H} {b : Nat} {v : AV} {l : List UInt8} (hR : Rd h b v l) (size : Int) (hl : l.length ≤ maxRow) :
    ∃ h' v', Runs TF 27 [.ptr ⟨b, 0, 0⟩, .int .i64 size] h (.tup [.int .u64 (rdV l size : Nat), .int .i64 (rdE l size)]) h' ∧ Rd h' b v' (rdL l size) ∧ ExtB b h h' ∧ SB v v' := by
  by_cases he : rdE l size = 0
  · have h1 : (1 ≤ size ∧ size ≤ 4 ∨ size = 8) ∧ ¬ (l.length : Int) < size := by
      unfold rdE at he
      split at he
      · cases he
      · rename_i h1
        split at he
        · cases he
        · rename_i h2; exact ⟨Classical.not_not.1 h1, h2⟩
    obtain ⟨m, rfl⟩ : ∃ m : Nat, size = m := ⟨size.toNat, by omega⟩
    obtain ⟨r, h', c1, v', rfl, c2, c3⟩ := rdnum_run hR (size := m) (by omega) (by omega) hl
    refine ⟨h', v', ?_, ?_, c3⟩
    · rw [he, rdV, if_pos he]; exact c1
    · rw [rdL, if_pos he]; exact c2
  · refine ⟨h, v, ?_, ?_, ⟨Nat.le_refl _, fun _ _ _ => rfl⟩, SB.refl _⟩
    · rw [rdV, if_neg he]; exact rdnum_fail hR he
    · rw [rdL, if_neg he]; exact hR

theorem take_any {h : H} {b : Nat} {v : AV} {l : List UInt8} (hR : Rd h b v l) (n : Int) (hl : l.length ≤ maxRow) :
    ∃ h' x v', Runs TF 31 [.ptr ⟨b, 0, 0⟩, .int .i64 n] h (.tup [x, .int .i64 (readyE l n)]) h' ∧ Rd h' b v' (tL l n) ∧ Ow h.n h' x (tX l n) ∧ ExtB b h h' ∧ SB v v' := by
  by_cases he : readyE l n = 0
  · have h1 : 0 ≤ n ∧ n ≤ l.length := by
      unfold readyE at he
      split at he
      · cases he
      · split at he
        · cases he
        · omega
    obtain ⟨m, rfl⟩ : ∃ m : Nat, n = m := ⟨n.toNat, by omega⟩
    obtain ⟨r, h', c1, x, v', rfl, c2, c3, c4⟩ := take_run hR (n := m) (by omega) hl
    refine ⟨h', x, v', by rw [he]; exact c1, ?_, ?_, c4⟩
    · rw [tL, if_pos he]; exact c2
    · rw [tX, if_pos he]; exact c3
  · refine ⟨h, .nils, v, take_fail hR he, ?_, ?_, ⟨Nat.le_refl _, fun _ _ _ => rfl⟩, SB.refl _⟩
    · rw [tL, if_neg he]; exact hR
    · rw [tX, if_neg he]; exact .inl ⟨rfl, rfl⟩

theorem vec_bad {h : H} {b : Nat} {v : AV} {l : List UInt8} (hR : Rd h b v l) {size : Int} (hs : ¬ (1 ≤ size ∧ size ≤ 3)) :
    Runs TF 29 [.ptr ⟨b, 0, 0⟩, .int .i64 size] h (.tup [.nils, .int .i64 1]) h := by
  refine Runs.of' f29 rfl ?_
  have e0 : readyE l 0 = 0 := by simp [readyE]
  have hready := ready_run hR 0
  rw [e0] at hready
  have hsz := sized_run size h
  by_cases h1 : 1 ≤ size ∧ size ≤ 4 ∨ size = 8
  · rw [decide_eq_true h1] at hsz
    refine Wp.seq ?_
    refine Wp.region ?_
    refine Wo.pre 8 (by kernel_rfl) ?_
    refine Wo.nil ?_
    refine Wp.seq ?_
    refine Wp.seq ?_
    refine Wp.region ?_
    refine Wo.pre 1 (by kernel_rfl) ?_
    refine Wo.call (by kernel_rfl) (by kernel_rfl) (hready) ?_
    refine Wo.pre 8 (by kernel_rfl) ?_
    refine Wo.nil ?_
    refine Wp.seq ?_
    refine Wp.region ?_
    refine Wo.pre 8 (by kernel_rfl) ?_
    refine Wo.nil ?_
    refine Wp.cond false (by kernel_rfl) ?_
    refine Wp.skip ?_
    refine Wp.seq ?_
    refine Wp.seq ?_
    refine Wp.region ?_
    refine Wo.pre 1 (by kernel_rfl) ?_
    refine Wo.call (by kernel_rfl) (by kernel_rfl) (hsz) ?_
    refine Wo.pre 8 (by kernel_rfl) ?_
    refine Wo.nil ?_
    refine Wp.cond (decide (size > 3)) (by kernel_rfl) ?_
    rw [if_pos (by simp; omega)]
    refine Wp.seq ?_
    refine Wp.region ?_
    refine Wo.pre 8 (by kernel_rfl) ?_
    refine Wo.nil ?_
    exact Wp.ret ⟨.inr rfl, rfl, (by kernel_rfl)⟩
  · rw [decide_eq_false h1] at hsz
    refine Wp.seq ?_
    refine Wp.region ?_
    refine Wo.pre 8 (by kernel_rfl) ?_
    refine Wo.nil ?_
    refine Wp.seq ?_
    refine Wp.seq ?_
    refine Wp.region ?_
    refine Wo.pre 1 (by kernel_rfl) ?_
    refine Wo.call (by kernel_rfl) (by kernel_rfl) (hready) ?_
    refine Wo.pre 8 (by kernel_rfl) ?_
    refine Wo.nil ?_
    refine Wp.seq ?_
    refine Wp.region ?_
    refine Wo.pre 8 (by kernel_rfl) ?_
    refine Wo.nil ?_
    refine Wp.cond false (by kernel_rfl) ?_
    refine Wp.skip ?_
    refine Wp.seq ?_
    refine Wp.seq ?_
    refine Wp.region ?_
    refine Wo.pre 1 (by kernel_rfl) ?_
    refine Wo.call (by kernel_rfl) (by kernel_rfl) (hsz) ?_
    refine Wo.pre 8 (by kernel_rfl) ?_
    refine Wo.nil ?_
    refine Wp.cond true (by kernel_rfl) ?_
    refine Wp.seq ?_
    refine Wp.region ?_
    refine Wo.pre 8 (by kernel_rfl) ?_
    refine Wo.nil ?_
    exact Wp.ret ⟨.inr rfl, rfl, (by kernel_rfl)⟩

theorem vec_any {h : H} {b : Nat} {v : AV} {l : List UInt8} (hR : Rd h b v l) (size : Int) (hl : l.length ≤ maxRow) :
    ∃ h' x v', Runs TF 29 [.ptr ⟨b, 0, 0⟩, .int .i64 size] h (.tup [x, .int .i64 (vE l size)]) h' ∧ Rd h' b v' (vL l size) ∧ Ow h.n h' x (vX l size) ∧ ExtB b h h' ∧ SB v v' := by
  by_cases hs : 1 ≤ size ∧ size ≤ 3
  · obtain ⟨m, rfl⟩ : ∃ m : Nat, size = m := ⟨size.toNat, by omega⟩
    have hs' : 1 ≤ m ∧ m ≤ 3 := by omega
    by_cases h1 : l.length < m
    · have he : vE l m = 4 := by
        have h1' : (l.length : Int) < (m : Int) := by omega
        simp only [vE, hs, and_self, h1', not_true, if_false, if_true]
      refine ⟨h, .nils, v, by rw [he]; exact vec_short hR hs' h1, ?_, ?_, ⟨Nat.le_refl _, fun _ _ _ => rfl⟩, SB.refl _⟩
      · rw [vL, if_neg (by rw [he]; decide)]; exact hR
      · rw [vX, if_neg (by rw [he]; decide)]; exact .inl ⟨rfl, rfl⟩
    · have h1' : ¬ (l.length : Int) < (m : Int) := by omega
      by_cases h2 : l.length < m + be (l.take m)
      · have he : vE l m = 4 := by
          simp only [vE, hs, and_self, h1', not_true, if_false, Int.toNat_natCast, h2, if_true]
        have hbl : be (l.take m) < 2 ^ 63 := by
          have := be_lt (l.take m)
          rw [List.length_take, Nat.min_eq_left (by omega)] at this
          have h2 : 256 ^ m ≤ 256 ^ 3 := Nat.pow_le_pow_right (by omega) hs'.2
          omega
        obtain ⟨h2', d1, d2, d3⟩ := vec_cut hR hs' rfl (by omega) h2 hl hbl
        refine ⟨h2', .nils, v, by rw [he]; exact d1, ?_, ?_, d3, SB.refl _⟩
        · rw [vL, if_neg (by rw [he]; decide)]; exact d2
        · rw [vX, if_neg (by rw [he]; decide)]; exact .inl ⟨rfl, rfl⟩
      · have he : vE l m = 0 := by
          simp only [vE, hs, and_self, h1', not_true, if_false, Int.toNat_natCast, h2]
        obtain ⟨r, h', c1, x, v', rfl, c2, c3, c4⟩ := vec_run hR hs' rfl (by omega) hl
        refine ⟨h', x, v', by rw [he]; exact c1, ?_, ?_, c4⟩
        · rw [vL, if_pos he, vN, Int.toNat_natCast]; exact c2
        · rw [vX, if_pos he, Int.toNat_natCast]; exact c3
  · have he : vE l size = 1 := by simp only [vE, hs, not_false_eq_true, if_true]
    refine ⟨h, .nils, v, by rw [he]; exact vec_bad hR hs, ?_, ?_, ⟨Nat.le_refl _, fun _ _ _ => rfl⟩, SB.refl _⟩
    · rw [vL, if_neg (by rw [he]; decide)]; exact hR
    · rw [vX, if_neg (by rw [he]; decide)]; exact .inl ⟨rfl, rfl⟩

/-- The reference's reader. -/
def RRd (h : H) (b : Nat) (w : AV) (l : List UInt8) : Prop := b < h.n ∧ h.get b = some (.cells 0 51 [w] 0 false) ∧ Bs h w l ∧ Cok w ∧ ∀ a n c, w = .sl a n c → a.b ≠ b

theorem RRd.ld {h : H} {b : Nat} {w : AV} {l : List UInt8} (hR : RRd h b w l) : h.ldg ⟨b, 0, 0⟩ none = some w := by
  simp [H.ldg, H.ld, H.row, hR.2.1, getL]

/-- What is left is written. -/
theorem RRd.st {h : H} {b : Nat} {w v' : AV} {l l' : List UInt8} (hR : RRd h b w l) (hb : Bs h v' l') (hc : Cok v') (hne : ∀ a n c, v' = .sl a n c → a.b ≠ b) :
    ∃ h', h.st ⟨b, 0, 0⟩ [v'] = some h' ∧ RRd h' b v' l' ∧ ExtB b h h' := by
  have hp := hb.parts
  refine ⟨h.set b (.cells 0 51 [v'] 0 false), ?_, ⟨hR.1, by rw [h.get_set], ?_, hc, hne⟩, Nat.le_refl _, fun k _ hkb => h.get_set_ne b k _ hkb⟩
  · unfold H.st
    simp only [hR.2.1]
    rw [if_pos (by simp [hp.2.1])]
    rfl
  · rcases hb with ⟨e1, e2⟩ | ⟨a, c, e1, e2, e3⟩
    · exact .inl ⟨e1, e2⟩
    · exact .inr ⟨a, c, e1, e2, by rw [ldn_same (h.get_set_ne b _ _ (hne _ _ _ e1))]; exact e3⟩

theorem rrnew_run {v : AV} {l : List UInt8} {h : H} (hb : Bs h v l) (hl : l.length ≤ maxRow) : ∃ h' b u, Runs TF 26 [v] h (.ptr ⟨b, 0, 0⟩) h' ∧ h.n ≤ b ∧ RRd h' b u l ∧ Ext h h' ∧ ∀ a n c, u = .sl a n c → h.n ≤ a.b ∧ a.b < b := by
  obtain ⟨x, h1, c1, c2, c3⟩ := own_run hb hl
  have hp := c3.bs.parts
  obtain ⟨h2, hh2⟩ : ∃ h2, h2 = h1.new (.cells 0 51 [x] 0 false) := ⟨_, rfl⟩
  have E : Ext h1 h2 := by rw [hh2]; exact Ext.new _ _
  have e1 : ∀ {y : IX} {ρ : IX → AV}, ρ y = x → iop (.build [.nils] [(0, 1, y)]) ρ h1 = some (.val (.agg [x]) h1) := by
    intro y ρ hy
    simp [iop, fillL, hy, hp.1, putAt]
  have e2 : ∀ {y : IX} {ρ : IX → AV}, ρ y = .agg [x] → iop (.new 51 y) ρ h1 = some (.val (.ptr ⟨h1.n, 0, 0⟩) h2) := fun hy => by rw [hh2]; exact iop_new hy (by simp [hp.2.1])
  refine ⟨h2, h1.n, x, Runs.of' f26 rfl ?_, c2.1, ⟨by rw [hh2]; simp, by rw [hh2]; exact h1.get_new _, (c3.ext E).bs, c3.cok, ?_⟩, c2.trans E, fun a n c e => c3.blk e⟩
  · refine Wp.seq ?_
    refine Wp.region ?_
    refine Wo.pre 8 (by kernel_rfl) ?_
    refine Wo.nil ?_
    refine Wp.seq ?_
    refine Wp.region ?_
    refine Wo.pre 1 (by kernel_rfl) ?_
    refine Wo.call (by kernel_rfl) (by kernel_rfl) (c1) ?_
    refine Wo.val (.agg [x]) h1 (by kernel_rfl) (e1 (by kernel_rfl)) ?_
    refine Wo.val _ _ (by kernel_rfl) (e2 (by kernel_rfl)) ?_
    refine Wo.pre 8 (by kernel_rfl) ?_
    refine Wo.nil ?_
    exact Wp.ret ⟨.inr rfl, rfl, (by kernel_rfl)⟩
  · intro a n c e
    have := c3.bs.lt e
    omega

theorem rrnum_any {h : H} {b : Nat} {w : AV} {l : List UInt8} (hR : RRd h b w l) (size : Int) (hl : l.length ≤ maxRow) :
    ∃ h' v', Runs TF 28 [.ptr ⟨b, 0, 0⟩, .int .i64 size] h (.tup [.int .u64 (rdV l size : Nat), .int .i64 (rdE l size)]) h' ∧ RRd h' b v' (rdL l size) ∧ ExtB b h h' ∧ SB w v' := by
  have l0 := hR.ld
  have hw := hR.2.2.1
  have hz := rsized_run size h
  by_cases hs : 1 ≤ size ∧ size ≤ 4 ∨ size = 8
  · rw [decide_eq_true hs] at hz
    by_cases h1 : (l.length : Int) < size
    · have he : rdE l size = 4 := by simp only [rdE, hs, h1, not_true, if_false, if_true]
      refine ⟨h, w, ?_, ?_, ⟨Nat.le_refl _, fun _ _ _ => rfl⟩, SB.refl _⟩
      · rw [rdV, if_neg (by rw [he]; decide), he]
        refine Runs.of' f28 rfl ?_
        refine Wp.seq ?_
        refine Wp.region ?_
        refine Wo.pre 8 (by kernel_rfl) ?_
        refine Wo.nil ?_
        refine Wp.seq ?_
        refine Wp.seq ?_
        refine Wp.region ?_
        refine Wo.pre 1 (by kernel_rfl) ?_
        refine Wo.call (by kernel_rfl) (by kernel_rfl) (hz) ?_
        refine Wo.pre 8 (by kernel_rfl) ?_
        refine Wo.nil ?_
        refine Wp.cond false (by kernel_rfl) ?_
        refine Wp.skip ?_
        refine Wp.seq ?_
        refine Wp.seq ?_
        refine Wp.region ?_
        refine Wo.pre 3 (by kernel_rfl) ?_
        refine Wo.val w h (by kernel_rfl) (iop_ld (a := ⟨b, 0, 0⟩) (by kernel_rfl) l0) ?_
        refine Wo.val (.int .i64 l.length) h (by kernel_rfl) (hw.len (by kernel_rfl)) ?_
        refine Wo.pre 8 (by kernel_rfl) ?_
        refine Wo.nil ?_
        refine Wp.cond (decide ((l.length : Int) < size)) (by kernel_rfl) ?_
        rw [if_pos (by simpa using h1)]
        refine Wp.seq ?_
        refine Wp.region ?_
        refine Wo.pre 8 (by kernel_rfl) ?_
        refine Wo.nil ?_
        exact Wp.ret ⟨.inr rfl, rfl, (by kernel_rfl)⟩
      · rw [rdL, if_neg (by rw [he]; decide)]; exact hR
    · have he : rdE l size = 0 := by simp only [rdE, hs, h1, not_true, if_false]
      obtain ⟨m, rfl⟩ : ∃ m : Nat, size = m := ⟨size.toNat, by omega⟩
      obtain ⟨v', d1, d2, d3, d4, d5⟩ := hw.drop hR.2.2.2.1 (n := m) (by omega)
      obtain ⟨h', s1, s2, s3⟩ := hR.st d2 (fun a n c e => (d3 a n c e).2) (fun a n c e => by obtain ⟨⟨a0, m0, c0, q1, q2⟩, _⟩ := d3 a n c e; rw [← q2]; exact hR.2.2.2.2 _ _ _ q1)
      refine ⟨h', v', ?_, by rw [rdL, if_pos he, Int.toNat_natCast]; exact s2, s3, fun a n c e => (d3 a n c e).1⟩
      rw [rdV, if_pos he, he, Int.toNat_natCast]
      refine Runs.of' f28 rfl ?_
      refine Wp.seq ?_
      refine Wp.region ?_
      refine Wo.pre 8 (by kernel_rfl) ?_
      refine Wo.nil ?_
      refine Wp.seq ?_
      refine Wp.seq ?_
      refine Wp.region ?_
      refine Wo.pre 1 (by kernel_rfl) ?_
      refine Wo.call (by kernel_rfl) (by kernel_rfl) (hz) ?_
      refine Wo.pre 8 (by kernel_rfl) ?_
      refine Wo.nil ?_
      refine Wp.cond false (by kernel_rfl) ?_
      refine Wp.skip ?_
      refine Wp.seq ?_
      refine Wp.seq ?_
      refine Wp.region ?_
      refine Wo.pre 3 (by kernel_rfl) ?_
      refine Wo.val w h (by kernel_rfl) (iop_ld (a := ⟨b, 0, 0⟩) (by kernel_rfl) l0) ?_
      refine Wo.val (.int .i64 l.length) h (by kernel_rfl) (hw.len (by kernel_rfl)) ?_
      refine Wo.pre 8 (by kernel_rfl) ?_
      refine Wo.nil ?_
      refine Wp.cond (decide ((l.length : Int) < (m : Int))) (by kernel_rfl) ?_
      rw [if_neg (by simpa using h1)]
      refine Wp.skip ?_
      refine Wp.seq ?_
      refine Wp.region ?_
      refine Wo.pre 8 (by kernel_rfl) ?_
      refine Wo.nil ?_
      refine Wp.seq ?_
      refine Wp.seq ?_
      refine Wp.region ?_
      refine Wo.pre 8 (by kernel_rfl) ?_
      refine Wo.nil ?_
      refine Wp.block ?_
      obtain ⟨a, c, rfl⟩ : ∃ a c, w = .sl a l.length c := by
        rcases hw with ⟨_, rfl⟩ | ⟨a, c, e, _⟩
        · exfalso; simp at h1; omega
        · exact ⟨a, c, e⟩
      refine rrnum_loop l0 hw (size := m) (by omega) (by omega) m 0 (by omega) _ (by kernel_rfl) (by kernel_rfl) (by kernel_rfl) (by kernel_rfl) (by kernel_rfl) _ ?_
      intro ts' g0 g1 g2
      have e0 : getL ts' 0 = some (.ptr ⟨b, 0, 0⟩) := (g1 0 (by omega)).trans (by kernel_rfl)
      have e1 : getL ts' 1 = some (.int .i64 m) := (g1 1 (by omega)).trans (by kernel_rfl)
      rw [laid_eq g0 [(0, .ptr ⟨b, 0, 0⟩), (1, .int .i64 m), (6, .int .u64 (be (l.take m) : Nat))] (by simp [e0, e1, g2])]
      refine Wp.seq ?_
      refine Wp.region ?_
      refine Wo.pre 3 (by kernel_rfl) ?_
      refine Wo.pre 1 (by kernel_rfl) ?_
      refine Wo.val (.sl a l.length c) h (by kernel_rfl) (iop_ld (a := ⟨b, 0, 0⟩) (by kernel_rfl) l0) ?_
      refine Wo.pre 1 (by kernel_rfl) ?_
      refine Wo.val v' h (by kernel_rfl) (d1 _ _ _ (by kernel_rfl) (by kernel_rfl)) ?_
      refine Wo.pre 1 (by kernel_rfl) ?_
      refine Wo.pre 1 (by kernel_rfl) ?_
      refine Wo.val .undef h' (by kernel_rfl) (iop_st1 (a := ⟨b, 0, 0⟩) (v := v') (by kernel_rfl) (by kernel_rfl) d4 s1) ?_
      refine Wo.nil ?_
      refine Wp.seq ?_
      refine Wp.region ?_
      refine Wo.pre 8 (by kernel_rfl) ?_
      refine Wo.nil ?_
      exact Wp.ret ⟨.inr rfl, rfl, (by kernel_rfl)⟩
  · rw [decide_eq_false hs] at hz
    have he : rdE l size = 1 := by simp only [rdE, hs, not_false_eq_true, if_true]
    refine ⟨h, w, ?_, ?_, ⟨Nat.le_refl _, fun _ _ _ => rfl⟩, SB.refl _⟩
    · rw [rdV, if_neg (by rw [he]; decide), he]
      refine Runs.of' f28 rfl ?_
      refine Wp.seq ?_
      refine Wp.region ?_
      refine Wo.pre 8 (by kernel_rfl) ?_
      refine Wo.nil ?_
      refine Wp.seq ?_
      refine Wp.seq ?_
      refine Wp.region ?_
      refine Wo.pre 1 (by kernel_rfl) ?_
      refine Wo.call (by kernel_rfl) (by kernel_rfl) (hz) ?_
      refine Wo.pre 8 (by kernel_rfl) ?_
      refine Wo.nil ?_
      refine Wp.cond true (by kernel_rfl) ?_
      refine Wp.seq ?_
      refine Wp.region ?_
      refine Wo.pre 8 (by kernel_rfl) ?_
      refine Wo.nil ?_
      exact Wp.ret ⟨.inr rfl, rfl, (by kernel_rfl)⟩
    · rw [rdL, if_neg (by rw [he]; decide)]; exact hR

set_option maxHeartbeats 1000000 in
theorem rrtake_any {h : H} {b : Nat} {w : AV} {l : List UInt8} (hR : RRd h b w l) (n : Int) (hl : l.length ≤ maxRow) :
    ∃ h' x v', Runs TF 32 [.ptr ⟨b, 0, 0⟩, .int .i64 n] h (.tup [x, .int .i64 (readyE l n)]) h' ∧ RRd h' b v' (tL l n) ∧ Ow h.n h' x (tX l n) ∧ ExtB b h h' ∧ SB w v' := by
  have l0 := hR.ld
  have hw := hR.2.2.1
  by_cases h0 : n < 0
  · have he : readyE l n = 1 := by simp only [readyE, h0, if_true]
    refine ⟨h, .nils, w, ?_, by rw [tL, if_neg (by rw [he]; decide)]; exact hR, by rw [tX, if_neg (by rw [he]; decide)]; exact .inl ⟨rfl, rfl⟩, ⟨Nat.le_refl _, fun _ _ _ => rfl⟩, SB.refl _⟩
    rw [he]
    refine Runs.of' f32 rfl ?_
    refine Wp.seq ?_
    refine Wp.region ?_
    refine Wo.pre 8 (by kernel_rfl) ?_
    refine Wo.nil ?_
    refine Wp.seq ?_
    refine Wp.seq ?_
    refine Wp.region ?_
    refine Wo.pre 8 (by kernel_rfl) ?_
    refine Wo.nil ?_
    refine Wp.cond (decide (n < 0)) (by kernel_rfl) ?_
    rw [if_pos (by simpa using h0)]
    refine Wp.seq ?_
    refine Wp.region ?_
    refine Wo.pre 8 (by kernel_rfl) ?_
    refine Wo.nil ?_
    exact Wp.ret ⟨.inr rfl, rfl, (by kernel_rfl)⟩
  · by_cases h1 : (l.length : Int) < n
    · have he : readyE l n = 4 := by simp only [readyE, h0, h1, if_true, if_false]
      refine ⟨h, .nils, w, ?_, by rw [tL, if_neg (by rw [he]; decide)]; exact hR, by rw [tX, if_neg (by rw [he]; decide)]; exact .inl ⟨rfl, rfl⟩, ⟨Nat.le_refl _, fun _ _ _ => rfl⟩, SB.refl _⟩
      rw [he]
      refine Runs.of' f32 rfl ?_
      refine Wp.seq ?_
      refine Wp.region ?_
      refine Wo.pre 8 (by kernel_rfl) ?_
      refine Wo.nil ?_
      refine Wp.seq ?_
      refine Wp.seq ?_
      refine Wp.region ?_
      refine Wo.pre 8 (by kernel_rfl) ?_
      refine Wo.nil ?_
      refine Wp.cond (decide (n < 0)) (by kernel_rfl) ?_
      rw [if_neg (by simpa using h0)]
      refine Wp.skip ?_
      refine Wp.seq ?_
      refine Wp.seq ?_
      refine Wp.region ?_
      refine Wo.pre 3 (by kernel_rfl) ?_
      refine Wo.pre 1 (by kernel_rfl) ?_
      refine Wo.val w h (by kernel_rfl) (iop_ld (a := ⟨b, 0, 0⟩) (by kernel_rfl) l0) ?_
      refine Wo.val (.int .i64 l.length) h (by kernel_rfl) (hw.len (by kernel_rfl)) ?_
      refine Wo.pre 8 (by kernel_rfl) ?_
      refine Wo.nil ?_
      refine Wp.cond (decide (n > (l.length : Int))) (by kernel_rfl) ?_
      rw [if_pos (by simpa using h1)]
      refine Wp.seq ?_
      refine Wp.region ?_
      refine Wo.pre 8 (by kernel_rfl) ?_
      refine Wo.nil ?_
      exact Wp.ret ⟨.inr rfl, rfl, (by kernel_rfl)⟩
    · have he : readyE l n = 0 := by simp only [readyE, h0, h1, if_false]
      obtain ⟨m, rfl⟩ : ∃ m : Nat, n = m := ⟨n.toNat, by omega⟩
      obtain ⟨q, t1, t2, t3⟩ := hw.take hR.2.2.2.1 (n := m) (by omega)
      obtain ⟨x, h1', c1, c2, c3⟩ := own_run t2 (by rw [List.length_take]; omega)
      have hR1 : RRd h1' b w l := ⟨Nat.lt_of_lt_of_le hR.1 c2.1, by rw [c2.2 _ hR.1]; exact hR.2.1, hw.ext c2, hR.2.2.2⟩
      have l1 := hR1.ld
      obtain ⟨v', d1, d2, d3, d4, d5⟩ := hR1.2.2.1.drop hR.2.2.2.1 (n := m) (by omega)
      obtain ⟨h', s1, s2, s3⟩ := hR1.st d2 (fun a n c e => (d3 a n c e).2) (fun a n c e => by obtain ⟨⟨a0, m0, c0, q1, q2⟩, _⟩ := d3 a n c e; rw [← q2]; exact hR.2.2.2.2 _ _ _ q1)
      refine ⟨h', x, v', ?_, by rw [tL, if_pos he, Int.toNat_natCast]; exact s2, ?_, ⟨Nat.le_trans c2.1 s3.1, fun k hk hkb => by rw [s3.2 k (Nat.lt_of_lt_of_le hk c2.1) hkb, c2.2 k hk]⟩, fun a n c e => (d3 a n c e).1⟩
      · rw [he]
        refine Runs.of' f32 rfl ?_
        refine Wp.seq ?_
        refine Wp.region ?_
        refine Wo.pre 8 (by kernel_rfl) ?_
        refine Wo.nil ?_
        refine Wp.seq ?_
        refine Wp.seq ?_
        refine Wp.region ?_
        refine Wo.pre 8 (by kernel_rfl) ?_
        refine Wo.nil ?_
        refine Wp.cond false (by kernel_rfl) ?_
        refine Wp.skip ?_
        refine Wp.seq ?_
        refine Wp.seq ?_
        refine Wp.region ?_
        refine Wo.pre 3 (by kernel_rfl) ?_
        refine Wo.pre 1 (by kernel_rfl) ?_
        refine Wo.val w h (by kernel_rfl) (iop_ld (a := ⟨b, 0, 0⟩) (by kernel_rfl) l0) ?_
        refine Wo.val (.int .i64 l.length) h (by kernel_rfl) (hw.len (by kernel_rfl)) ?_
        refine Wo.pre 8 (by kernel_rfl) ?_
        refine Wo.nil ?_
        refine Wp.cond (decide ((m : Int) > (l.length : Int))) (by kernel_rfl) ?_
        rw [if_neg (by simpa using h1)]
        refine Wp.skip ?_
        refine Wp.seq ?_
        refine Wp.region ?_
        refine Wo.pre 3 (by kernel_rfl) ?_
        refine Wo.val w h (by kernel_rfl) (iop_ld (a := ⟨b, 0, 0⟩) (by kernel_rfl) l0) ?_
        refine Wo.pre 1 (by kernel_rfl) ?_
        refine Wo.val q h (by kernel_rfl) (t1 _ _ _ (by kernel_rfl) (by kernel_rfl)) ?_
        refine Wo.call (by kernel_rfl) (by kernel_rfl) (c1) ?_
        refine Wo.pre 8 (by kernel_rfl) ?_
        refine Wo.nil ?_
        refine Wp.seq ?_
        refine Wp.region ?_
        refine Wo.pre 3 (by kernel_rfl) ?_
        refine Wo.pre 1 (by kernel_rfl) ?_
        refine Wo.val w h1' (by kernel_rfl) (iop_ld (a := ⟨b, 0, 0⟩) (by kernel_rfl) l1) ?_
        refine Wo.pre 1 (by kernel_rfl) ?_
        refine Wo.val v' h1' (by kernel_rfl) (d1 _ _ _ (by kernel_rfl) (by kernel_rfl)) ?_
        refine Wo.pre 1 (by kernel_rfl) ?_
        refine Wo.pre 1 (by kernel_rfl) ?_
        refine Wo.val .undef h' (by kernel_rfl) (iop_st1 (a := ⟨b, 0, 0⟩) (v := v') (by kernel_rfl) (by kernel_rfl) d4 s1) ?_
        refine Wo.nil ?_
        refine Wp.seq ?_
        refine Wp.region ?_
        refine Wo.pre 8 (by kernel_rfl) ?_
        refine Wo.nil ?_
        exact Wp.ret ⟨.inr rfl, rfl, (by kernel_rfl)⟩
      · rw [tX, if_pos he, Int.toNat_natCast]
        rcases c3 with h0 | ⟨b', g, w1, w2, w3, w4⟩
        · exact .inl h0
        · exact .inr ⟨b', g, w1, Nat.lt_of_lt_of_le w2 s3.1, by rw [s3.2 _ w2 (by have := hR.1; omega)]; exact w3, w4⟩
set_option maxHeartbeats 4000000 in
theorem rrvec_any {h : H} {b : Nat} {w : AV} {l : List UInt8} (hR : RRd h b w l) (size : Int) (hl : l.length ≤ maxRow) :
    ∃ h' x v', Runs TF 30 [.ptr ⟨b, 0, 0⟩, .int .i64 size] h (.tup [x, .int .i64 (vE l size)]) h' ∧ RRd h' b v' (vL l size) ∧ Ow h.n h' x (vX l size) ∧ ExtB b h h' ∧ SB w v' := by
  have l0 := hR.ld
  have hw := hR.2.2.1
  by_cases hs : 1 ≤ size ∧ size ≤ 3
  · obtain ⟨m, rfl⟩ : ∃ m : Nat, size = m := ⟨size.toNat, by omega⟩
    have hm : m = 1 ∨ m = 2 ∨ m = 3 := by omega
    rcases hm with rfl | rfl | rfl
    · skip
      by_cases h1 : l.length < 1
      · have h1' : (l.length : Int) < ((1 : Nat) : Int) := by omega
        have he : vE l ((1 : Nat) : Int) = 4 := by simp only [vE, hs, and_self, h1', not_true, if_false, if_true]
        refine ⟨h, .nils, w, ?_, by rw [vL, if_neg (by rw [he]; decide)]; exact hR, by rw [vX, if_neg (by rw [he]; decide)]; exact .inl ⟨rfl, rfl⟩, ⟨Nat.le_refl _, fun _ _ _ => rfl⟩, SB.refl _⟩
        rw [he]
        refine Runs.of' f30 rfl ?_
        refine Wp.seq ?_
        refine Wp.region ?_
        refine Wo.pre 8 (by kernel_rfl) ?_
        refine Wo.nil ?_
        refine Wp.seq ?_
        refine Wp.seq ?_
        refine Wp.region ?_
        refine Wo.pre 8 (by kernel_rfl) ?_
        refine Wo.pre 8 (by kernel_rfl) ?_
        refine Wo.nil ?_
        refine Wp.cond false (by kernel_rfl) ?_
        refine Wp.skip ?_
        refine Wp.seq ?_
        refine Wp.seq ?_
        refine Wp.region ?_
        refine Wo.pre 3 (by kernel_rfl) ?_
        refine Wo.val w h (by kernel_rfl) (iop_ld (a := ⟨b, 0, 0⟩) (by kernel_rfl) l0) ?_
        refine Wo.val (.int .i64 l.length) h (by kernel_rfl) (hw.len (by kernel_rfl)) ?_
        refine Wo.pre 8 (by kernel_rfl) ?_
        refine Wo.nil ?_
        refine Wp.cond (decide ((l.length : Int) < 1)) (by kernel_rfl) ?_
        rw [if_pos (by simp; omega)]
        refine Wp.seq ?_
        refine Wp.region ?_
        refine Wo.pre 8 (by kernel_rfl) ?_
        refine Wo.nil ?_
        exact Wp.ret ⟨.inr rfl, rfl, (by kernel_rfl)⟩
      · have h1' : ¬ (l.length : Int) < ((1 : Nat) : Int) := by omega
        obtain ⟨a, c, rfl⟩ : ∃ a c, w = .sl a l.length c := by
          rcases hw with ⟨_, rfl⟩ | ⟨a, c, e, _⟩
          · exfalso; simp at h1
          · exact ⟨a, c, e⟩
        have hlt := be_lt (l.take 1)
        rw [List.length_take, Nat.min_eq_left (by omega)] at hlt
        obtain ⟨n, hn⟩ : ∃ n, n = be (l.take 1) := ⟨_, rfl⟩
        rw [← hn] at hlt
        have hn24 : n < 2 ^ 24 := by omega
        have hmx : maxRow < 2 ^ 62 := by decide
        have w1 : IntKind.i64.wrap ((l.length : Int) - 1) = (l.length : Int) - 1 := i64_fit _ (by omega)
        have w2 : IntKind.i64.wrap (1 + (n : Int)) = ((1 + n : Nat) : Int) := by rw [i64_fit _ (by omega)]; omega
        by_cases h2 : l.length < 1 + n
        · have he : vE l ((1 : Nat) : Int) = 4 := by
            have h2' : l.length < ((1 : Nat) : Int).toNat + be (l.take ((1 : Nat) : Int).toNat) := by rw [Int.toNat_natCast, ← hn]; exact h2
            simp only [vE, hs, and_self, h1', not_true, if_false, h2', if_true]
          refine ⟨h, .nils, .sl a l.length c, ?_, by rw [vL, if_neg (by rw [he]; decide)]; exact hR, by rw [vX, if_neg (by rw [he]; decide)]; exact .inl ⟨rfl, rfl⟩, ⟨Nat.le_refl _, fun _ _ _ => rfl⟩, SB.refl _⟩
          rw [he]
          refine Runs.of' f30 rfl ?_
          refine Wp.seq ?_
          refine Wp.region ?_
          refine Wo.pre 8 (by kernel_rfl) ?_
          refine Wo.nil ?_
          refine Wp.seq ?_
          refine Wp.seq ?_
          refine Wp.region ?_
          refine Wo.pre 8 (by kernel_rfl) ?_
          refine Wo.pre 8 (by kernel_rfl) ?_
          refine Wo.nil ?_
          refine Wp.cond false (by kernel_rfl) ?_
          refine Wp.skip ?_
          refine Wp.seq ?_
          refine Wp.seq ?_
          refine Wp.region ?_
          refine Wo.pre 3 (by kernel_rfl) ?_
          refine Wo.val (.sl a l.length c) h (by kernel_rfl) (iop_ld (a := ⟨b, 0, 0⟩) (by kernel_rfl) l0) ?_
          refine Wo.pre 8 (by kernel_rfl) ?_
          refine Wo.nil ?_
          refine Wp.cond (decide ((l.length : Int) < 1)) (by kernel_rfl) ?_
          rw [if_neg (by simp; omega)]
          refine Wp.skip ?_
          refine Wp.seq ?_
          refine Wp.region ?_
          refine Wo.pre 8 (by kernel_rfl) ?_
          refine Wo.nil ?_
          refine Wp.seq ?_
          refine Wp.seq ?_
          refine Wp.region ?_
          refine Wo.pre 8 (by kernel_rfl) ?_
          refine Wo.nil ?_
          refine Wp.block ?_
          refine rrvec_loop l0 hw (size := 1) (by omega) (by omega) 1 0 (by omega) _ (by kernel_rfl) (by kernel_rfl) (by kernel_rfl) (by kernel_rfl) (by kernel_rfl) _ ?_
          intro ts' g0 g1 g2
          have e0 : getL ts' 0 = some (.ptr ⟨b, 0, 0⟩) := (g1 0 (by omega)).trans (by kernel_rfl)
          have e1 : getL ts' 1 = some (.int .i64 ((1 : Nat) : Int)) := (g1 1 (by omega)).trans (by kernel_rfl)
          rw [← hn] at g2
          rw [laid_eq g0 [(0, .ptr ⟨b, 0, 0⟩), (1, .int .i64 1), (6, .int .i64 n)] (by simp [e0, e1, g2])]
          refine Wp.seq ?_
          refine Wp.seq ?_
          refine Wp.region ?_
          refine Wo.pre 3 (by kernel_rfl) ?_
          refine Wo.val (.sl a l.length c) h (by kernel_rfl) (iop_ld (a := ⟨b, 0, 0⟩) (by kernel_rfl) l0) ?_
          refine Wo.pre 8 (by kernel_rfl) ?_
          refine Wo.nil ?_
          refine Wp.cond (decide (IntKind.i64.wrap ((l.length : Int) - 1) < (n : Int))) (by kernel_rfl) ?_
          rw [w1, if_pos (by simp; omega)]
          refine Wp.seq ?_
          refine Wp.region ?_
          refine Wo.pre 8 (by kernel_rfl) ?_
          refine Wo.nil ?_
          exact Wp.ret ⟨.inr rfl, rfl, (by kernel_rfl)⟩
        · have he : vE l ((1 : Nat) : Int) = 0 := by
            have h2' : ¬ l.length < ((1 : Nat) : Int).toNat + be (l.take ((1 : Nat) : Int).toNat) := by rw [Int.toNat_natCast, ← hn]; exact h2
            simp only [vE, hs, and_self, h1', not_true, if_false, h2']
          obtain ⟨q, t1, t2, t3⟩ := hw.sub hR.2.2.2.1 (i := 1) (j := 1 + n) (by omega) (by omega)
          obtain ⟨x, h1b, c1, c2, c3⟩ := own_run t2 (by rw [List.length_drop, List.length_take]; omega)
          have hR1 : RRd h1b b (.sl a l.length c) l := ⟨Nat.lt_of_lt_of_le hR.1 c2.1, by rw [c2.2 _ hR.1]; exact hR.2.1, hw.ext c2, hR.2.2.2⟩
          have l1 := hR1.ld
          obtain ⟨v', d1, d2, d3, d4, d5⟩ := hR1.2.2.1.drop hR.2.2.2.1 (n := 1 + n) (by omega)
          obtain ⟨h', s1, s2, s3⟩ := hR1.st d2 (fun a n c e => (d3 a n c e).2) (fun a n c e => by obtain ⟨⟨a0, m0, c0, q1, q2⟩, _⟩ := d3 a n c e; rw [← q2]; exact hR.2.2.2.2 _ _ _ q1)
          have t1' : ∀ (x y z : IX) (ρ : IX → AV), ρ x = .sl a l.length c → ρ y = .int .i64 1 → ρ z = .int .i64 (IntKind.i64.wrap (1 + (n : Int))) → iop (.slL 1 x (some y) (some z) none) ρ h = some (.val q h) := fun x y z ρ hx hy hz => t1 x y z ρ hx hy (by rw [hz, w2])
          have d1' : ∀ (x y : IX) (ρ : IX → AV), ρ x = .sl a l.length c → ρ y = .int .i64 (IntKind.i64.wrap (1 + (n : Int))) → iop (.slL 1 x (some y) none none) ρ h1b = some (.val v' h1b) := fun x y ρ hx hy => d1 x y ρ hx (by rw [hy, w2])
          refine ⟨h', x, v', ?_, by rw [vL, if_pos he, vN, Int.toNat_natCast, ← hn]; exact s2, ?_, ⟨Nat.le_trans c2.1 s3.1, fun k hk hkb => by rw [s3.2 k (Nat.lt_of_lt_of_le hk c2.1) hkb, c2.2 k hk]⟩, fun a n c e => (d3 a n c e).1⟩
          · rw [he]
            refine Runs.of' f30 rfl ?_
            refine Wp.seq ?_
            refine Wp.region ?_
            refine Wo.pre 8 (by kernel_rfl) ?_
            refine Wo.nil ?_
            refine Wp.seq ?_
            refine Wp.seq ?_
            refine Wp.region ?_
            refine Wo.pre 8 (by kernel_rfl) ?_
            refine Wo.pre 8 (by kernel_rfl) ?_
            refine Wo.nil ?_
            refine Wp.cond false (by kernel_rfl) ?_
            refine Wp.skip ?_
            refine Wp.seq ?_
            refine Wp.seq ?_
            refine Wp.region ?_
            refine Wo.pre 3 (by kernel_rfl) ?_
            refine Wo.val (.sl a l.length c) h (by kernel_rfl) (iop_ld (a := ⟨b, 0, 0⟩) (by kernel_rfl) l0) ?_
            refine Wo.pre 8 (by kernel_rfl) ?_
            refine Wo.nil ?_
            refine Wp.cond (decide ((l.length : Int) < 1)) (by kernel_rfl) ?_
            rw [if_neg (by simp; omega)]
            refine Wp.skip ?_
            refine Wp.seq ?_
            refine Wp.region ?_
            refine Wo.pre 8 (by kernel_rfl) ?_
            refine Wo.nil ?_
            refine Wp.seq ?_
            refine Wp.seq ?_
            refine Wp.region ?_
            refine Wo.pre 8 (by kernel_rfl) ?_
            refine Wo.nil ?_
            refine Wp.block ?_
            refine rrvec_loop l0 hw (size := 1) (by omega) (by omega) 1 0 (by omega) _ (by kernel_rfl) (by kernel_rfl) (by kernel_rfl) (by kernel_rfl) (by kernel_rfl) _ ?_
            intro ts' g0 g1 g2
            have e0 : getL ts' 0 = some (.ptr ⟨b, 0, 0⟩) := (g1 0 (by omega)).trans (by kernel_rfl)
            have e1 : getL ts' 1 = some (.int .i64 ((1 : Nat) : Int)) := (g1 1 (by omega)).trans (by kernel_rfl)
            rw [← hn] at g2
            rw [laid_eq g0 [(0, .ptr ⟨b, 0, 0⟩), (1, .int .i64 1), (6, .int .i64 n)] (by simp [e0, e1, g2])]
            refine Wp.seq ?_
            refine Wp.seq ?_
            refine Wp.region ?_
            refine Wo.pre 3 (by kernel_rfl) ?_
            refine Wo.val (.sl a l.length c) h (by kernel_rfl) (iop_ld (a := ⟨b, 0, 0⟩) (by kernel_rfl) l0) ?_
            refine Wo.pre 8 (by kernel_rfl) ?_
            refine Wo.nil ?_
            refine Wp.cond (decide (IntKind.i64.wrap ((l.length : Int) - 1) < (n : Int))) (by kernel_rfl) ?_
            rw [w1, if_neg (by simp; omega)]
            refine Wp.skip ?_
            refine Wp.seq ?_
            refine Wp.region ?_
            refine Wo.pre 3 (by kernel_rfl) ?_
            refine Wo.val (.sl a l.length c) h (by kernel_rfl) (iop_ld (a := ⟨b, 0, 0⟩) (by kernel_rfl) l0) ?_
            refine Wo.pre 3 (by kernel_rfl) ?_
            refine Wo.pre 1 (by kernel_rfl) ?_
            refine Wo.val q h (by kernel_rfl) (t1' _ _ _ _ (by kernel_rfl) (by kernel_rfl) (by kernel_rfl)) ?_
            refine Wo.call (by kernel_rfl) (by kernel_rfl) (c1) ?_
            refine Wo.pre 8 (by kernel_rfl) ?_
            refine Wo.nil ?_
            refine Wp.seq ?_
            refine Wp.region ?_
            refine Wo.pre 3 (by kernel_rfl) ?_
            refine Wo.pre 1 (by kernel_rfl) ?_
            refine Wo.val (.sl a l.length c) h1b (by kernel_rfl) (iop_ld (a := ⟨b, 0, 0⟩) (by kernel_rfl) l1) ?_
            refine Wo.pre 3 (by kernel_rfl) ?_
            refine Wo.val v' h1b (by kernel_rfl) (d1' _ _ _ (by kernel_rfl) (by kernel_rfl)) ?_
            refine Wo.pre 1 (by kernel_rfl) ?_
            refine Wo.pre 1 (by kernel_rfl) ?_
            refine Wo.val .undef h' (by kernel_rfl) (iop_st1 (a := ⟨b, 0, 0⟩) (v := v') (by kernel_rfl) (by kernel_rfl) d4 s1) ?_
            refine Wo.nil ?_
            refine Wp.seq ?_
            refine Wp.region ?_
            refine Wo.pre 8 (by kernel_rfl) ?_
            refine Wo.nil ?_
            exact Wp.ret ⟨.inr rfl, rfl, (by kernel_rfl)⟩
          · have e : (l.take (1 + n)).drop 1 = (l.drop 1).take n := by rw [List.drop_take]; congr 1; omega
            rw [vX, if_pos he, Int.toNat_natCast, ← hn, ← e]
            rcases c3 with h0 | ⟨b', g, w1, w2, w3, w4⟩
            · exact .inl h0
            · exact .inr ⟨b', g, w1, Nat.lt_of_lt_of_le w2 s3.1, by rw [s3.2 _ w2 (by have := hR.1; omega)]; exact w3, w4⟩
    · skip
      by_cases h1 : l.length < 2
      · have h1' : (l.length : Int) < ((2 : Nat) : Int) := by omega
        have he : vE l ((2 : Nat) : Int) = 4 := by simp only [vE, hs, and_self, h1', not_true, if_false, if_true]
        refine ⟨h, .nils, w, ?_, by rw [vL, if_neg (by rw [he]; decide)]; exact hR, by rw [vX, if_neg (by rw [he]; decide)]; exact .inl ⟨rfl, rfl⟩, ⟨Nat.le_refl _, fun _ _ _ => rfl⟩, SB.refl _⟩
        rw [he]
        refine Runs.of' f30 rfl ?_
        refine Wp.seq ?_
        refine Wp.region ?_
        refine Wo.pre 8 (by kernel_rfl) ?_
        refine Wo.nil ?_
        refine Wp.seq ?_
        refine Wp.seq ?_
        refine Wp.region ?_
        refine Wo.pre 8 (by kernel_rfl) ?_
        refine Wo.pre 8 (by kernel_rfl) ?_
        refine Wo.nil ?_
        refine Wp.cond false (by kernel_rfl) ?_
        refine Wp.skip ?_
        refine Wp.seq ?_
        refine Wp.seq ?_
        refine Wp.region ?_
        refine Wo.pre 3 (by kernel_rfl) ?_
        refine Wo.val w h (by kernel_rfl) (iop_ld (a := ⟨b, 0, 0⟩) (by kernel_rfl) l0) ?_
        refine Wo.val (.int .i64 l.length) h (by kernel_rfl) (hw.len (by kernel_rfl)) ?_
        refine Wo.pre 8 (by kernel_rfl) ?_
        refine Wo.nil ?_
        refine Wp.cond (decide ((l.length : Int) < 2)) (by kernel_rfl) ?_
        rw [if_pos (by simp; omega)]
        refine Wp.seq ?_
        refine Wp.region ?_
        refine Wo.pre 8 (by kernel_rfl) ?_
        refine Wo.nil ?_
        exact Wp.ret ⟨.inr rfl, rfl, (by kernel_rfl)⟩
      · have h1' : ¬ (l.length : Int) < ((2 : Nat) : Int) := by omega
        obtain ⟨a, c, rfl⟩ : ∃ a c, w = .sl a l.length c := by
          rcases hw with ⟨_, rfl⟩ | ⟨a, c, e, _⟩
          · exfalso; simp at h1
          · exact ⟨a, c, e⟩
        have hlt := be_lt (l.take 2)
        rw [List.length_take, Nat.min_eq_left (by omega)] at hlt
        obtain ⟨n, hn⟩ : ∃ n, n = be (l.take 2) := ⟨_, rfl⟩
        rw [← hn] at hlt
        have hn24 : n < 2 ^ 24 := by omega
        have hmx : maxRow < 2 ^ 62 := by decide
        have w1 : IntKind.i64.wrap ((l.length : Int) - 2) = (l.length : Int) - 2 := i64_fit _ (by omega)
        have w2 : IntKind.i64.wrap (2 + (n : Int)) = ((2 + n : Nat) : Int) := by rw [i64_fit _ (by omega)]; omega
        by_cases h2 : l.length < 2 + n
        · have he : vE l ((2 : Nat) : Int) = 4 := by
            have h2' : l.length < ((2 : Nat) : Int).toNat + be (l.take ((2 : Nat) : Int).toNat) := by rw [Int.toNat_natCast, ← hn]; exact h2
            simp only [vE, hs, and_self, h1', not_true, if_false, h2', if_true]
          refine ⟨h, .nils, .sl a l.length c, ?_, by rw [vL, if_neg (by rw [he]; decide)]; exact hR, by rw [vX, if_neg (by rw [he]; decide)]; exact .inl ⟨rfl, rfl⟩, ⟨Nat.le_refl _, fun _ _ _ => rfl⟩, SB.refl _⟩
          rw [he]
          refine Runs.of' f30 rfl ?_
          refine Wp.seq ?_
          refine Wp.region ?_
          refine Wo.pre 8 (by kernel_rfl) ?_
          refine Wo.nil ?_
          refine Wp.seq ?_
          refine Wp.seq ?_
          refine Wp.region ?_
          refine Wo.pre 8 (by kernel_rfl) ?_
          refine Wo.pre 8 (by kernel_rfl) ?_
          refine Wo.nil ?_
          refine Wp.cond false (by kernel_rfl) ?_
          refine Wp.skip ?_
          refine Wp.seq ?_
          refine Wp.seq ?_
          refine Wp.region ?_
          refine Wo.pre 3 (by kernel_rfl) ?_
          refine Wo.val (.sl a l.length c) h (by kernel_rfl) (iop_ld (a := ⟨b, 0, 0⟩) (by kernel_rfl) l0) ?_
          refine Wo.pre 8 (by kernel_rfl) ?_
          refine Wo.nil ?_
          refine Wp.cond (decide ((l.length : Int) < 2)) (by kernel_rfl) ?_
          rw [if_neg (by simp; omega)]
          refine Wp.skip ?_
          refine Wp.seq ?_
          refine Wp.region ?_
          refine Wo.pre 8 (by kernel_rfl) ?_
          refine Wo.nil ?_
          refine Wp.seq ?_
          refine Wp.seq ?_
          refine Wp.region ?_
          refine Wo.pre 8 (by kernel_rfl) ?_
          refine Wo.nil ?_
          refine Wp.block ?_
          refine rrvec_loop l0 hw (size := 2) (by omega) (by omega) 2 0 (by omega) _ (by kernel_rfl) (by kernel_rfl) (by kernel_rfl) (by kernel_rfl) (by kernel_rfl) _ ?_
          intro ts' g0 g1 g2
          have e0 : getL ts' 0 = some (.ptr ⟨b, 0, 0⟩) := (g1 0 (by omega)).trans (by kernel_rfl)
          have e1 : getL ts' 1 = some (.int .i64 ((2 : Nat) : Int)) := (g1 1 (by omega)).trans (by kernel_rfl)
          rw [← hn] at g2
          rw [laid_eq g0 [(0, .ptr ⟨b, 0, 0⟩), (1, .int .i64 2), (6, .int .i64 n)] (by simp [e0, e1, g2])]
          refine Wp.seq ?_
          refine Wp.seq ?_
          refine Wp.region ?_
          refine Wo.pre 3 (by kernel_rfl) ?_
          refine Wo.val (.sl a l.length c) h (by kernel_rfl) (iop_ld (a := ⟨b, 0, 0⟩) (by kernel_rfl) l0) ?_
          refine Wo.pre 8 (by kernel_rfl) ?_
          refine Wo.nil ?_
          refine Wp.cond (decide (IntKind.i64.wrap ((l.length : Int) - 2) < (n : Int))) (by kernel_rfl) ?_
          rw [w1, if_pos (by simp; omega)]
          refine Wp.seq ?_
          refine Wp.region ?_
          refine Wo.pre 8 (by kernel_rfl) ?_
          refine Wo.nil ?_
          exact Wp.ret ⟨.inr rfl, rfl, (by kernel_rfl)⟩
        · have he : vE l ((2 : Nat) : Int) = 0 := by
            have h2' : ¬ l.length < ((2 : Nat) : Int).toNat + be (l.take ((2 : Nat) : Int).toNat) := by rw [Int.toNat_natCast, ← hn]; exact h2
            simp only [vE, hs, and_self, h1', not_true, if_false, h2']
          obtain ⟨q, t1, t2, t3⟩ := hw.sub hR.2.2.2.1 (i := 2) (j := 2 + n) (by omega) (by omega)
          obtain ⟨x, h1b, c1, c2, c3⟩ := own_run t2 (by rw [List.length_drop, List.length_take]; omega)
          have hR1 : RRd h1b b (.sl a l.length c) l := ⟨Nat.lt_of_lt_of_le hR.1 c2.1, by rw [c2.2 _ hR.1]; exact hR.2.1, hw.ext c2, hR.2.2.2⟩
          have l1 := hR1.ld
          obtain ⟨v', d1, d2, d3, d4, d5⟩ := hR1.2.2.1.drop hR.2.2.2.1 (n := 2 + n) (by omega)
          obtain ⟨h', s1, s2, s3⟩ := hR1.st d2 (fun a n c e => (d3 a n c e).2) (fun a n c e => by obtain ⟨⟨a0, m0, c0, q1, q2⟩, _⟩ := d3 a n c e; rw [← q2]; exact hR.2.2.2.2 _ _ _ q1)
          have t1' : ∀ (x y z : IX) (ρ : IX → AV), ρ x = .sl a l.length c → ρ y = .int .i64 2 → ρ z = .int .i64 (IntKind.i64.wrap (2 + (n : Int))) → iop (.slL 1 x (some y) (some z) none) ρ h = some (.val q h) := fun x y z ρ hx hy hz => t1 x y z ρ hx hy (by rw [hz, w2])
          have d1' : ∀ (x y : IX) (ρ : IX → AV), ρ x = .sl a l.length c → ρ y = .int .i64 (IntKind.i64.wrap (2 + (n : Int))) → iop (.slL 1 x (some y) none none) ρ h1b = some (.val v' h1b) := fun x y ρ hx hy => d1 x y ρ hx (by rw [hy, w2])
          refine ⟨h', x, v', ?_, by rw [vL, if_pos he, vN, Int.toNat_natCast, ← hn]; exact s2, ?_, ⟨Nat.le_trans c2.1 s3.1, fun k hk hkb => by rw [s3.2 k (Nat.lt_of_lt_of_le hk c2.1) hkb, c2.2 k hk]⟩, fun a n c e => (d3 a n c e).1⟩
          · rw [he]
            refine Runs.of' f30 rfl ?_
            refine Wp.seq ?_
            refine Wp.region ?_
            refine Wo.pre 8 (by kernel_rfl) ?_
            refine Wo.nil ?_
            refine Wp.seq ?_
            refine Wp.seq ?_
            refine Wp.region ?_
            refine Wo.pre 8 (by kernel_rfl) ?_
            refine Wo.pre 8 (by kernel_rfl) ?_
            refine Wo.nil ?_
            refine Wp.cond false (by kernel_rfl) ?_
            refine Wp.skip ?_
            refine Wp.seq ?_
            refine Wp.seq ?_
            refine Wp.region ?_
            refine Wo.pre 3 (by kernel_rfl) ?_
            refine Wo.val (.sl a l.length c) h (by kernel_rfl) (iop_ld (a := ⟨b, 0, 0⟩) (by kernel_rfl) l0) ?_
            refine Wo.pre 8 (by kernel_rfl) ?_
            refine Wo.nil ?_
            refine Wp.cond (decide ((l.length : Int) < 2)) (by kernel_rfl) ?_
            rw [if_neg (by simp; omega)]
            refine Wp.skip ?_
            refine Wp.seq ?_
            refine Wp.region ?_
            refine Wo.pre 8 (by kernel_rfl) ?_
            refine Wo.nil ?_
            refine Wp.seq ?_
            refine Wp.seq ?_
            refine Wp.region ?_
            refine Wo.pre 8 (by kernel_rfl) ?_
            refine Wo.nil ?_
            refine Wp.block ?_
            refine rrvec_loop l0 hw (size := 2) (by omega) (by omega) 2 0 (by omega) _ (by kernel_rfl) (by kernel_rfl) (by kernel_rfl) (by kernel_rfl) (by kernel_rfl) _ ?_
            intro ts' g0 g1 g2
            have e0 : getL ts' 0 = some (.ptr ⟨b, 0, 0⟩) := (g1 0 (by omega)).trans (by kernel_rfl)
            have e1 : getL ts' 1 = some (.int .i64 ((2 : Nat) : Int)) := (g1 1 (by omega)).trans (by kernel_rfl)
            rw [← hn] at g2
            rw [laid_eq g0 [(0, .ptr ⟨b, 0, 0⟩), (1, .int .i64 2), (6, .int .i64 n)] (by simp [e0, e1, g2])]
            refine Wp.seq ?_
            refine Wp.seq ?_
            refine Wp.region ?_
            refine Wo.pre 3 (by kernel_rfl) ?_
            refine Wo.val (.sl a l.length c) h (by kernel_rfl) (iop_ld (a := ⟨b, 0, 0⟩) (by kernel_rfl) l0) ?_
            refine Wo.pre 8 (by kernel_rfl) ?_
            refine Wo.nil ?_
            refine Wp.cond (decide (IntKind.i64.wrap ((l.length : Int) - 2) < (n : Int))) (by kernel_rfl) ?_
            rw [w1, if_neg (by simp; omega)]
            refine Wp.skip ?_
            refine Wp.seq ?_
            refine Wp.region ?_
            refine Wo.pre 3 (by kernel_rfl) ?_
            refine Wo.val (.sl a l.length c) h (by kernel_rfl) (iop_ld (a := ⟨b, 0, 0⟩) (by kernel_rfl) l0) ?_
            refine Wo.pre 3 (by kernel_rfl) ?_
            refine Wo.pre 1 (by kernel_rfl) ?_
            refine Wo.val q h (by kernel_rfl) (t1' _ _ _ _ (by kernel_rfl) (by kernel_rfl) (by kernel_rfl)) ?_
            refine Wo.call (by kernel_rfl) (by kernel_rfl) (c1) ?_
            refine Wo.pre 8 (by kernel_rfl) ?_
            refine Wo.nil ?_
            refine Wp.seq ?_
            refine Wp.region ?_
            refine Wo.pre 3 (by kernel_rfl) ?_
            refine Wo.pre 1 (by kernel_rfl) ?_
            refine Wo.val (.sl a l.length c) h1b (by kernel_rfl) (iop_ld (a := ⟨b, 0, 0⟩) (by kernel_rfl) l1) ?_
            refine Wo.pre 3 (by kernel_rfl) ?_
            refine Wo.val v' h1b (by kernel_rfl) (d1' _ _ _ (by kernel_rfl) (by kernel_rfl)) ?_
            refine Wo.pre 1 (by kernel_rfl) ?_
            refine Wo.pre 1 (by kernel_rfl) ?_
            refine Wo.val .undef h' (by kernel_rfl) (iop_st1 (a := ⟨b, 0, 0⟩) (v := v') (by kernel_rfl) (by kernel_rfl) d4 s1) ?_
            refine Wo.nil ?_
            refine Wp.seq ?_
            refine Wp.region ?_
            refine Wo.pre 8 (by kernel_rfl) ?_
            refine Wo.nil ?_
            exact Wp.ret ⟨.inr rfl, rfl, (by kernel_rfl)⟩
          · have e : (l.take (2 + n)).drop 2 = (l.drop 2).take n := by rw [List.drop_take]; congr 1; omega
            rw [vX, if_pos he, Int.toNat_natCast, ← hn, ← e]
            rcases c3 with h0 | ⟨b', g, w1, w2, w3, w4⟩
            · exact .inl h0
            · exact .inr ⟨b', g, w1, Nat.lt_of_lt_of_le w2 s3.1, by rw [s3.2 _ w2 (by have := hR.1; omega)]; exact w3, w4⟩
    · skip
      by_cases h1 : l.length < 3
      · have h1' : (l.length : Int) < ((3 : Nat) : Int) := by omega
        have he : vE l ((3 : Nat) : Int) = 4 := by simp only [vE, hs, and_self, h1', not_true, if_false, if_true]
        refine ⟨h, .nils, w, ?_, by rw [vL, if_neg (by rw [he]; decide)]; exact hR, by rw [vX, if_neg (by rw [he]; decide)]; exact .inl ⟨rfl, rfl⟩, ⟨Nat.le_refl _, fun _ _ _ => rfl⟩, SB.refl _⟩
        rw [he]
        refine Runs.of' f30 rfl ?_
        refine Wp.seq ?_
        refine Wp.region ?_
        refine Wo.pre 8 (by kernel_rfl) ?_
        refine Wo.nil ?_
        refine Wp.seq ?_
        refine Wp.seq ?_
        refine Wp.region ?_
        refine Wo.pre 8 (by kernel_rfl) ?_
        refine Wo.pre 8 (by kernel_rfl) ?_
        refine Wo.nil ?_
        refine Wp.cond false (by kernel_rfl) ?_
        refine Wp.skip ?_
        refine Wp.seq ?_
        refine Wp.seq ?_
        refine Wp.region ?_
        refine Wo.pre 3 (by kernel_rfl) ?_
        refine Wo.val w h (by kernel_rfl) (iop_ld (a := ⟨b, 0, 0⟩) (by kernel_rfl) l0) ?_
        refine Wo.val (.int .i64 l.length) h (by kernel_rfl) (hw.len (by kernel_rfl)) ?_
        refine Wo.pre 8 (by kernel_rfl) ?_
        refine Wo.nil ?_
        refine Wp.cond (decide ((l.length : Int) < 3)) (by kernel_rfl) ?_
        rw [if_pos (by simp; omega)]
        refine Wp.seq ?_
        refine Wp.region ?_
        refine Wo.pre 8 (by kernel_rfl) ?_
        refine Wo.nil ?_
        exact Wp.ret ⟨.inr rfl, rfl, (by kernel_rfl)⟩
      · have h1' : ¬ (l.length : Int) < ((3 : Nat) : Int) := by omega
        obtain ⟨a, c, rfl⟩ : ∃ a c, w = .sl a l.length c := by
          rcases hw with ⟨_, rfl⟩ | ⟨a, c, e, _⟩
          · exfalso; simp at h1
          · exact ⟨a, c, e⟩
        have hlt := be_lt (l.take 3)
        rw [List.length_take, Nat.min_eq_left (by omega)] at hlt
        obtain ⟨n, hn⟩ : ∃ n, n = be (l.take 3) := ⟨_, rfl⟩
        rw [← hn] at hlt
        have hn24 : n < 2 ^ 24 := by omega
        have hmx : maxRow < 2 ^ 62 := by decide
        have w1 : IntKind.i64.wrap ((l.length : Int) - 3) = (l.length : Int) - 3 := i64_fit _ (by omega)
        have w2 : IntKind.i64.wrap (3 + (n : Int)) = ((3 + n : Nat) : Int) := by rw [i64_fit _ (by omega)]; omega
        by_cases h2 : l.length < 3 + n
        · have he : vE l ((3 : Nat) : Int) = 4 := by
            have h2' : l.length < ((3 : Nat) : Int).toNat + be (l.take ((3 : Nat) : Int).toNat) := by rw [Int.toNat_natCast, ← hn]; exact h2
            simp only [vE, hs, and_self, h1', not_true, if_false, h2', if_true]
          refine ⟨h, .nils, .sl a l.length c, ?_, by rw [vL, if_neg (by rw [he]; decide)]; exact hR, by rw [vX, if_neg (by rw [he]; decide)]; exact .inl ⟨rfl, rfl⟩, ⟨Nat.le_refl _, fun _ _ _ => rfl⟩, SB.refl _⟩
          rw [he]
          refine Runs.of' f30 rfl ?_
          refine Wp.seq ?_
          refine Wp.region ?_
          refine Wo.pre 8 (by kernel_rfl) ?_
          refine Wo.nil ?_
          refine Wp.seq ?_
          refine Wp.seq ?_
          refine Wp.region ?_
          refine Wo.pre 8 (by kernel_rfl) ?_
          refine Wo.pre 8 (by kernel_rfl) ?_
          refine Wo.nil ?_
          refine Wp.cond false (by kernel_rfl) ?_
          refine Wp.skip ?_
          refine Wp.seq ?_
          refine Wp.seq ?_
          refine Wp.region ?_
          refine Wo.pre 3 (by kernel_rfl) ?_
          refine Wo.val (.sl a l.length c) h (by kernel_rfl) (iop_ld (a := ⟨b, 0, 0⟩) (by kernel_rfl) l0) ?_
          refine Wo.pre 8 (by kernel_rfl) ?_
          refine Wo.nil ?_
          refine Wp.cond (decide ((l.length : Int) < 3)) (by kernel_rfl) ?_
          rw [if_neg (by simp; omega)]
          refine Wp.skip ?_
          refine Wp.seq ?_
          refine Wp.region ?_
          refine Wo.pre 8 (by kernel_rfl) ?_
          refine Wo.nil ?_
          refine Wp.seq ?_
          refine Wp.seq ?_
          refine Wp.region ?_
          refine Wo.pre 8 (by kernel_rfl) ?_
          refine Wo.nil ?_
          refine Wp.block ?_
          refine rrvec_loop l0 hw (size := 3) (by omega) (by omega) 3 0 (by omega) _ (by kernel_rfl) (by kernel_rfl) (by kernel_rfl) (by kernel_rfl) (by kernel_rfl) _ ?_
          intro ts' g0 g1 g2
          have e0 : getL ts' 0 = some (.ptr ⟨b, 0, 0⟩) := (g1 0 (by omega)).trans (by kernel_rfl)
          have e1 : getL ts' 1 = some (.int .i64 ((3 : Nat) : Int)) := (g1 1 (by omega)).trans (by kernel_rfl)
          rw [← hn] at g2
          rw [laid_eq g0 [(0, .ptr ⟨b, 0, 0⟩), (1, .int .i64 3), (6, .int .i64 n)] (by simp [e0, e1, g2])]
          refine Wp.seq ?_
          refine Wp.seq ?_
          refine Wp.region ?_
          refine Wo.pre 3 (by kernel_rfl) ?_
          refine Wo.val (.sl a l.length c) h (by kernel_rfl) (iop_ld (a := ⟨b, 0, 0⟩) (by kernel_rfl) l0) ?_
          refine Wo.pre 8 (by kernel_rfl) ?_
          refine Wo.nil ?_
          refine Wp.cond (decide (IntKind.i64.wrap ((l.length : Int) - 3) < (n : Int))) (by kernel_rfl) ?_
          rw [w1, if_pos (by simp; omega)]
          refine Wp.seq ?_
          refine Wp.region ?_
          refine Wo.pre 8 (by kernel_rfl) ?_
          refine Wo.nil ?_
          exact Wp.ret ⟨.inr rfl, rfl, (by kernel_rfl)⟩
        · have he : vE l ((3 : Nat) : Int) = 0 := by
            have h2' : ¬ l.length < ((3 : Nat) : Int).toNat + be (l.take ((3 : Nat) : Int).toNat) := by rw [Int.toNat_natCast, ← hn]; exact h2
            simp only [vE, hs, and_self, h1', not_true, if_false, h2']
          obtain ⟨q, t1, t2, t3⟩ := hw.sub hR.2.2.2.1 (i := 3) (j := 3 + n) (by omega) (by omega)
          obtain ⟨x, h1b, c1, c2, c3⟩ := own_run t2 (by rw [List.length_drop, List.length_take]; omega)
          have hR1 : RRd h1b b (.sl a l.length c) l := ⟨Nat.lt_of_lt_of_le hR.1 c2.1, by rw [c2.2 _ hR.1]; exact hR.2.1, hw.ext c2, hR.2.2.2⟩
          have l1 := hR1.ld
          obtain ⟨v', d1, d2, d3, d4, d5⟩ := hR1.2.2.1.drop hR.2.2.2.1 (n := 3 + n) (by omega)
          obtain ⟨h', s1, s2, s3⟩ := hR1.st d2 (fun a n c e => (d3 a n c e).2) (fun a n c e => by obtain ⟨⟨a0, m0, c0, q1, q2⟩, _⟩ := d3 a n c e; rw [← q2]; exact hR.2.2.2.2 _ _ _ q1)
          have t1' : ∀ (x y z : IX) (ρ : IX → AV), ρ x = .sl a l.length c → ρ y = .int .i64 3 → ρ z = .int .i64 (IntKind.i64.wrap (3 + (n : Int))) → iop (.slL 1 x (some y) (some z) none) ρ h = some (.val q h) := fun x y z ρ hx hy hz => t1 x y z ρ hx hy (by rw [hz, w2])
          have d1' : ∀ (x y : IX) (ρ : IX → AV), ρ x = .sl a l.length c → ρ y = .int .i64 (IntKind.i64.wrap (3 + (n : Int))) → iop (.slL 1 x (some y) none none) ρ h1b = some (.val v' h1b) := fun x y ρ hx hy => d1 x y ρ hx (by rw [hy, w2])
          refine ⟨h', x, v', ?_, by rw [vL, if_pos he, vN, Int.toNat_natCast, ← hn]; exact s2, ?_, ⟨Nat.le_trans c2.1 s3.1, fun k hk hkb => by rw [s3.2 k (Nat.lt_of_lt_of_le hk c2.1) hkb, c2.2 k hk]⟩, fun a n c e => (d3 a n c e).1⟩
          · rw [he]
            refine Runs.of' f30 rfl ?_
            refine Wp.seq ?_
            refine Wp.region ?_
            refine Wo.pre 8 (by kernel_rfl) ?_
            refine Wo.nil ?_
            refine Wp.seq ?_
            refine Wp.seq ?_
            refine Wp.region ?_
            refine Wo.pre 8 (by kernel_rfl) ?_
            refine Wo.pre 8 (by kernel_rfl) ?_
            refine Wo.nil ?_
            refine Wp.cond false (by kernel_rfl) ?_
            refine Wp.skip ?_
            refine Wp.seq ?_
            refine Wp.seq ?_
            refine Wp.region ?_
            refine Wo.pre 3 (by kernel_rfl) ?_
            refine Wo.val (.sl a l.length c) h (by kernel_rfl) (iop_ld (a := ⟨b, 0, 0⟩) (by kernel_rfl) l0) ?_
            refine Wo.pre 8 (by kernel_rfl) ?_
            refine Wo.nil ?_
            refine Wp.cond (decide ((l.length : Int) < 3)) (by kernel_rfl) ?_
            rw [if_neg (by simp; omega)]
            refine Wp.skip ?_
            refine Wp.seq ?_
            refine Wp.region ?_
            refine Wo.pre 8 (by kernel_rfl) ?_
            refine Wo.nil ?_
            refine Wp.seq ?_
            refine Wp.seq ?_
            refine Wp.region ?_
            refine Wo.pre 8 (by kernel_rfl) ?_
            refine Wo.nil ?_
            refine Wp.block ?_
            refine rrvec_loop l0 hw (size := 3) (by omega) (by omega) 3 0 (by omega) _ (by kernel_rfl) (by kernel_rfl) (by kernel_rfl) (by kernel_rfl) (by kernel_rfl) _ ?_
            intro ts' g0 g1 g2
            have e0 : getL ts' 0 = some (.ptr ⟨b, 0, 0⟩) := (g1 0 (by omega)).trans (by kernel_rfl)
            have e1 : getL ts' 1 = some (.int .i64 ((3 : Nat) : Int)) := (g1 1 (by omega)).trans (by kernel_rfl)
            rw [← hn] at g2
            rw [laid_eq g0 [(0, .ptr ⟨b, 0, 0⟩), (1, .int .i64 3), (6, .int .i64 n)] (by simp [e0, e1, g2])]
            refine Wp.seq ?_
            refine Wp.seq ?_
            refine Wp.region ?_
            refine Wo.pre 3 (by kernel_rfl) ?_
            refine Wo.val (.sl a l.length c) h (by kernel_rfl) (iop_ld (a := ⟨b, 0, 0⟩) (by kernel_rfl) l0) ?_
            refine Wo.pre 8 (by kernel_rfl) ?_
            refine Wo.nil ?_
            refine Wp.cond (decide (IntKind.i64.wrap ((l.length : Int) - 3) < (n : Int))) (by kernel_rfl) ?_
            rw [w1, if_neg (by simp; omega)]
            refine Wp.skip ?_
            refine Wp.seq ?_
            refine Wp.region ?_
            refine Wo.pre 3 (by kernel_rfl) ?_
            refine Wo.val (.sl a l.length c) h (by kernel_rfl) (iop_ld (a := ⟨b, 0, 0⟩) (by kernel_rfl) l0) ?_
            refine Wo.pre 3 (by kernel_rfl) ?_
            refine Wo.pre 1 (by kernel_rfl) ?_
            refine Wo.val q h (by kernel_rfl) (t1' _ _ _ _ (by kernel_rfl) (by kernel_rfl) (by kernel_rfl)) ?_
            refine Wo.call (by kernel_rfl) (by kernel_rfl) (c1) ?_
            refine Wo.pre 8 (by kernel_rfl) ?_
            refine Wo.nil ?_
            refine Wp.seq ?_
            refine Wp.region ?_
            refine Wo.pre 3 (by kernel_rfl) ?_
            refine Wo.pre 1 (by kernel_rfl) ?_
            refine Wo.val (.sl a l.length c) h1b (by kernel_rfl) (iop_ld (a := ⟨b, 0, 0⟩) (by kernel_rfl) l1) ?_
            refine Wo.pre 3 (by kernel_rfl) ?_
            refine Wo.val v' h1b (by kernel_rfl) (d1' _ _ _ (by kernel_rfl) (by kernel_rfl)) ?_
            refine Wo.pre 1 (by kernel_rfl) ?_
            refine Wo.pre 1 (by kernel_rfl) ?_
            refine Wo.val .undef h' (by kernel_rfl) (iop_st1 (a := ⟨b, 0, 0⟩) (v := v') (by kernel_rfl) (by kernel_rfl) d4 s1) ?_
            refine Wo.nil ?_
            refine Wp.seq ?_
            refine Wp.region ?_
            refine Wo.pre 8 (by kernel_rfl) ?_
            refine Wo.nil ?_
            exact Wp.ret ⟨.inr rfl, rfl, (by kernel_rfl)⟩
          · have e : (l.take (3 + n)).drop 3 = (l.drop 3).take n := by rw [List.drop_take]; congr 1; omega
            rw [vX, if_pos he, Int.toNat_natCast, ← hn, ← e]
            rcases c3 with h0 | ⟨b', g, w1, w2, w3, w4⟩
            · exact .inl h0
            · exact .inr ⟨b', g, w1, Nat.lt_of_lt_of_le w2 s3.1, by rw [s3.2 _ w2 (by have := hR.1; omega)]; exact w3, w4⟩
  · have he : vE l size = 1 := by simp only [vE, hs, not_false_eq_true, if_true]
    have n1 : (size != 1) = true := by simp; omega
    have n2 : (size != 2) = true := by simp; omega
    have n3 : (size != 3) = true := by simp; omega
    refine ⟨h, .nils, w, ?_, by rw [vL, if_neg (by rw [he]; decide)]; exact hR, by rw [vX, if_neg (by rw [he]; decide)]; exact .inl ⟨rfl, rfl⟩, ⟨Nat.le_refl _, fun _ _ _ => rfl⟩, SB.refl _⟩
    rw [he]
    refine Runs.of' f30 rfl ?_
    refine Wp.seq ?_
    refine Wp.region ?_
    refine Wo.pre 1 (by kernel_rfl) ?_
    refine Wo.pre 1 (by kernel_rfl) ?_
    refine Wo.nil ?_
    refine Wp.seq ?_
    refine Wp.seq ?_
    refine Wp.region ?_
    refine Wo.pre 1 (by kernel_rfl) ?_
    refine Wo.val (.bool true) h (by kernel_rfl) (iop_neB (k := .i64) (a := size) (b := 1) true (by kernel_rfl) (by kernel_rfl) n1) ?_
    refine Wo.pre 1 (by kernel_rfl) ?_
    refine Wo.pre 1 (by kernel_rfl) ?_
    refine Wo.val (.bool true) h (by kernel_rfl) (iop_neB (k := .i64) (a := size) (b := 2) true (by kernel_rfl) (by kernel_rfl) n2) ?_
    refine Wo.pre 1 (by kernel_rfl) ?_
    refine Wo.pre 1 (by kernel_rfl) ?_
    refine Wo.pre 1 (by kernel_rfl) ?_
    refine Wo.val (.bool true) h (by kernel_rfl) (iop_neB (k := .i64) (a := size) (b := 3) true (by kernel_rfl) (by kernel_rfl) n3) ?_
    refine Wo.pre 1 (by kernel_rfl) ?_
    refine Wo.nil ?_
    refine Wp.cond true (by kernel_rfl) ?_
    refine Wp.seq ?_
    refine Wp.region ?_
    refine Wo.pre 1 (by kernel_rfl) ?_
    refine Wo.pre 1 (by kernel_rfl) ?_
    refine Wo.nil ?_
    exact Wp.ret ⟨.inr rfl, rfl, (by kernel_rfl)⟩
end Go.Det

/- The law WireReads: rows of calls of a reader are answered as the document says. -/
set_option linter.unusedVariables false
set_option linter.unusedSimpArgs false
set_option linter.unusedSectionVars false
namespace Go.Det
open Go.Proofs
attribute [local irreducible] Wp Wo Wd iop ev slots quiets wanted put

theorem flat_at {α : Type} {sz : Nat} : ∀ {cc : List (List α)} {j : Nat} {c : List α}, (∀ c ∈ cc, c.length = sz) → cc[j]? = some c → (cc.flatten.drop (j * sz)).take sz = c
  | [], j, c, _, h => by simp at h
  | x :: cc, 0, c, hl, h => by
    simp only [List.getElem?_cons_zero, Option.some.injEq] at h
    subst h
    have := hl x (by simp)
    simp [← this]
  | x :: cc, j + 1, c, hl, h => by
    have hx := hl x (by simp)
    have ih := flat_at (cc := cc) (j := j) (fun c hc => hl c (by simp [hc])) (by simpa using h)
    rw [List.flatten_cons, Nat.succ_mul, Nat.add_comm, ← List.drop_drop, List.drop_append_of_le_length (by omega), ← hx, List.drop_length, List.nil_append, hx]
    exact ih

theorem ldn_elem {h : H} {a : AA} {sz n : Nat} {cc : List (List AV)} (hl : h.ldn a (n * sz) = some cc.flatten) (hn : cc.length = n) (hs : ∀ c ∈ cc, c.length = sz) {j : Nat} {c : List AV} (hj : cc[j]? = some c) : h.ldn ⟨a.b, a.g, a.o + j * sz⟩ sz = some c := by
  have hlt : j < n := by rw [← hn]; exact (List.getElem?_eq_some_iff.1 hj).1
  have h1 : (j + 1) * sz ≤ n * sz := Nat.mul_le_mul_right _ hlt
  rw [Nat.succ_mul] at h1
  have := ldn_take (ldn_drop hl (n := j * sz) (by omega)) (n := sz) (by omega)
  rw [flat_at hs hj] at this
  exact this

/-- A slice of structs, element by element. -/
theorem KSl.elem {α : Type} {R : H → α → List AV → Prop} {sz : Nat} {h : H} {xs : List α} {v : AV} (hk : KSl R sz h xs [v]) (hlen : ∀ x c, R h x c → c.length = sz) :
    (v = .nils ∧ xs = []) ∨ ∃ a c, v = .sl a xs.length (.ex c) ∧ xs.length ≤ c ∧ a.b < h.n ∧ ∀ (j : Nat) (x : α), xs[j]? = some x → ∃ c, R h x c ∧ h.ldn ⟨a.b, a.g, a.o + j * sz⟩ sz = some c := by
  obtain ⟨v', e, hv⟩ := hk
  simp only [List.cons.injEq, and_true] at e
  subst e
  rcases hv with h0 | ⟨a, c, rfl, h1, h2, cc, h3, h4, h5⟩
  · exact .inl h0
  · refine .inr ⟨a, c, rfl, h1, h2, fun j x hj => ?_⟩
    have hs : ∀ c ∈ cc, c.length = sz := by
      intro c hc
      obtain ⟨i, hi⟩ := List.getElem?_of_mem hc
      have hlt : i < xs.length := by rw [← h4]; exact (List.getElem?_eq_some_iff.1 hi).1
      obtain ⟨c', g1, g2⟩ := h5 i xs[i] (List.getElem?_eq_getElem hlt)
      rw [hi] at g1
      cases g1
      exact hlen _ _ g2
    obtain ⟨c', g1, g2⟩ := h5 j x hj
    exact ⟨c', g2, ldn_elem h3 h4 hs g1⟩

theorem iop_ia {x y : IX} {ρ : IX → AV} {h : H} {a : AA} {n : Nat} {c : Cp} {s i : Nat} (hx : ρ x = .sl a n c) (hy : ρ y = .int .i64 i) (hi : i < n) : iop (.ia s x y) ρ h = some (.val (.ptr ⟨a.b, a.g, a.o + i * s⟩) h) := by
  have h1 : (i : Int) < n := by omega
  simp [iop, hx, hy, asI, h1, hi]

theorem iop_stA {x y : IX} {ρ : IX → AV} {h h' : H} {a : AA} {cs : List AV} {n : Nat} (hx : ρ x = .ptr a) (hy : ρ y = .agg cs) (hn : cs.length = n) (hs : h.st a cs = some h') : iop (.st n x y) ρ h = some (.val .undef h') := by
  have e : (AV.agg cs).cells = cs := rfl
  simp only [iop, hx, hy, e, hn, BEq.rfl, if_true, hs, Option.map_some]

theorem Rd.keep {h h' : H} {rb : Nat} {v : AV} {L : List UInt8} (hR : Rd h rb v L) (hn : h.n ≤ h'.n) (h1 : h'.get rb = h.get rb) (h2 : ∀ a n c, v = .sl a n c → h'.get a.b = h.get a.b) : Rd h' rb v L := by
  refine ⟨Nat.lt_of_lt_of_le hR.1 hn, by rw [h1]; exact hR.2.1, ?_, hR.2.2.2⟩
  rcases hR.2.2.1 with h0 | ⟨a, c, e, e2, e3⟩
  · exact .inl h0
  · exact .inr ⟨a, c, e, Nat.lt_of_lt_of_le e2 hn, by rw [ldn_same (h2 _ _ _ e)]; exact e3⟩
theorem RRd.keep {h h' : H} {rb : Nat} {v : AV} {L : List UInt8} (hR : RRd h rb v L) (hn : h.n ≤ h'.n) (h1 : h'.get rb = h.get rb) (h2 : ∀ a n c, v = .sl a n c → h'.get a.b = h.get a.b) : RRd h' rb v L := by
  refine ⟨Nat.lt_of_lt_of_le hR.1 hn, by rw [h1]; exact hR.2.1, ?_, hR.2.2.2⟩
  rcases hR.2.2.1 with h0 | ⟨a, c, e, e2, e3⟩
  · exact .inl h0
  · exact .inr ⟨a, c, e, Nat.lt_of_lt_of_le e2 hn, by rw [ldn_same (h2 _ _ _ e)]; exact e3⟩
theorem rdL_len (l : List UInt8) (n : Int) : (rdL l n).length ≤ l.length := by unfold rdL; split <;> simp
theorem vL_len (l : List UInt8) (n : Int) : (vL l n).length ≤ l.length := by unfold vL; split <;> simp
theorem tL_len (l : List UInt8) (n : Int) : (tL l n).length ≤ l.length := by unfold tL; split <;> simp
theorem vX_len (l : List UInt8) (n : Int) : (vX l n).length ≤ l.length := by unfold vX; split <;> simp [List.length_take, List.length_drop]; omega
theorem tX_len (l : List UInt8) (n : Int) : (tX l n).length ≤ l.length := by unfold tX; split <;> simp [List.length_take]; omega

/-- What holds at each call: both readers have the same row left. -/
structure Two (lo rb sb : Nat) (acts : List (Int × Int)) (ab : AA) (h : H) (L : List UInt8) : Prop where
  ex : ∃ v w, Rd h rb v L ∧ RRd h sb w L ∧ (∀ a n c, v = .sl a n c → a.b < rb) ∧ (∀ a n c, w = .sl a n c → rb < a.b ∧ a.b < sb)
  lt : rb < sb
  lob : lo ≤ rb
  len : L.length ≤ maxRow
  act : ∀ (j : Nat) (x : Int × Int), acts[j]? = some x → h.ldn ⟨ab.b, ab.g, ab.o + j * 2⟩ 2 = some [.int .i64 x.1, .int .i64 x.2]
  abn : acts ≠ [] → ab.b < lo

theorem Two.next {lo rb sb : Nat} {acts : List (Int × Int)} {ab : AA} {h h' : H} {L L' : List UInt8} {v w v' w' : AV} (hT : Two lo rb sb acts ab h L) (hR : Rd h rb v L) (hS : RRd h sb w L) (hv : ∀ a n c, v = .sl a n c → a.b < rb) (hw : ∀ a n c, w = .sl a n c → rb < a.b ∧ a.b < sb)
    (hR' : Rd h' rb v' L') (hS' : RRd h' sb w' L') (sv : SB v v') (sw : SB w w') (keep : ∀ b, b < h.n → b ≠ rb → b ≠ sb → h'.get b = h.get b) (hl : L'.length ≤ L.length) : Two lo rb sb acts ab h' L' := by
  refine ⟨⟨v', w', hR', hS', ?_, ?_⟩, hT.lt, hT.lob, Nat.le_trans hl hT.len, ?_, hT.abn⟩
  · intro a n c e
    obtain ⟨a0, n0, c0, e0, q⟩ := sv a n c e
    rw [← q]; exact hv _ _ _ e0
  · intro a n c e
    obtain ⟨a0, n0, c0, e0, q⟩ := sw a n c e
    rw [← q]; exact hw _ _ _ e0
  · intro j x hj
    have hne : acts ≠ [] := by intro e; rw [e] at hj; simp at hj
    have h1 := hT.abn hne
    have h2 := hT.lob
    have h3 := hT.lt
    have h4 := hR.1
    have hk : h'.get (AA.b ⟨ab.b, ab.g, ab.o + j * 2⟩) = h.get (AA.b ⟨ab.b, ab.g, ab.o + j * 2⟩) := keep ab.b (by omega) (by omega) (by omega)
    rw [ldn_same hk]
    exact hT.act j x hj

/-- A state at the head of the round. -/
def At4 (rb sb : Nat) (xl : AV) (n i : Nat) (ts : List AV) : Prop := ts.length = 136 ∧ getL ts 6 = some (.ptr ⟨rb, 0, 0⟩) ∧ getL ts 7 = some (.ptr ⟨sb, 0, 0⟩) ∧ getL ts 39 = some xl ∧ getL ts 40 = some (.int .i64 n) ∧ getL ts 41 = some (.int .i64 i)

set_option maxHeartbeats 4000000 in
theorem reads_loop {lo rb sb : Nat} {acts : List (Int × Int)} {ab : AA} {cc : Cp} (hmx : acts.length < 2 ^ 62) :
    ∀ (k i : Nat), i + k = acts.length → ∀ (h : H) (L : List UInt8) (ts : List AV) (xl : AV), (acts ≠ [] → xl = .sl ab acts.length cc) → Two lo rb sb acts ab h L → At4 rb sb xl acts.length i ts →
      ∀ (Q : Ex → St → Prop), (∀ ts' h', ts'.length = 136 → Q (.exit 2) (ts', h')) → Wp TF (.loop l4_2) (ts, h) Q := by
  intro k
  induction k with
  | zero =>
    intro i hi h L ts xl hxl hT hA Q hQ
    obtain ⟨t0, t6, t7, t39, t40, t41⟩ := hA
    obtain rfl : i = acts.length := by omega
    refine Wp.loop ?_
    rw [laid_eq t0 [(6, .ptr ⟨rb, 0, 0⟩), (7, .ptr ⟨sb, 0, 0⟩), (39, xl), (40, .int .i64 acts.length), (41, .int .i64 acts.length)] (by simp [t6, t7, t39, t40, t41])]
    unfold l4_2
    refine Wp.seq ?_
    refine Wp.region ?_
    refine Wo.pre 8 (by kernel_rfl) ?_
    refine Wo.nil ?_
    refine Wp.seq ?_
    refine Wp.cond (decide ((acts.length : Int) < (acts.length : Int))) (by kernel_rfl) ?_
    rw [if_neg (by simp)]
    exact Wp.exit (hQ _ _ (by kernel_rfl))
  | succ k ih =>
    intro i hi h L ts xl hxl hT hA Q hQ
    obtain ⟨t0, t6, t7, t39, t40, t41⟩ := hA
    have hlt : i < acts.length := by omega
    have hne : acts ≠ [] := by intro e; rw [e] at hlt; simp at hlt
    obtain rfl := hxl hne
    obtain ⟨⟨what, n⟩, hx⟩ : ∃ x, acts[i]? = some x := ⟨acts[i], List.getElem?_eq_getElem hlt⟩
    have hact := hT.act i _ hx
    have habn := hT.abn hne
    have w1 : IntKind.i64.wrap ((i : Int) + 1) = ((i + 1 : Nat) : Int) := by rw [i64_fit _ (by omega)]; omega
    obtain ⟨v, w, hR, hS, hv, hw⟩ := hT.ex
    have hrs := hT.lt
    have hlo := hT.lob
    obtain ⟨H1, hH1⟩ : ∃ H1, H1 = h.new (.cells 0 42 [.int .i64 0, .int .i64 0] 0 false) := ⟨_, rfl⟩
    obtain ⟨H2, hH2⟩ : ∃ H2, H2 = H1.set h.n (.cells 0 42 [.int .i64 what, .int .i64 n] 0 false) := ⟨_, rfl⟩
    have g1 : H1.get h.n = some (.cells 0 42 [.int .i64 0, .int .i64 0] 0 false) := by rw [hH1]; exact h.get_new _
    have g2 : H2.get h.n = some (.cells 0 42 [.int .i64 what, .int .i64 n] 0 false) := by rw [hH2, H1.get_set]
    have n2 : H2.n = h.n + 1 := by rw [hH2, hH1]; rfl
    have X2 : Ext h H2 := ⟨by omega, fun b hb => by rw [hH2, H1.get_set_ne _ b _ (by omega), hH1]; exact h.get_new_ne b _ (by omega)⟩
    have st2 : H1.st ⟨h.n, 0, 0⟩ [.int .i64 what, .int .i64 n] = some H2 := by
      unfold H.st
      simp only [g1]
      rw [if_pos (by simp [AV.one]), hH2]
      rfl
    have Ld : ∀ (k : H), k.get h.n = some (.cells 0 42 [.int .i64 what, .int .i64 n] 0 false) → k.ldg ⟨h.n, 0, 0⟩ none = some (.int .i64 what) ∧ k.ldg ⟨h.n, 0, 1⟩ none = some (.int .i64 n) := fun k hk => by simp [H.ldg, H.ld, H.row, hk, getL]
    have hact2 : h.ldg ⟨ab.b, ab.g, ab.o + i * 2⟩ (some 2) = some (.agg [.int .i64 what, .int .i64 n]) := by simp [H.ldg, hact]
    have hR2 := hR.ext X2
    have hS2 : RRd H2 sb w L := ⟨Nat.lt_of_lt_of_le hS.1 X2.1, by rw [X2.2 _ hS.1]; exact hS.2.1, hS.2.2.1.ext X2, hS.2.2.2⟩
    have rbn := hR.1
    have sbn := hS.1
    refine Wp.loop ?_
    rw [laid_eq t0 [(6, .ptr ⟨rb, 0, 0⟩), (7, .ptr ⟨sb, 0, 0⟩), (39, .sl ab acts.length cc), (40, .int .i64 acts.length), (41, .int .i64 i)] (by simp [t6, t7, t39, t40, t41])]
    unfold l4_2
    refine Wp.seq ?_
    refine Wp.region ?_
    refine Wo.pre 8 (by kernel_rfl) ?_
    refine Wo.nil ?_
    refine Wp.seq ?_
    refine Wp.cond (decide ((i : Int) < (acts.length : Int))) (by kernel_rfl) ?_
    rw [if_pos (by simp; omega)]
    have enew : ∀ ts, iop (.new 42 (.c (.agg [.int .i64 0, .int .i64 0]))) (ev ts) h = some (.val (.ptr ⟨h.n, 0, 0⟩) H1) := fun ts => by rw [hH1]; exact iop_new (by kernel_rfl) rfl
    refine Wp.skip ?_
    refine Wp.seq ?_
    refine Wp.block ?_
    refine Wp.seq ?_
    refine Wp.region ?_
    refine Wo.val _ h (by kernel_rfl) (iop_ia (a := ab) (n := acts.length) (c := cc) (i := i) (by kernel_rfl) (by kernel_rfl) hlt) ?_
    refine Wo.val (.agg [.int .i64 what, .int .i64 n]) h (by kernel_rfl) (iop_ld (a := ⟨ab.b, ab.g, ab.o + i * 2⟩) (by kernel_rfl) hact2) ?_
    refine Wo.val _ _ (by kernel_rfl) (enew _) ?_
    refine Wo.val .undef H2 (by kernel_rfl) (iop_stA (a := ⟨h.n, 0, 0⟩) (by kernel_rfl) (by kernel_rfl) rfl st2) ?_
    refine Wo.nil ?_
    refine Wp.seq ?_
    refine Wp.seq ?_
    refine Wp.region ?_
    refine Wo.pre 1 (by kernel_rfl) ?_
    refine Wo.val (.int .i64 what) H2 (by kernel_rfl) (iop_ld (a := ⟨h.n, 0, 0⟩) (by kernel_rfl) (Ld H2 g2).1) ?_
    refine Wo.nil ?_
    refine Wp.mono (Q := fun e s => e = .normal ∧ ∃ L', Two lo rb sb acts ab s.2 L' ∧ At4 rb sb (.sl ab acts.length cc) acts.length i s.1) ?_ ?_
    rotate_left
    · rintro e ⟨ts2, k2⟩ ⟨rfl, L', hT2, hA2⟩
      have hA2 : At4 rb sb (.sl ab acts.length cc) acts.length i ts2 := hA2
      obtain ⟨u0, u6, u7, u39, u40, u41⟩ := hA2
      obtain ⟨v2, w2, hR', hS', hv', hw'⟩ := hT2.ex
      have m0 := hS'.ld
      have lf := left_run hR'
      have hT2' : Two lo rb sb acts ab k2 L' := hT2
      have hp : Pend.holds [(.ld none (.c (.ptr ⟨sb, 0, 0⟩)), w2, 5)] k2 = true := holds_and (rd_ld m0) rfl
      rw [laid_eq u0 [(6, .ptr ⟨rb, 0, 0⟩), (7, .ptr ⟨sb, 0, 0⟩), (39, .sl ab acts.length cc), (40, .int .i64 acts.length), (41, .int .i64 i)] (by simp [u6, u7, u39, u40, u41])]
      refine Wp.seq ?_
      refine Wp.draw ?_
      refine Wd.pure (by kernel_rfl) (by kernel_rfl) ?_
      refine Wd.pure (by kernel_rfl) (by kernel_rfl) ?_
      refine Wd.pure (by kernel_rfl) (by kernel_rfl) ?_
      refine Wd.pure (by kernel_rfl) (by kernel_rfl) ?_
      refine Wd.read w2 (.ld none (.c (.ptr ⟨sb, 0, 0⟩))) (by kernel_rfl) (by kernel_rfl) (iop_ld (a := ⟨sb, 0, 0⟩) (by kernel_rfl) m0) ?_
      refine Wd.make (.int .i64 L'.length) k2 (by kernel_rfl) (by kernel_rfl) (hS'.2.2.1.len (by kernel_rfl)) ?_
      refine Wd.call (by kernel_rfl) (by kernel_rfl) lf (holds_of _ (by kernel_rfl) hp) ?_
      refine Wd.make (.bool false) k2 (by kernel_rfl) (by kernel_rfl) (iop_neB (k := .i64) (a := L'.length) (b := L'.length) false (by kernel_rfl) (by kernel_rfl) (by simp)) ?_
      refine Wd.done (holds_of _ (by kernel_rfl) hp) ?_
      refine Wp.cond false (by kernel_rfl) ?_
      refine Wp.skip ?_
      refine Wp.region ?_
      refine Wo.pre 8 (by kernel_rfl) ?_
      refine Wo.nil ?_
      refine ih (i + 1) (by omega) k2 L' _ _ (fun _ => rfl) hT2' ⟨(by kernel_rfl), (by kernel_rfl), (by kernel_rfl), (by kernel_rfl), (by kernel_rfl), by rw [← w1]; kernel_rfl⟩ Q hQ
    by_cases h0 : what = 0
    · obtain ⟨h3, v3, c1, R3, x3, sb3⟩ := rdnum_any hR2 n hT.len
      have S3 : RRd h3 sb w L := hS2.keep x3.1 (x3.2 _ (by omega) (by omega)) (fun a n c e => x3.2 _ (by have := hw a n c e; omega) (by have := hw a n c e; omega))
      obtain ⟨h4, w4, c2, S4, x4, sb4⟩ := rrnum_any S3 n hT.len
      have R4 : Rd h4 rb v3 (rdL L n) := R3.keep x4.1 (x4.2 _ (by have := x3.1; omega) (by omega)) (fun a n c e => by
        obtain ⟨a0, n0, c0, e0, q⟩ := sb3 a n c e
        have := hv _ _ _ e0
        exact x4.2 _ (by have := x3.1; omega) (by omega))
      have n3 := x3.1
      have g3 : h3.get h.n = some (.cells 0 42 [.int .i64 what, .int .i64 n] 0 false) := by rw [x3.2 _ (by omega) (by omega)]; exact g2
      refine Wp.block ?_
      refine Wp.seq ?_
      refine Wp.region ?_
      refine Wo.pre 8 (by kernel_rfl) ?_
      refine Wo.nil ?_
      refine Wp.cond (what == 0) (by kernel_rfl) ?_
      rw [if_pos (by simp [h0])]
      refine Wp.seq ?_
      refine Wp.region ?_
      refine Wo.pre 1 (by kernel_rfl) ?_
      refine Wo.pre 1 (by kernel_rfl) ?_
      refine Wo.val (.int .i64 n) H2 (by kernel_rfl) (iop_ld (a := ⟨h.n, 0, 1⟩) (by kernel_rfl) (Ld H2 g2).2) ?_
      refine Wo.call (by kernel_rfl) (by kernel_rfl) (c1) ?_
      refine Wo.pre 1 (by kernel_rfl) ?_
      refine Wo.pre 1 (by kernel_rfl) ?_
      refine Wo.pre 1 (by kernel_rfl) ?_
      refine Wo.pre 1 (by kernel_rfl) ?_
      refine Wo.pre 1 (by kernel_rfl) ?_
      refine Wo.nil ?_
      refine Wp.seq ?_
      refine Wp.region ?_
      refine Wo.pre 1 (by kernel_rfl) ?_
      refine Wo.pre 1 (by kernel_rfl) ?_
      refine Wo.val (.int .i64 n) h3 (by kernel_rfl) (iop_ld (a := ⟨h.n, 0, 1⟩) (by kernel_rfl) (Ld h3 g3).2) ?_
      refine Wo.call (by kernel_rfl) (by kernel_rfl) (c2) ?_
      refine Wo.pre 1 (by kernel_rfl) ?_
      refine Wo.pre 1 (by kernel_rfl) ?_
      refine Wo.pre 1 (by kernel_rfl) ?_
      refine Wo.pre 1 (by kernel_rfl) ?_
      refine Wo.pre 1 (by kernel_rfl) ?_
      refine Wo.nil ?_
      refine Wp.seq ?_
      refine Wp.region ?_
      refine Wo.pre 1 (by kernel_rfl) ?_
      refine Wo.pre 1 (by kernel_rfl) ?_
      refine Wo.val (.bool false) h4 (by kernel_rfl) (iop_neB (k := .u64) (a := (rdV L n : Nat)) (b := (rdV L n : Nat)) false (by kernel_rfl) (by kernel_rfl) (by simp)) ?_
      refine Wo.pre 1 (by kernel_rfl) ?_
      refine Wo.pre 1 (by kernel_rfl) ?_
      refine Wo.pre 1 (by kernel_rfl) ?_
      refine Wo.val (.bool false) h4 (by kernel_rfl) (iop_neB (k := .i64) (a := rdE L n) (b := rdE L n) false (by kernel_rfl) (by kernel_rfl) (by simp)) ?_
      refine Wo.pre 1 (by kernel_rfl) ?_
      refine Wo.nil ?_
      refine Wp.cond false (by kernel_rfl) ?_
      refine Wp.skip ?_
      refine ⟨rfl, rdL L n, hT.next hR hS hv hw R4 S4 sb3 sb4 (fun b hb e1 e2 => ?_) (rdL_len L n), ⟨(by kernel_rfl), (by kernel_rfl), (by kernel_rfl), (by kernel_rfl), (by kernel_rfl), (by kernel_rfl)⟩⟩
      show h4.get b = h.get b
      rw [x4.2 b (by omega) e2, x3.2 b (by omega) e1, X2.2 b hb]
    · by_cases h1 : what = 1
      · refine Wp.block ?_
        refine Wp.seq ?_
        refine Wp.region ?_
        refine Wo.pre 8 (by kernel_rfl) ?_
        refine Wo.nil ?_
        refine Wp.cond (what == 0) (by kernel_rfl) ?_
        rw [if_neg (by simp [h0])]
        refine Wp.seq ?_
        refine Wp.seq ?_
        refine Wp.region ?_
        refine Wo.pre 8 (by kernel_rfl) ?_
        refine Wo.nil ?_
        refine Wp.cond (what == 1) (by kernel_rfl) ?_
        rw [if_pos (by simp [h1])]
        refine Wp.skip ?_
        refine Wp.cond (what == 1) (by kernel_rfl) ?_
        rw [if_pos (by simp [h1])]
        refine Wp.seq ?_
        refine Wp.region ?_
        refine Wo.pre 8 (by kernel_rfl) ?_
        refine Wo.nil ?_
        refine Wp.seq ?_
        refine Wp.region ?_
        refine Wo.pre 8 (by kernel_rfl) ?_
        refine Wo.nil ?_
        refine Wp.seq ?_
        refine Wp.region ?_
        refine Wo.pre 8 (by kernel_rfl) ?_
        refine Wo.nil ?_
        refine Wp.seq ?_
        refine Wp.seq ?_
        refine Wp.region ?_
        refine Wo.pre 1 (by kernel_rfl) ?_
        refine Wo.val (.int .i64 what) H2 (by kernel_rfl) (iop_ld (a := ⟨h.n, 0, 0⟩) (by kernel_rfl) (Ld H2 g2).1) ?_
        refine Wo.pre 8 (by kernel_rfl) ?_
        refine Wo.nil ?_
        refine Wp.cond (what == 1) (by kernel_rfl) ?_
        rw [if_pos (by simp [h1])]
        obtain ⟨h3, x, v3, c1, R3, ox, x3, sb3⟩ := vec_any hR2 n hT.len
        have S3 : RRd h3 sb w L := hS2.keep x3.1 (x3.2 _ (by omega) (by omega)) (fun a n c e => x3.2 _ (by have := hw a n c e; omega) (by have := hw a n c e; omega))
        obtain ⟨h4, y, w4, c2, S4, oy, x4, sb4⟩ := rrvec_any S3 n hT.len
        have R4 : Rd h4 rb v3 (vL L n) := R3.keep x4.1 (x4.2 _ (by have := x3.1; omega) (by omega)) (fun a n c e => by
          obtain ⟨a0, n0, c0, e0, q⟩ := sb3 a n c e
          have := hv _ _ _ e0
          exact x4.2 _ (by have := x3.1; omega) (by omega))
        have n3 := x3.1
        have n4 := x4.1
        have g3 : h3.get h.n = some (.cells 0 42 [.int .i64 what, .int .i64 n] 0 false) := by rw [x3.2 _ (by omega) (by omega)]; exact g2
        have ox4 : Ow H2.n h4 x (vX L n) := by
          rcases ox with h0 | ⟨b, g, q1, q2, q3, q4⟩
          · exact .inl h0
          · exact .inr ⟨b, g, q1, by omega, by rw [x4.2 _ q2 (by omega)]; exact q3, q4⟩
        have ceq := equal_run ox4.bs oy.bs
        rw [show (vX L n == vX L n) = true by simp] at ceq
        obtain ⟨bx, gx, hbx, hsx⟩ := ox4.spoil (Ext.refl h4) h4.n
        refine Wp.seq ?_
        refine Wp.region ?_
        refine Wo.pre 1 (by kernel_rfl) ?_
        refine Wo.pre 1 (by kernel_rfl) ?_
        refine Wo.val (.int .i64 n) H2 (by kernel_rfl) (iop_ld (a := ⟨h.n, 0, 1⟩) (by kernel_rfl) (Ld H2 g2).2) ?_
        refine Wo.call (by kernel_rfl) (by kernel_rfl) (c1) ?_
        refine Wo.pre 1 (by kernel_rfl) ?_
        refine Wo.pre 1 (by kernel_rfl) ?_
        refine Wo.pre 1 (by kernel_rfl) ?_
        refine Wo.pre 1 (by kernel_rfl) ?_
        refine Wo.pre 1 (by kernel_rfl) ?_
        refine Wo.nil ?_
        refine Wp.region ?_
        refine Wo.pre 1 (by kernel_rfl) ?_
        refine Wo.pre 1 (by kernel_rfl) ?_
        refine Wo.val (.int .i64 n) h3 (by kernel_rfl) (iop_ld (a := ⟨h.n, 0, 1⟩) (by kernel_rfl) (Ld h3 g3).2) ?_
        refine Wo.call (by kernel_rfl) (by kernel_rfl) (c2) ?_
        refine Wo.pre 1 (by kernel_rfl) ?_
        refine Wo.pre 1 (by kernel_rfl) ?_
        refine Wo.pre 1 (by kernel_rfl) ?_
        refine Wo.pre 1 (by kernel_rfl) ?_
        refine Wo.pre 1 (by kernel_rfl) ?_
        refine Wo.nil ?_
        refine Wp.seq ?_
        refine Wp.seq ?_
        refine Wp.region ?_
        refine Wo.pre 1 (by kernel_rfl) ?_
        refine Wo.pre 1 (by kernel_rfl) ?_
        refine Wo.call (by kernel_rfl) (by kernel_rfl) (ceq) ?_
        refine Wo.pre 1 (by kernel_rfl) ?_
        refine Wo.pre 1 (by kernel_rfl) ?_
        refine Wo.pre 1 (by kernel_rfl) ?_
        refine Wo.pre 1 (by kernel_rfl) ?_
        refine Wo.val (.bool false) h4 (by kernel_rfl) (iop_neB (k := .i64) (a := vE L n) (b := vE L n) false (by kernel_rfl) (by kernel_rfl) (by simp)) ?_
        refine Wo.pre 1 (by kernel_rfl) ?_
        refine Wo.nil ?_
        refine Wp.cond false (by kernel_rfl) ?_
        refine Wp.skip ?_
        refine Wp.seq ?_
        refine Wp.region ?_
        refine Wo.pre 1 (by kernel_rfl) ?_
        refine Wo.val (.int .i64 (vX L n).length) h4 (by kernel_rfl) ((ox4.bs.len (by kernel_rfl))) ?_
        refine Wo.pre 1 (by kernel_rfl) ?_
        refine Wo.nil ?_
        refine Wp.block ?_
        refine spoil4_1 (Nat.le_trans (vX_len L n) hT.len) (vX L n).length 0 (by omega) h4 _ x (by kernel_rfl) (by kernel_rfl) (by kernel_rfl) (by kernel_rfl) hsx _ ?_
        intro ts3 k3 d0 d1 d2 d3 d4
        clear hsx d4
        have R5 : Rd k3 rb v3 (vL L n) := R4.keep (by omega) (d3 _ (by omega)) (fun a n c e => d3 _ (by
          obtain ⟨a0, n0, c0, e0, q⟩ := sb3 a n c e
          have := hv _ _ _ e0
          omega))
        have S5 : RRd k3 sb w4 (vL L n) := S4.keep (by omega) (d3 _ (by omega)) (fun a n c e => d3 _ (by
          obtain ⟨a0, n0, c0, e0, q⟩ := sb4 a n c e
          have := hw _ _ _ e0
          omega))
        refine ⟨rfl, vL L n, hT.next hR hS hv hw R5 S5 sb3 sb4 (fun b hb e1 e2 => ?_) (vL_len L n), ⟨d0, (d1 6 (by omega) (by omega)).trans (by kernel_rfl), (d1 7 (by omega) (by omega)).trans (by kernel_rfl), (d1 39 (by omega) (by omega)).trans (by kernel_rfl), (d1 40 (by omega) (by omega)).trans (by kernel_rfl), (d1 41 (by omega) (by omega)).trans (by kernel_rfl)⟩⟩
        rw [d3 b (by omega), x4.2 b (by omega) e2, x3.2 b (by omega) e1, X2.2 b hb]
      · by_cases h2 : what = 2
        · refine Wp.block ?_
          refine Wp.seq ?_
          refine Wp.region ?_
          refine Wo.pre 8 (by kernel_rfl) ?_
          refine Wo.nil ?_
          refine Wp.cond (what == 0) (by kernel_rfl) ?_
          rw [if_neg (by simp [h0])]
          refine Wp.seq ?_
          refine Wp.seq ?_
          refine Wp.region ?_
          refine Wo.pre 8 (by kernel_rfl) ?_
          refine Wo.nil ?_
          refine Wp.cond (what == 1) (by kernel_rfl) ?_
          rw [if_neg (by simp [h1])]
          refine Wp.region ?_
          refine Wo.pre 8 (by kernel_rfl) ?_
          refine Wo.nil ?_
          refine Wp.cond (what == 2) (by kernel_rfl) ?_
          rw [if_pos (by simp [h2])]
          refine Wp.seq ?_
          refine Wp.region ?_
          refine Wo.pre 8 (by kernel_rfl) ?_
          refine Wo.nil ?_
          refine Wp.seq ?_
          refine Wp.region ?_
          refine Wo.pre 8 (by kernel_rfl) ?_
          refine Wo.nil ?_
          refine Wp.seq ?_
          refine Wp.region ?_
          refine Wo.pre 8 (by kernel_rfl) ?_
          refine Wo.nil ?_
          refine Wp.seq ?_
          refine Wp.seq ?_
          refine Wp.region ?_
          refine Wo.pre 1 (by kernel_rfl) ?_
          refine Wo.val (.int .i64 what) H2 (by kernel_rfl) (iop_ld (a := ⟨h.n, 0, 0⟩) (by kernel_rfl) (Ld H2 g2).1) ?_
          refine Wo.pre 8 (by kernel_rfl) ?_
          refine Wo.nil ?_
          refine Wp.cond (what == 1) (by kernel_rfl) ?_
          rw [if_neg (by simp [h1])]
          obtain ⟨h3, x, v3, c1, R3, ox, x3, sb3⟩ := take_any hR2 n hT.len
          have S3 : RRd h3 sb w L := hS2.keep x3.1 (x3.2 _ (by omega) (by omega)) (fun a n c e => x3.2 _ (by have := hw a n c e; omega) (by have := hw a n c e; omega))
          obtain ⟨h4, y, w4, c2, S4, oy, x4, sb4⟩ := rrtake_any S3 n hT.len
          have R4 : Rd h4 rb v3 (tL L n) := R3.keep x4.1 (x4.2 _ (by have := x3.1; omega) (by omega)) (fun a n c e => by
            obtain ⟨a0, n0, c0, e0, q⟩ := sb3 a n c e
            have := hv _ _ _ e0
            exact x4.2 _ (by have := x3.1; omega) (by omega))
          have n3 := x3.1
          have n4 := x4.1
          have g3 : h3.get h.n = some (.cells 0 42 [.int .i64 what, .int .i64 n] 0 false) := by rw [x3.2 _ (by omega) (by omega)]; exact g2
          have ox4 : Ow H2.n h4 x (tX L n) := by
            rcases ox with h0 | ⟨b, g, q1, q2, q3, q4⟩
            · exact .inl h0
            · exact .inr ⟨b, g, q1, by omega, by rw [x4.2 _ q2 (by omega)]; exact q3, q4⟩
          have ceq := equal_run ox4.bs oy.bs
          rw [show (tX L n == tX L n) = true by simp] at ceq
          obtain ⟨bx, gx, hbx, hsx⟩ := ox4.spoil (Ext.refl h4) h4.n
          refine Wp.seq ?_
          refine Wp.region ?_
          refine Wo.pre 1 (by kernel_rfl) ?_
          refine Wo.pre 1 (by kernel_rfl) ?_
          refine Wo.val (.int .i64 n) H2 (by kernel_rfl) (iop_ld (a := ⟨h.n, 0, 1⟩) (by kernel_rfl) (Ld H2 g2).2) ?_
          refine Wo.call (by kernel_rfl) (by kernel_rfl) (c1) ?_
          refine Wo.pre 1 (by kernel_rfl) ?_
          refine Wo.pre 1 (by kernel_rfl) ?_
          refine Wo.pre 1 (by kernel_rfl) ?_
          refine Wo.pre 1 (by kernel_rfl) ?_
          refine Wo.pre 1 (by kernel_rfl) ?_
          refine Wo.nil ?_
          refine Wp.region ?_
          refine Wo.pre 1 (by kernel_rfl) ?_
          refine Wo.pre 1 (by kernel_rfl) ?_
          refine Wo.val (.int .i64 n) h3 (by kernel_rfl) (iop_ld (a := ⟨h.n, 0, 1⟩) (by kernel_rfl) (Ld h3 g3).2) ?_
          refine Wo.call (by kernel_rfl) (by kernel_rfl) (c2) ?_
          refine Wo.pre 1 (by kernel_rfl) ?_
          refine Wo.pre 1 (by kernel_rfl) ?_
          refine Wo.pre 1 (by kernel_rfl) ?_
          refine Wo.pre 1 (by kernel_rfl) ?_
          refine Wo.pre 1 (by kernel_rfl) ?_
          refine Wo.nil ?_
          refine Wp.seq ?_
          refine Wp.seq ?_
          refine Wp.region ?_
          refine Wo.pre 1 (by kernel_rfl) ?_
          refine Wo.pre 1 (by kernel_rfl) ?_
          refine Wo.call (by kernel_rfl) (by kernel_rfl) (ceq) ?_
          refine Wo.pre 1 (by kernel_rfl) ?_
          refine Wo.pre 1 (by kernel_rfl) ?_
          refine Wo.pre 1 (by kernel_rfl) ?_
          refine Wo.pre 1 (by kernel_rfl) ?_
          refine Wo.val (.bool false) h4 (by kernel_rfl) (iop_neB (k := .i64) (a := readyE L n) (b := readyE L n) false (by kernel_rfl) (by kernel_rfl) (by simp)) ?_
          refine Wo.pre 1 (by kernel_rfl) ?_
          refine Wo.nil ?_
          refine Wp.cond false (by kernel_rfl) ?_
          refine Wp.skip ?_
          refine Wp.seq ?_
          refine Wp.region ?_
          refine Wo.pre 1 (by kernel_rfl) ?_
          refine Wo.val (.int .i64 (tX L n).length) h4 (by kernel_rfl) ((ox4.bs.len (by kernel_rfl))) ?_
          refine Wo.pre 1 (by kernel_rfl) ?_
          refine Wo.nil ?_
          refine Wp.block ?_
          refine spoil4_1 (Nat.le_trans (tX_len L n) hT.len) (tX L n).length 0 (by omega) h4 _ x (by kernel_rfl) (by kernel_rfl) (by kernel_rfl) (by kernel_rfl) hsx _ ?_
          intro ts3 k3 d0 d1 d2 d3 d4
          clear hsx d4
          have R5 : Rd k3 rb v3 (tL L n) := R4.keep (by omega) (d3 _ (by omega)) (fun a n c e => d3 _ (by
            obtain ⟨a0, n0, c0, e0, q⟩ := sb3 a n c e
            have := hv _ _ _ e0
            omega))
          have S5 : RRd k3 sb w4 (tL L n) := S4.keep (by omega) (d3 _ (by omega)) (fun a n c e => d3 _ (by
            obtain ⟨a0, n0, c0, e0, q⟩ := sb4 a n c e
            have := hw _ _ _ e0
            omega))
          refine ⟨rfl, tL L n, hT.next hR hS hv hw R5 S5 sb3 sb4 (fun b hb e1 e2 => ?_) (tL_len L n), ⟨d0, (d1 6 (by omega) (by omega)).trans (by kernel_rfl), (d1 7 (by omega) (by omega)).trans (by kernel_rfl), (d1 39 (by omega) (by omega)).trans (by kernel_rfl), (d1 40 (by omega) (by omega)).trans (by kernel_rfl), (d1 41 (by omega) (by omega)).trans (by kernel_rfl)⟩⟩
          rw [d3 b (by omega), x4.2 b (by omega) e2, x3.2 b (by omega) e1, X2.2 b hb]
        · refine Wp.block ?_
          refine Wp.seq ?_
          refine Wp.region ?_
          refine Wo.pre 8 (by kernel_rfl) ?_
          refine Wo.nil ?_
          refine Wp.cond (what == 0) (by kernel_rfl) ?_
          rw [if_neg (by simp [h0])]
          refine Wp.seq ?_
          refine Wp.seq ?_
          refine Wp.region ?_
          refine Wo.pre 8 (by kernel_rfl) ?_
          refine Wo.nil ?_
          refine Wp.cond (what == 1) (by kernel_rfl) ?_
          rw [if_neg (by simp [h1])]
          refine Wp.region ?_
          refine Wo.pre 8 (by kernel_rfl) ?_
          refine Wo.nil ?_
          refine Wp.cond (what == 2) (by kernel_rfl) ?_
          rw [if_neg (by simp [h2])]
          refine Wp.skip ?_
          exact ⟨rfl, L, hT.next hR hS hv hw hR2 hS2 (SB.refl _) (SB.refl _) (fun b hb _ _ => X2.2 b hb) (Nat.le_refl _), ⟨(by kernel_rfl), (by kernel_rfl), (by kernel_rfl), (by kernel_rfl), (by kernel_rfl), (by kernel_rfl)⟩⟩
end Go.Det

/- The law WireReads, from its head. -/
set_option linter.unusedVariables false
set_option linter.unusedSimpArgs false
set_option linter.unusedSectionVars false
namespace Go.Det
open Go.Proofs
attribute [local irreducible] Wp Wo Wd iop ev slots quiets wanted put

theorem iop_lenS {x : IX} {ρ : IX → AV} {h : H} {v : AV} {n : Nat} (hx : ρ x = v) (hv : (v = .nils ∧ n = 0) ∨ ∃ a c, v = .sl a n c) : iop (.len false x) ρ h = some (.val (.int .i64 n) h) := by
  rcases hv with ⟨rfl, rfl⟩ | ⟨a, c, rfl⟩ <;> simp [iop, hx]

set_option maxHeartbeats 1000000 in
theorem reads_run {h : H} {xb xl : AV} {lb : List UInt8} {acts : List (Int × Int)} (hb : Bs h xb lb) (hl : lb.length ≤ maxRow) (hk : KSl (KPair (KInt .i64) (KInt .i64)) 2 h acts [xl]) (hmx : acts.length < 2 ^ 62) :
    ∃ r h', Runs TF 4 [xb, xl] h r h' ∧ r = .bool true := by
  have hel := hk.elem (by
    rintro x c ⟨y, z, rfl, h1, h2⟩
    cases h1; cases h2; rfl)
  obtain ⟨ab, cc, hxl, hact⟩ : ∃ (ab : AA) (cc : Cp), ((xl = .nils ∧ acts = []) ∨ xl = .sl ab acts.length cc) ∧ ((acts = [] ∨ ab.b < h.n) ∧ ∀ (j : Nat) (x : Int × Int), acts[j]? = some x → h.ldn ⟨ab.b, ab.g, ab.o + j * 2⟩ 2 = some [.int .i64 x.1, .int .i64 x.2]) := by
    rcases hel with ⟨rfl, rfl⟩ | ⟨a, c, rfl, _, h2, h3⟩
    · exact ⟨⟨0, 0, 0⟩, .ex 0, .inl ⟨rfl, rfl⟩, .inl rfl, fun j x hj => by simp at hj⟩
    · refine ⟨a, .ex c, .inr rfl, .inr h2, fun j x hj => ?_⟩
      obtain ⟨c', ⟨y, z, rfl, q1, q2⟩, q3⟩ := h3 j x hj
      cases q1; cases q2
      exact q3
  obtain ⟨ow, H1, ea, oa, X1⟩ := copy_new hb hl
  obtain ⟨p, H2, c1, rb, u, rfl, hrb, R2, X2, ou, hu⟩ := new_run oa.bs hl
  obtain ⟨H3, sb, w, c2, hsb, S3, X3, hw⟩ := rrnew_run ((hb.ext X1).ext X2) hl
  have R3 := R2.ext X3
  have n1 := X1.1
  have n2 := X2.1
  have n3 := X3.1
  have hrb2 := R2.1
  have hlen : (xl = .nils ∧ acts.length = 0) ∨ ∃ a c, xl = .sl a acts.length c := by
    rcases hxl with ⟨e, e2⟩ | e
    · exact .inl ⟨e, by rw [e2]; rfl⟩
    · exact .inr ⟨_, _, e⟩
  obtain ⟨bo, go, hbo, hso⟩ := oa.spoil (X2.trans X3) H3.n
  refine Runs.ofP f4 rfl ?_
  refine Wp.seq ?_
  refine Wp.region ?_
  refine Wo.pre 8 (by kernel_rfl) ?_
  refine Wo.nil ?_
  refine Wp.seq ?_
  refine Wp.region ?_
  refine Wo.val (.sl ⟨h.n, 0, 0⟩ 0 (.ex 0)) (h.new (.cells 0 5 [] 0 false)) (by kernel_rfl) (((by kernel_rfl))) ?_
  refine Wo.pre 1 (by kernel_rfl) ?_
  refine Wo.val ow H1 (by kernel_rfl) (iop_app (v := .sl ⟨h.n, 0, 0⟩ 0 (.ex 0)) (w := xb) (by kernel_rfl) (by kernel_rfl) hb.parts.2.2 ea) ?_
  refine Wo.pre 8 (by kernel_rfl) ?_
  refine Wo.nil ?_
  refine Wp.seq ?_
  refine Wp.region ?_
  refine Wo.pre 1 (by kernel_rfl) ?_
  refine Wo.call (by kernel_rfl) (by kernel_rfl) (c1) ?_
  refine Wo.pre 1 (by kernel_rfl) ?_
  refine Wo.call (by kernel_rfl) (by kernel_rfl) (c2) ?_
  refine Wo.pre 8 (by kernel_rfl) ?_
  refine Wo.nil ?_
  refine Wp.seq ?_
  refine Wp.seq ?_
  refine Wp.region ?_
  refine Wo.pre 1 (by kernel_rfl) ?_
  refine Wo.val (.int .i64 lb.length) H3 (by kernel_rfl) ((((oa.ext X2).ext X3).bs.len (by kernel_rfl))) ?_
  refine Wo.pre 8 (by kernel_rfl) ?_
  refine Wo.nil ?_
  refine Wp.block ?_
  refine spoil4_3 hl lb.length 0 (by omega) H3 _ ow (by kernel_rfl) (by kernel_rfl) (by kernel_rfl) (by kernel_rfl) hso _ ?_
  intro ts1 K1 g0 g1 g2 g3 g4
  clear hso g4
  rw [laid_of g0 8 (fun j hj => g1 j (by omega) (by omega)) [(0, xb), (1, xl), (5, ow), (6, .ptr ⟨rb, 0, 0⟩), (7, .ptr ⟨sb, 0, 0⟩)] (by kernel_rfl) (by kernel_rfl)]
  have kp : ∀ b, b < H3.n → (H1.n ≤ b ∨ b < h.n) → K1.get b = H3.get b := fun b hb hn => g3 b (by omega)
  have R4 : Rd K1 rb u lb := R3.keep (by omega) (kp rb (by omega) (by omega)) (fun a n c e => kp _ (by have := hu a n c e; omega) (by have := hu a n c e; omega))
  have S4 : RRd K1 sb w lb := S3.keep (by omega) (kp sb S3.1 (by omega)) (fun a n c e => kp _ (by have := hw a n c e; have := S3.1; omega) (by have := hw a n c e; omega))
  have hT : Two h.n rb sb acts ab K1 lb := by
    refine ⟨⟨u, w, R4, S4, fun a n c e => (hu a n c e).2, fun a n c e => ⟨by have := hw a n c e; omega, (hw a n c e).2⟩⟩, by omega, by omega, hl, fun j x hj => ?_, fun hne => hact.1.resolve_left hne⟩
    have hne : acts ≠ [] := by intro e; rw [e] at hj; simp at hj
    have hab := hact.1.resolve_left hne
    have e1 : K1.get (AA.b ⟨ab.b, ab.g, ab.o + j * 2⟩) = h.get (AA.b ⟨ab.b, ab.g, ab.o + j * 2⟩) := by
      show K1.get ab.b = h.get ab.b
      rw [kp ab.b (by omega) (.inr hab), X3.2 _ (by omega), X2.2 _ (by omega), X1.2 _ hab]
    rw [ldn_same e1]
    exact hact.2 j x hj
  refine Wp.seq ?_
  refine Wp.seq ?_
  refine Wp.region ?_
  refine Wo.pre 1 (by kernel_rfl) ?_
  refine Wo.val (.int .i64 acts.length) K1 (by kernel_rfl) (iop_lenS (v := xl) (by kernel_rfl) hlen) ?_
  refine Wo.pre 8 (by kernel_rfl) ?_
  refine Wo.nil ?_
  refine Wp.block ?_
  refine reads_loop (cc := cc) hmx acts.length 0 (by omega) K1 lb _ xl (fun hne => ?_) hT ⟨(by kernel_rfl), (by kernel_rfl), (by kernel_rfl), (by kernel_rfl), (by kernel_rfl), (by kernel_rfl)⟩ _ ?_
  · rcases hxl with ⟨_, e⟩ | e
    · exact absurd e hne
    · exact e
  intro ts2 K2 d0
  rw [laid_eq d0 [] (by simp)]
  refine Wp.seq ?_
  refine Wp.region ?_
  refine Wo.call (by kernel_rfl) (by kernel_rfl) (awake24_run K2) ?_
  refine Wo.pre 8 (by kernel_rfl) ?_
  refine Wo.nil ?_
  exact Wp.ret ⟨.inr rfl, .bool true, (by kernel_rfl), rfl⟩
end Go.Det

/- The law WireBack: things, their sizes, how they are laid down and read. -/
set_option linter.unusedVariables false
set_option linter.unusedSimpArgs false
set_option linter.unusedSectionVars false
namespace Go.Det
open Go.Proofs
attribute [local irreducible] Wp Wo Wd iop ev slots quiets wanted put

/-- A row of cells of its own. -/
def OwC (e sz lo : Nat) (h : H) (v : AV) (cs : List AV) (n : Nat) : Prop := (v = .nils ∧ cs = [] ∧ n = 0) ∨ ∃ b g, lo ≤ b ∧ b < h.n ∧ h.get b = some (.cells g e cs 0 false) ∧ v = .sl ⟨b, g, 0⟩ n (.op sz) ∧ cs.length = n * sz

theorem OwC.ext {e sz lo n : Nat} {h h' : H} {v : AV} {cs : List AV} (ho : OwC e sz lo h v cs n) (hn : h.n ≤ h'.n) (hk : ∀ b g c, lo ≤ b → b < h.n → h.get b = some (.cells g e c 0 false) → h'.get b = h.get b) : OwC e sz lo h' v cs n := by
  rcases ho with h0 | ⟨b, g, h1, h2, h3, h4⟩
  · exact .inl h0
  · exact .inr ⟨b, g, h1, Nat.lt_of_lt_of_le h2 hn, by rw [hk b _ _ h1 h2 h3]; exact h3, h4⟩

theorem Ow.keep {lo : Nat} {h h' : H} {v : AV} {l : List UInt8} (ho : Ow lo h v l) (hn : h.n ≤ h'.n) (hk : ∀ b g c, lo ≤ b → b < h.n → h.get b = some (.cells g 5 c 0 false) → h'.get b = h.get b) : Ow lo h' v l := by
  rcases ho with h0 | ⟨b, g, h1, h2, h3, h4⟩
  · exact .inl h0
  · exact .inr ⟨b, g, h1, Nat.lt_of_lt_of_le h2 hn, by rw [hk b _ _ h1 h2 h3]; exact h3, h4⟩

theorem iop_appG {x y : IX} {ρ : IX → AV} {h h' : H} {v w z : AV} {e sz by_ : Nat} (hx : ρ x = v) (hy : ρ y = w) (hs : isStrV w = false) (ha : append h e sz by_ v w = some (.val z h')) : iop (.app e sz by_ false x y) ρ h = some (.val z h') := by
  simp only [iop, hx, hy, hs, BEq.rfl, if_true, ha]

/-- One more element behind. -/
theorem OwC.app {e sz lo n bytes : Nat} {h : H} {v : AV} {cs new : List AV} (ho : OwC e (sz + 1) lo h v cs n) (hlo : lo ≤ h.n) (hs : new.length = sz + 1) (h1 : new.all AV.one = true) (hf : fits (n + 1) bytes = true) (hb : n < 2 ^ 62) (H1 : H) (hH1 : H1 = h.new (.cells 0 e new 0 false)) :
    ∃ v' h', append H1 e (sz + 1) bytes v (.sl ⟨h.n, 0, 0⟩ 1 (.ex 1)) = some (.val v' h') ∧ OwC e (sz + 1) lo h' v' (cs ++ new) (n + 1) ∧ h.n ≤ h'.n ∧ ∀ b, b < h.n → (b < lo ∨ ∀ g c, h.get b ≠ some (.cells g e c 0 false)) → h'.get b = h.get b := by
  have g1 : H1.get h.n = some (.cells 0 e new 0 false) := by rw [hH1]; exact h.get_new _
  have n1 : H1.n = h.n + 1 := by rw [hH1]; rfl
  have hne : ∀ b, b ≠ h.n → H1.get b = h.get b := fun b hb => by rw [hH1]; exact h.get_new_ne b _ hb
  have hld : H1.ldn ⟨h.n, 0, 0⟩ (1 * (sz + 1)) = some new := by
    unfold H.ldn H.row
    simp only [g1, BEq.rfl, Bool.not_false, Bool.true_or, Bool.and_self, if_true, Nat.one_mul]
    rw [← hs]
    exact cut_all _
  unfold append
  simp only [srcCells, hld, Option.map_some]
  rcases ho with ⟨rfl, rfl, rfl⟩ | ⟨b, g, q1, q2, q3, rfl, q5⟩
  · rw [Nat.zero_add] at hf
    refine ⟨.sl ⟨H1.n, 0, 0⟩ 1 (.op (sz + 1)), H1.new (.cells 0 e new 0 false), ?_, .inr ⟨H1.n, 0, by omega, by show _ < H1.n + 1; omega, by rw [H1.get_new]; rfl, rfl, by simp [hs]⟩, by show h.n ≤ H1.n + 1; omega, fun b hb _ => ?_⟩
    · simp [hf, h1]
    · rw [H1.get_new_ne b _ (by omega), hne b (by omega)]
  · have hbn : b ≠ h.n := by omega
    have q3' : H1.get b = some (.cells g e cs 0 false) := by rw [hne b hbn]; exact q3
    refine ⟨.sl ⟨b, g + 1, 0⟩ (n + 1) (.op (sz + 1)), H1.set b (.cells (g + 1) e (cs ++ new) 0 false), ?_, .inr ⟨b, g + 1, q1, by show b < H1.n; omega, H1.get_set b _, rfl, by rw [List.length_append, q5, hs, Nat.succ_mul]⟩, by show h.n ≤ H1.n; omega, fun b' hb' hne' => ?_⟩
    · have hle : n + 1 ≤ 9223372036854775807 := by omega
      simp [hf, h1, q3', q5, hle]
    · have : b' ≠ b := by
        rintro rfl
        rcases hne' with h0 | h0
        · omega
        · exact h0 _ _ q3
      rw [H1.get_set_ne b b' _ this, hne b' (by omega)]

/-- A thing: whether a vector, how great, its number, its bytes. -/
structure Th where
  vec : Bool
  size : Int
  n : Nat
  b : List UInt8

def szOf (vec : Bool) (size : Int) : Nat := if vec then 1 + (IntKind.u64.wrap size).toNat % 3 else match (IntKind.u64.wrap size).toNat % 5 with
  | 0 => 1
  | 1 => 2
  | 2 => 3
  | 3 => 4
  | _ => 8
def Th.sz (t : Th) : Nat := szOf t.vec t.size

theorem szOf_ok (vec : Bool) (size : Int) : (1 ≤ szOf vec size ∧ szOf vec size ≤ 4 ∨ szOf vec size = 8) ∧ (vec = true → szOf vec size ≤ 3) := by
  unfold szOf
  cases vec
  · refine ⟨?_, fun h => by cases h⟩
    simp only [Bool.false_eq_true, if_false]
    split <;> simp
  · refine ⟨.inl ?_, fun _ => ?_⟩ <;> simp only [if_true] <;> omega

theorem u64_tmod (size : Int) (k : Nat) : (IntKind.u64.wrap size).tmod (k + 1 : Nat) = (((IntKind.u64.wrap size).toNat % (k + 1) : Nat) : Int) ∧ 0 ≤ IntKind.u64.wrap size := by
  have h0 : 0 ≤ IntKind.u64.wrap size := by
    have : IntKind.u64.wrap size = size % 18446744073709551616 := by simp [IntKind.wrap, IntKind.bits, IntKind.signed]
    rw [this]; omega
  obtain ⟨m, hm⟩ : ∃ m : Nat, IntKind.u64.wrap size = m := ⟨(IntKind.u64.wrap size).toNat, by omega⟩
  rw [hm, Int.toNat_natCast]
  exact ⟨by rw [Int.natCast_emod]; exact Int.tmod_eq_emod_of_nonneg (by omega), by omega⟩

theorem size_run {h : H} {x : AV} (hx1 : x.one = true) (vec : Bool) (size : Int) (n : Int) : ∃ h', Runs TF 34 [.agg [.bool vec, .int .i64 size, .int .u64 n, x]] h (.int .i64 (szOf vec size)) h' ∧ Ext h h' := by
  have hall : ([.bool vec, .int .i64 size, .int .u64 n, x] : List AV).all AV.one = true := by
    have o3 : ∀ k i, (AV.int k i).one = true := fun _ _ => rfl
    have o4 : ∀ b, (AV.bool b).one = true := fun _ => rfl
    simp [hx1, o3, o4]
  obtain ⟨H1, hH1⟩ : ∃ H1, H1 = h.new (.cells 0 57 [.bool vec, .int .i64 size, .int .u64 n, x] 0 false) := ⟨_, rfl⟩
  have E1 : Ext h H1 := by rw [hH1]; exact Ext.new h _
  have enew : ∀ {y : IX} {ρ : IX → AV}, ρ y = .agg [.bool vec, .int .i64 size, .int .u64 n, x] → iop (.new 57 y) ρ h = some (.val (.ptr ⟨h.n, 0, 0⟩) H1) := fun hy => by rw [hH1]; exact iop_new hy hall
  have hg1 : H1.get h.n = some (.cells 0 57 [.bool vec, .int .i64 size, .int .u64 n, x] 0 false) := by rw [hH1]; exact h.get_new _
  have L0 : H1.ldg ⟨h.n, 0, 0⟩ none = some (.bool vec) := by simp [H.ldg, H.ld, H.row, hg1, getL]
  cases vec with
  | true =>
    have L1 : H1.ldg ⟨h.n, 0, 1⟩ none = some (.int .i64 size) := by simp [H.ldg, H.ld, H.row, hg1, getL]
    refine ⟨H1, Runs.of' f34 rfl ?_, E1⟩
    refine Wp.seq ?_
    refine Wp.region ?_
    refine Wo.val _ _ (by kernel_rfl) (enew (by kernel_rfl)) ?_
    refine Wo.pre 8 (by kernel_rfl) ?_
    refine Wo.nil ?_
    refine Wp.seq ?_
    refine Wp.seq ?_
    refine Wp.region ?_
    refine Wo.pre 1 (by kernel_rfl) ?_
    refine Wo.val (.bool true) H1 (by kernel_rfl) (iop_ld (a := ⟨h.n, 0, 0⟩) (by kernel_rfl) L0) ?_
    refine Wo.nil ?_
    refine Wp.cond true (by kernel_rfl) ?_
    refine Wp.seq ?_
    refine Wp.region ?_
    refine Wo.pre 1 (by kernel_rfl) ?_
    refine Wo.val (.int .i64 size) H1 (by kernel_rfl) (iop_ld (a := ⟨h.n, 0, 1⟩) (by kernel_rfl) L1) ?_
    refine Wo.pre 8 (by kernel_rfl) ?_
    refine Wo.nil ?_
    have e := (u64_tmod size 2).1
    have e2 : AV.int .i64 (szOf true size) = AV.int .i64 (IntKind.i64.wrap (1 + IntKind.i64.wrap ((IntKind.u64.wrap size).tmod 3))) := by
      have e' : (IntKind.u64.wrap size).tmod 3 = (((IntKind.u64.wrap size).toNat % 3 : Nat) : Int) := e
      rw [e', i64_fit (((IntKind.u64.wrap size).toNat % 3 : Nat) : Int) (by omega), i64_fit _ (by omega)]
      congr 1
    exact Wp.ret ⟨.inr rfl, rfl, by rw [e2]; kernel_rfl⟩
  | false =>
    obtain ⟨H2, hH2⟩ : ∃ H2, H2 = H1.new (.cells 0 3 [.int .i64 1, .int .i64 2, .int .i64 3, .int .i64 4, .int .i64 8] 0 false) := ⟨_, rfl⟩
    have E2 : Ext H1 H2 := by rw [hH2]; exact Ext.new _ _
    have hg2 : H2.get h.n = some (.cells 0 57 [.bool false, .int .i64 size, .int .u64 n, x] 0 false) := by rw [E2.2 _ (by rw [hH1]; show h.n < h.n + 1; omega)]; exact hg1
    have L1 : H2.ldg ⟨h.n, 0, 1⟩ none = some (.int .i64 size) := by simp [H.ldg, H.ld, H.row, hg2, getL]
    have e5 : ∀ ts, iop (.bsl 3 [.int .i64 0, .int .i64 0, .int .i64 0, .int .i64 0, .int .i64 0] 5 [(0, 1, .c (.int .i64 1)), (1, 1, .c (.int .i64 2)), (2, 1, .c (.int .i64 3)), (3, 1, .c (.int .i64 4)), (4, 1, .c (.int .i64 8))]) (ev ts) H1 = some (.val (.sl ⟨H1.n, 0, 0⟩ 5 (.ex 5)) H2) := fun ts => by rw [hH2]; kernel_rfl
    have hg3 : H2.get H1.n = some (.cells 0 3 [.int .i64 1, .int .i64 2, .int .i64 3, .int .i64 4, .int .i64 8] 0 false) := by rw [hH2]; exact H1.get_new _
    obtain ⟨m, hm⟩ : ∃ m, m = (IntKind.u64.wrap size).toNat % 5 := ⟨_, rfl⟩
    have hm5 : m < 5 := by omega
    have e : AV.int .i64 (IntKind.i64.wrap ((IntKind.u64.wrap size).tmod 5)) = .int .i64 (m : Nat) := by
      have e' : (IntKind.u64.wrap size).tmod 5 = (((IntKind.u64.wrap size).toNat % 5 : Nat) : Int) := (u64_tmod size 4).1
      rw [e', ← hm, i64_fit _ (by omega)]
    have Lm : H2.ldg ⟨H1.n, 0, 0 + m * 1⟩ none = some (.int .i64 (szOf false size)) := by
      have hm' : m = 0 ∨ m = 1 ∨ m = 2 ∨ m = 3 ∨ m = 4 := by omega
      unfold szOf
      rw [← hm]
      rcases hm' with rfl | rfl | rfl | rfl | rfl <;> simp [H.ldg, H.ld, H.row, hg3, getL]
    refine ⟨H2, Runs.of' f34 rfl ?_, E1.trans E2⟩
    refine Wp.seq ?_
    refine Wp.region ?_
    refine Wo.val _ _ (by kernel_rfl) (enew (by kernel_rfl)) ?_
    refine Wo.pre 8 (by kernel_rfl) ?_
    refine Wo.nil ?_
    refine Wp.seq ?_
    refine Wp.seq ?_
    refine Wp.region ?_
    refine Wo.pre 1 (by kernel_rfl) ?_
    refine Wo.val (.bool false) H1 (by kernel_rfl) (iop_ld (a := ⟨h.n, 0, 0⟩) (by kernel_rfl) L0) ?_
    refine Wo.nil ?_
    refine Wp.cond false (by kernel_rfl) ?_
    refine Wp.skip ?_
    refine Wp.seq ?_
    refine Wp.region ?_
    refine Wo.val _ _ (by kernel_rfl) (e5 _) ?_
    refine Wo.pre 1 (by kernel_rfl) ?_
    refine Wo.val (.int .i64 size) H2 (by kernel_rfl) (iop_ld (a := ⟨h.n, 0, 1⟩) (by kernel_rfl) L1) ?_
    refine Wo.pre 3 (by kernel_rfl) ?_
    refine Wo.val _ H2 (by kernel_rfl) (iop_ia (a := ⟨H1.n, 0, 0⟩) (n := 5) (c := .ex 5) (i := m) (by kernel_rfl) (by rw [← e]; kernel_rfl) hm5) ?_
    refine Wo.val (.int .i64 (szOf false size)) H2 (by kernel_rfl) (iop_ld (a := ⟨H1.n, 0, 0 + m * 1⟩) (by kernel_rfl) Lm) ?_
    refine Wo.pre 8 (by kernel_rfl) ?_
    refine Wo.nil ?_
    exact Wp.ret ⟨.inr rfl, rfl, (by kernel_rfl)⟩
def Th.enc (t : Th) : List UInt8 := if t.vec = true then digits t.b.length t.sz t.sz ++ t.b else digits t.n t.sz t.sz
def Th.encE (t : Th) : Int := if t.vec = true then numE t.b.length t.sz else numE t.n t.sz

theorem be_dig {n s : Nat} (hn : n < 256 ^ s) : ∀ k, k ≤ s → be (digits n s k) = n / 256 ^ (s - k) := by
  intro k
  induction k with
  | zero => intro _; rw [Nat.sub_zero, Nat.div_eq_of_lt hn]; rfl
  | succ k ih =>
    intro hk
    rw [digits_succ, be_snoc, ih (by omega), dig_eq, UInt8.toNat_ofNat']
    have e1 : s - k = (s - 1 - k) + 1 := by omega
    have e2 : s - (k + 1) = s - 1 - k := by omega
    rw [e1, e2, Nat.pow_succ, ← Nat.div_div_eq_div_mul]
    omega
theorem be_dig' {n s : Nat} (hn : n < 256 ^ s) : be (digits n s s) = n := by
  rw [be_dig hn s (Nat.le_refl _)]; simp

theorem numE_fits {n s : Nat} (hs : 1 ≤ s ∧ s ≤ 4 ∨ s = 8) (he : numE n s = 0) : n < 256 ^ s := by
  have h1 : (1 ≤ (s : Int) ∧ (s : Int) ≤ 4 ∨ (s : Int) = 8) := by omega
  simp only [numE, h1, not_true, if_false, Int.toNat_natCast] at he
  split at he
  · cases he
  · rename_i h2
    rw [Nat.pow_mul] at h2
    exact Nat.lt_of_not_le h2
theorem numE_03 {n s : Nat} (hs : 1 ≤ s ∧ s ≤ 4 ∨ s = 8) : numE n s = 0 ∨ numE n s = 3 := by
  have h1 : (1 ≤ (s : Int) ∧ (s : Int) ≤ 4 ∨ (s : Int) = 8) := by omega
  simp only [numE, h1, not_true, if_false]
  split
  · exact .inr rfl
  · exact .inl rfl
theorem Th.encE_03 (t : Th) : t.encE = 0 ∨ t.encE = 3 := by
  unfold Th.encE
  split <;> exact numE_03 (szOf_ok _ _).1

theorem enc_len (t : Th) : t.enc.length = if t.vec = true then t.sz + t.b.length else t.sz := by
  unfold Th.enc
  split <;> simp [digits_len]

theorem dec_vec {t : Th} (hv : t.vec = true) (he : t.encE = 0) (m : List UInt8) : vE (t.enc ++ m) t.sz = 0 ∧ vX (t.enc ++ m) t.sz = t.b ∧ vL (t.enc ++ m) t.sz = m := by
  have hs := (szOf_ok t.vec t.size)
  have hs3 : 1 ≤ t.sz ∧ t.sz ≤ 3 := by have := hs.2 hv; have := hs.1; unfold Th.sz; omega
  have he' : numE t.b.length t.sz = 0 := by unfold Th.encE at he; rw [if_pos hv] at he; exact he
  have hn := numE_fits (by omega) he'
  have hbe := be_dig' hn
  have ee : t.enc = digits t.b.length t.sz t.sz ++ t.b := by unfold Th.enc; rw [if_pos hv]
  have htk : (t.enc ++ m).take t.sz = digits t.b.length t.sz t.sz := by rw [ee, List.append_assoc, List.take_left' (digits_len _ _ _)]
  have hdr : (t.enc ++ m).drop t.sz = t.b ++ m := by rw [ee, List.append_assoc, List.drop_left' (digits_len _ _ _)]
  have hlen : (t.enc ++ m).length = t.sz + t.b.length + m.length := by rw [ee]; simp [digits_len, Nat.add_assoc]
  have c1 : 1 ≤ (t.sz : Int) ∧ (t.sz : Int) ≤ 3 := by omega
  have c2 : ¬ (((t.enc ++ m).length : Nat) : Int) < (t.sz : Int) := by omega
  have c3 : ¬ (t.enc ++ m).length < t.sz + be ((t.enc ++ m).take t.sz) := by rw [htk, hbe]; omega
  have e0 : vE (t.enc ++ m) t.sz = 0 := by simp only [vE, c1, and_self, not_true, c2, if_false, Int.toNat_natCast, c3]
  refine ⟨e0, ?_, ?_⟩
  · rw [vX, if_pos e0, Int.toNat_natCast, htk, hbe, hdr, List.take_left]
  · rw [vL, if_pos e0, vN, Int.toNat_natCast, htk, hbe, ← List.drop_drop, hdr, List.drop_left]

theorem dec_num {t : Th} (hv : ¬ t.vec = true) (he : t.encE = 0) (m : List UInt8) : rdE (t.enc ++ m) t.sz = 0 ∧ rdV (t.enc ++ m) t.sz = t.n ∧ rdL (t.enc ++ m) t.sz = m := by
  have hs := (szOf_ok t.vec t.size).1
  have he' : numE t.n t.sz = 0 := by unfold Th.encE at he; rw [if_neg hv] at he; exact he
  have hn : t.n < 256 ^ t.sz := numE_fits hs he'
  have hbe := be_dig' hn
  have ee : t.enc = digits t.n t.sz t.sz := by unfold Th.enc; rw [if_neg hv]
  have htk : (t.enc ++ m).take t.sz = digits t.n t.sz t.sz := by rw [ee, List.take_left' (digits_len _ _ _)]
  have hdr : (t.enc ++ m).drop t.sz = m := by rw [ee, List.drop_left' (digits_len _ _ _)]
  have hlen : (t.enc ++ m).length = t.sz + m.length := by rw [ee]; simp [digits_len]
  have hs' : (1 ≤ (t.sz : Int) ∧ (t.sz : Int) ≤ 4 ∨ (t.sz : Int) = 8) := by unfold Th.sz; omega
  have c2 : ¬ (((t.enc ++ m).length : Nat) : Int) < (t.sz : Int) := by omega
  have e0 : rdE (t.enc ++ m) t.sz = 0 := by simp only [rdE, hs', not_true, c2, if_false]
  refine ⟨e0, ?_, ?_⟩
  · rw [rdV, if_pos e0, Int.toNat_natCast, htk, hbe]
  · rw [rdL, if_pos e0, Int.toNat_natCast, hdr]

theorem short_vec {t : Th} (hv : t.vec = true) (he : t.encE = 0) {m l : List UInt8} {k : Nat} (hl : l = (t.enc ++ m).take k) (hk : k < t.enc.length) : vE l t.sz = 4 := by
  have hs := (szOf_ok t.vec t.size)
  have hs3 : 1 ≤ t.sz ∧ t.sz ≤ 3 := by have := hs.2 hv; have := hs.1; unfold Th.sz; omega
  have he' : numE t.b.length t.sz = 0 := by unfold Th.encE at he; rw [if_pos hv] at he; exact he
  have hbe := be_dig' (numE_fits (by omega) he')
  have ee : t.enc = digits t.b.length t.sz t.sz ++ t.b := by unfold Th.enc; rw [if_pos hv]
  have hll : l.length = k := by rw [hl, List.length_take, List.length_append]; omega
  have hel : t.enc.length = t.sz + t.b.length := by rw [ee]; simp [digits_len]
  have c1 : 1 ≤ (t.sz : Int) ∧ (t.sz : Int) ≤ 3 := by omega
  by_cases c2 : (l.length : Int) < (t.sz : Int)
  · simp only [vE, c1, and_self, not_true, c2, if_false, if_true]
  · have htk : l.take t.sz = digits t.b.length t.sz t.sz := by
      rw [hl, List.take_take, Nat.min_eq_left (by omega), ee, List.append_assoc, List.take_left' (digits_len _ _ _)]
    have c3 : l.length < t.sz + be (l.take t.sz) := by rw [htk, hbe]; omega
    simp only [vE, c1, and_self, not_true, c2, if_false, Int.toNat_natCast, c3, if_true]

theorem short_num {t : Th} (hv : ¬ t.vec = true) {l : List UInt8} (hk : l.length < t.enc.length) : rdE l t.sz = 4 := by
  have hs := (szOf_ok t.vec t.size).1
  have hel : t.enc.length = t.sz := by rw [enc_len, if_neg hv]
  have hs' : (1 ≤ (t.sz : Int) ∧ (t.sz : Int) ≤ 4 ∨ (t.sz : Int) = 8) := by unfold Th.sz; omega
  have c2 : (l.length : Int) < (t.sz : Int) := by omega
  simp only [rdE, hs', not_true, c2, if_false, if_true]

/-! What is kept. -/
def encs (ks : List (Th × AV)) : List UInt8 := (ks.map fun p => p.1.enc).flatten
def thC (p : Th × AV) : List AV := [.bool p.1.vec, .int .i64 p.1.size, .int .u64 p.1.n, p.2]
def kcells (ks : List (Th × AV)) : List AV := (ks.map thC).flatten
def ecells (ks : List (Th × AV)) : List AV := (List.range ks.length).map fun j => .int .i64 (encs (ks.take (j + 1))).length
theorem encs_snoc (ks : List (Th × AV)) (p : Th × AV) : encs (ks ++ [p]) = encs ks ++ p.1.enc := by simp [encs]
theorem kcells_snoc (ks : List (Th × AV)) (p : Th × AV) : kcells (ks ++ [p]) = kcells ks ++ thC p := by simp [kcells]
theorem ecells_snoc (ks : List (Th × AV)) (p : Th × AV) : ecells (ks ++ [p]) = ecells ks ++ [.int .i64 (encs (ks ++ [p])).length] := by
  unfold ecells
  rw [List.length_append, List.length_cons, List.length_nil, Nat.zero_add, List.range_succ, List.map_append]
  congr 1
  · apply List.map_congr_left
    intro j hj
    rw [List.take_append_of_le_length (by have := List.mem_range.1 hj; omega)]
  · have : ks.length + 1 = (ks ++ [p]).length := by simp
    simp only [List.map_cons, List.map_nil]
    rw [this, List.take_length]

structure J1 (h0 h : H) (al ke en : AV) (ks : List (Th × AV)) : Prop where
  ext : Ext h0 h
  al : Ow h0.n h al (encs ks)
  ke : OwC 57 4 h0.n h ke (kcells ks) ks.length
  en : OwC 3 1 h0.n h en (ecells ks) ks.length
  ok : ∀ p ∈ ks, Bs h0 p.2 p.1.b ∧ p.1.b.length ≤ 300 ∧ p.1.n < 2 ^ 64 ∧ p.1.encE = 0
  len : (encs ks).length ≤ 311 * ks.length
end Go.Det

/- Entries: whether they may be. -/
set_option linter.unusedVariables false
set_option linter.unusedSimpArgs false
set_option linter.unusedSectionVars false
namespace Go.Det
open Go.Proofs
attribute [local irreducible] Wp Wo Wd iop ev slots quiets wanted put

theorem iop_cmp {op : BinOp} {x y : IX} {ρ : IX → AV} {h : H} {k : IntKind} {a b : Int} (c : Bool) (hx : ρ x = .int k a) (hy : ρ y = .int k b) (hop : op = .lss ∨ op = .leq ∨ op = .gtr ∨ op = .geq ∨ op = .eql ∨ op = .neq) (e : binInt op k a b = some (.bool c)) : iop (.bin op x y) ρ h = some (.val (.bool c) h) := by
  rcases hop with rfl | rfl | rfl | rfl | rfl | rfl <;> simp [iop, binop, hx, hy, e]

/-- A chain: rows of bytes. -/
structure Ch (h : H) (v : AV) (xs : List (AV × List UInt8)) : Prop where
  row : (v = .nils ∧ xs = []) ∨ ∃ a c, v = .sl a xs.length c ∧ a.b < h.n ∧ h.ldn a xs.length = some (xs.map (·.1))
  el : ∀ p ∈ xs, Bs h p.1 p.2 ∧ Cok p.1
  cok : Cok v

theorem Ch.ext {h h' : H} {v : AV} {xs : List (AV × List UInt8)} (c : Ch h v xs) (hx : Ext h h') : Ch h' v xs := by
  refine ⟨c.row.imp id ?_, fun p hp => ⟨(c.el p hp).1.ext hx, (c.el p hp).2⟩, c.cok⟩
  rintro ⟨a, q, h1, h2, h3⟩
  exact ⟨a, q, h1, Nat.lt_of_lt_of_le h2 hx.1, by rw [ldn_same (hx.2 _ h2)]; exact h3⟩
theorem Ch.lenS {h : H} {v : AV} {xs : List (AV × List UInt8)} (c : Ch h v xs) : (v = .nils ∧ xs.length = 0) ∨ ∃ a q, v = .sl a xs.length q := by
  rcases c.row with ⟨h1, h2⟩ | ⟨a, q, h1, _⟩
  · exact .inl ⟨h1, by rw [h2]; rfl⟩
  · exact .inr ⟨a, q, h1⟩
theorem Ch.parts {h : H} {v : AV} {xs : List (AV × List UInt8)} (c : Ch h v xs) : v.cells = [v] ∧ v.one = true ∧ isStrV v = false := by
  rcases c.row with ⟨rfl, _⟩ | ⟨a, q, rfl, _⟩ <;> exact ⟨rfl, rfl, rfl⟩
theorem Ch.at {h : H} {v : AV} {xs : List (AV × List UInt8)} (c : Ch h v xs) {i : Nat} {p : AV × List UInt8} (hp : xs[i]? = some p) : ∃ a q, v = .sl a xs.length q ∧ h.ldg ⟨a.b, a.g, a.o + i * 1⟩ none = some p.1 := by
  rcases c.row with ⟨_, rfl⟩ | ⟨a, q, h1, h2, h3⟩
  · simp at hp
  · exact ⟨a, q, h1, by rw [Nat.mul_one]; exact ldn_at h3 (by simp [hp])⟩

def mayC (c : List UInt8) : Bool := decide (1 ≤ c.length ∧ c.length ≤ 512)
def mayE (xs : List (AV × List UInt8)) : Bool := decide (1 ≤ xs.length ∧ xs.length ≤ 4) && xs.all fun p => mayC p.2

set_option maxHeartbeats 1000000 in
theorem may_loop {h : H} {v : AV} {xs : List (AV × List UInt8)} (hc : Ch h v xs) (hlen : xs.length < 2 ^ 62) :
    ∀ (k i : Nat), i + k = xs.length → ∀ (ts : List AV), ts.length = 31 → getL ts 16 = some v → getL ts 17 = some (.int .i64 xs.length) → getL ts 18 = some (.int .i64 i) →
      ∀ (Q : Ex → St → Prop), ((xs.drop i).all (fun p => mayC p.2) = false → ∀ ts', ts'.length = 31 → getL ts' 2 = some (.bool false) → Q .ret (ts', h)) →
        ((xs.drop i).all (fun p => mayC p.2) = true → ∀ ts', ts'.length = 31 → Q (.exit 0) (ts', h)) → Wp TF (.loop l49_1) (ts, h) Q := by
  intro k
  induction k with
  | zero =>
    intro i hi ts t0 t16 t17 t18 Q hbad hgood
    obtain rfl : i = xs.length := by omega
    refine Wp.loop ?_
    rw [laid_eq t0 [(16, v), (17, .int .i64 xs.length), (18, .int .i64 xs.length)] (by simp [t16, t17, t18])]
    unfold l49_1
    refine Wp.seq ?_
    refine Wp.region ?_
    refine Wo.val (.bool false) h (by kernel_rfl) (iop_cmp (op := .lss) (k := .i64) (a := xs.length) (b := xs.length) false (by kernel_rfl) (by kernel_rfl) (by simp) (by simp [binInt])) ?_
    refine Wo.nil ?_
    refine Wp.seq ?_
    refine Wp.cond false (by kernel_rfl) ?_
    exact Wp.exit (hgood (by simp) _ (by kernel_rfl))
  | succ k ih =>
    intro i hi ts t0 t16 t17 t18 Q hbad hgood
    have hlt : i < xs.length := by omega
    obtain ⟨p, hp⟩ : ∃ p, xs[i]? = some p := ⟨xs[i], List.getElem?_eq_getElem hlt⟩
    have hdrop : xs.drop i = p :: xs.drop (i + 1) := by
      rw [List.drop_eq_getElem_cons hlt]
      congr 1
      exact (List.getElem?_eq_some_iff.1 hp).2
    obtain ⟨a, q, rfl, hld⟩ := hc.at hp
    have hB := (hc.el p (List.mem_of_getElem? hp)).1
    have wi : IntKind.i64.wrap ((i : Int) + 1) = ((i + 1 : Nat) : Int) := by rw [i64_fit _ (by omega)]; omega
    refine Wp.loop ?_
    rw [laid_eq t0 [(16, .sl a xs.length q), (17, .int .i64 xs.length), (18, .int .i64 i)] (by simp [t16, t17, t18])]
    unfold l49_1
    by_cases h1 : p.2.length < 1
    · have hf : (xs.drop i).all (fun p => mayC p.2) = false := by rw [hdrop, List.all_cons]; simp [mayC]; omega
      refine Wp.seq ?_
      refine Wp.region ?_
      refine Wo.val (.bool true) h (by kernel_rfl) (iop_cmp (op := .lss) (k := .i64) (a := i) (b := xs.length) true (by kernel_rfl) (by kernel_rfl) (by simp) (by simp [binInt]; omega)) ?_
      refine Wo.nil ?_
      refine Wp.seq ?_
      refine Wp.cond true (by kernel_rfl) ?_
      refine Wp.skip ?_
      refine Wp.seq ?_
      refine Wp.block ?_
      refine Wp.seq ?_
      refine Wp.region ?_
      refine Wo.val _ h (by kernel_rfl) (iop_ia (a := a) (n := xs.length) (c := q) (i := i) (by kernel_rfl) (by kernel_rfl) hlt) ?_
      refine Wo.val p.1 h (by kernel_rfl) (iop_ld (a := ⟨a.b, a.g, a.o + i * 1⟩) (by kernel_rfl) hld) ?_
      refine Wo.pre 1 (by kernel_rfl) ?_
      refine Wo.nil ?_
      refine Wp.seq ?_
      refine Wp.region ?_
      refine Wo.pre 1 (by kernel_rfl) ?_
      refine Wo.val (.int .i64 p.2.length) h (by kernel_rfl) ((hB.len (by kernel_rfl))) ?_
      refine Wo.val (.bool true) h (by kernel_rfl) (iop_cmp (op := .lss) (k := .i64) (a := p.2.length) (b := 1) true (by kernel_rfl) (by kernel_rfl) (by simp) (by simp [binInt]; omega)) ?_
      refine Wo.pre 1 (by kernel_rfl) ?_
      refine Wo.pre 1 (by kernel_rfl) ?_
      refine Wo.pre 1 (by kernel_rfl) ?_
      refine Wo.pre 1 (by kernel_rfl) ?_
      refine Wo.pre 1 (by kernel_rfl) ?_
      refine Wo.nil ?_
      refine Wp.cond true (by kernel_rfl) ?_
      refine Wp.seq ?_
      refine Wp.region ?_
      refine Wo.pre 1 (by kernel_rfl) ?_
      refine Wo.nil ?_
      exact Wp.ret (hbad hf _ (by kernel_rfl) (by kernel_rfl))
    · by_cases h2 : p.2.length > 512
      · have hf : (xs.drop i).all (fun p => mayC p.2) = false := by rw [hdrop, List.all_cons]; simp [mayC]; omega
        refine Wp.seq ?_
        refine Wp.region ?_
        refine Wo.val (.bool true) h (by kernel_rfl) (iop_cmp (op := .lss) (k := .i64) (a := i) (b := xs.length) true (by kernel_rfl) (by kernel_rfl) (by simp) (by simp [binInt]; omega)) ?_
        refine Wo.nil ?_
        refine Wp.seq ?_
        refine Wp.cond true (by kernel_rfl) ?_
        refine Wp.skip ?_
        refine Wp.seq ?_
        refine Wp.block ?_
        refine Wp.seq ?_
        refine Wp.region ?_
        refine Wo.val _ h (by kernel_rfl) (iop_ia (a := a) (n := xs.length) (c := q) (i := i) (by kernel_rfl) (by kernel_rfl) hlt) ?_
        refine Wo.val p.1 h (by kernel_rfl) (iop_ld (a := ⟨a.b, a.g, a.o + i * 1⟩) (by kernel_rfl) hld) ?_
        refine Wo.pre 1 (by kernel_rfl) ?_
        refine Wo.nil ?_
        refine Wp.seq ?_
        refine Wp.region ?_
        refine Wo.pre 1 (by kernel_rfl) ?_
        refine Wo.val (.int .i64 p.2.length) h (by kernel_rfl) ((hB.len (by kernel_rfl))) ?_
        refine Wo.val (.bool false) h (by kernel_rfl) (iop_cmp (op := .lss) (k := .i64) (a := p.2.length) (b := 1) false (by kernel_rfl) (by kernel_rfl) (by simp) (by simp [binInt]; omega)) ?_
        refine Wo.pre 1 (by kernel_rfl) ?_
        refine Wo.pre 1 (by kernel_rfl) ?_
        refine Wo.val (.int .i64 p.2.length) h (by kernel_rfl) ((hB.len (by kernel_rfl))) ?_
        refine Wo.val (.bool true) h (by kernel_rfl) (iop_cmp (op := .gtr) (k := .i64) (a := p.2.length) (b := 512) true (by kernel_rfl) (by kernel_rfl) (by simp) (by simp [binInt]; omega)) ?_
        refine Wo.pre 1 (by kernel_rfl) ?_
        refine Wo.nil ?_
        refine Wp.cond true (by kernel_rfl) ?_
        refine Wp.seq ?_
        refine Wp.region ?_
        refine Wo.pre 1 (by kernel_rfl) ?_
        refine Wo.nil ?_
        exact Wp.ret (hbad hf _ (by kernel_rfl) (by kernel_rfl))
      · have hf : (xs.drop i).all (fun p => mayC p.2) = (xs.drop (i + 1)).all (fun p => mayC p.2) := by
          have : mayC p.2 = true := by simp [mayC]; omega
          rw [hdrop, List.all_cons, this, Bool.true_and]
        rw [hf] at hbad hgood
        refine Wp.seq ?_
        refine Wp.region ?_
        refine Wo.val (.bool true) h (by kernel_rfl) (iop_cmp (op := .lss) (k := .i64) (a := i) (b := xs.length) true (by kernel_rfl) (by kernel_rfl) (by simp) (by simp [binInt]; omega)) ?_
        refine Wo.nil ?_
        refine Wp.seq ?_
        refine Wp.cond true (by kernel_rfl) ?_
        refine Wp.skip ?_
        refine Wp.seq ?_
        refine Wp.block ?_
        refine Wp.seq ?_
        refine Wp.region ?_
        refine Wo.val _ h (by kernel_rfl) (iop_ia (a := a) (n := xs.length) (c := q) (i := i) (by kernel_rfl) (by kernel_rfl) hlt) ?_
        refine Wo.val p.1 h (by kernel_rfl) (iop_ld (a := ⟨a.b, a.g, a.o + i * 1⟩) (by kernel_rfl) hld) ?_
        refine Wo.pre 1 (by kernel_rfl) ?_
        refine Wo.nil ?_
        refine Wp.seq ?_
        refine Wp.region ?_
        refine Wo.pre 1 (by kernel_rfl) ?_
        refine Wo.val (.int .i64 p.2.length) h (by kernel_rfl) ((hB.len (by kernel_rfl))) ?_
        refine Wo.val (.bool false) h (by kernel_rfl) (iop_cmp (op := .lss) (k := .i64) (a := p.2.length) (b := 1) false (by kernel_rfl) (by kernel_rfl) (by simp) (by simp [binInt]; omega)) ?_
        refine Wo.pre 1 (by kernel_rfl) ?_
        refine Wo.pre 1 (by kernel_rfl) ?_
        refine Wo.val (.int .i64 p.2.length) h (by kernel_rfl) ((hB.len (by kernel_rfl))) ?_
        refine Wo.val (.bool false) h (by kernel_rfl) (iop_cmp (op := .gtr) (k := .i64) (a := p.2.length) (b := 512) false (by kernel_rfl) (by kernel_rfl) (by simp) (by simp [binInt]; omega)) ?_
        refine Wo.pre 1 (by kernel_rfl) ?_
        refine Wo.nil ?_
        refine Wp.cond false (by kernel_rfl) ?_
        refine Wp.skip ?_
        refine Wp.region ?_
        refine Wo.pre 1 (by kernel_rfl) ?_
        refine Wo.pre 1 (by kernel_rfl) ?_
        refine Wo.nil ?_
        exact ih (i + 1) (by omega) _ (by kernel_rfl) (by kernel_rfl) (by kernel_rfl) (by rw [← wi]; kernel_rfl) Q hbad hgood

/-- An entry as a value. -/
def entV (t : Nat) (v : AV) : AV := .agg [.int .u64 t, v]

set_option maxHeartbeats 1000000 in
theorem may_run {h : H} {v : AV} {xs : List (AV × List UInt8)} (hc : Ch h v xs) (hlen : xs.length < 2 ^ 62) (t : Nat) : ∃ r h', Runs TF 49 [entV t v] h r h' ∧ r = .bool (mayE xs) ∧ Ext h h' := by
  refine Runs.ofP f49 rfl ?_
  have hall : ([.int .u64 t, v] : List AV).all AV.one = true := by
    have o1 := hc.parts.2.1
    have o3 : ∀ k i, (AV.int k i).one = true := fun _ _ => rfl
    simp [o1, o3]
  obtain ⟨H1, hH1⟩ : ∃ H1, H1 = h.new (.cells 0 70 [.int .u64 t, v] 0 false) := ⟨_, rfl⟩
  have X1 : Ext h H1 := by rw [hH1]; exact Ext.new _ _
  have enew : ∀ {x : IX} {ρ : IX → AV}, ρ x = .agg [.int .u64 t, v] → iop (.new 70 x) ρ h = some (.val (.ptr ⟨h.n, 0, 0⟩) H1) := fun hx => by rw [hH1]; exact iop_new hx hall
  have g1 : H1.get h.n = some (.cells 0 70 [.int .u64 t, v] 0 false) := by rw [hH1]; exact h.get_new _
  have L1 : H1.ldg ⟨h.n, 0, 1⟩ none = some v := by simp [H.ldg, H.ld, H.row, g1, getL]
  have hc1 := hc.ext X1
  unfold entV
  by_cases h1 : xs.length < 1
  · have e : mayE xs = false := by simp [mayE]; omega
    refine Wp.seq ?_
    refine Wp.region ?_
    refine Wo.val _ _ (by kernel_rfl) (enew (by kernel_rfl)) ?_
    refine Wo.pre 1 (by kernel_rfl) ?_
    refine Wo.nil ?_
    refine Wp.seq ?_
    refine Wp.seq ?_
    refine Wp.region ?_
    refine Wo.pre 1 (by kernel_rfl) ?_
    refine Wo.val v H1 (by kernel_rfl) (iop_ld (a := ⟨h.n, 0, 1⟩) (by kernel_rfl) L1) ?_
    refine Wo.val (.int .i64 xs.length) H1 (by kernel_rfl) (iop_lenS (v := v) (by kernel_rfl) hc.lenS) ?_
    refine Wo.val (.bool true) H1 (by kernel_rfl) (iop_cmp (op := .lss) (k := .i64) (a := xs.length) (b := 1) true (by kernel_rfl) (by kernel_rfl) (by simp) (by simp [binInt]; omega)) ?_
    refine Wo.pre 1 (by kernel_rfl) ?_
    refine Wo.pre 1 (by kernel_rfl) ?_
    refine Wo.pre 1 (by kernel_rfl) ?_
    refine Wo.pre 1 (by kernel_rfl) ?_
    refine Wo.pre 1 (by kernel_rfl) ?_
    refine Wo.pre 1 (by kernel_rfl) ?_
    refine Wo.nil ?_
    refine Wp.cond true (by kernel_rfl) ?_
    refine Wp.seq ?_
    refine Wp.region ?_
    refine Wo.pre 1 (by kernel_rfl) ?_
    refine Wo.nil ?_
    exact Wp.ret ⟨.inr rfl, .bool false, (by kernel_rfl), by rw [e], X1⟩
  · by_cases h2 : xs.length > 4
    · have e : mayE xs = false := by simp [mayE]; omega
      refine Wp.seq ?_
      refine Wp.region ?_
      refine Wo.val _ _ (by kernel_rfl) (enew (by kernel_rfl)) ?_
      refine Wo.pre 1 (by kernel_rfl) ?_
      refine Wo.nil ?_
      refine Wp.seq ?_
      refine Wp.seq ?_
      refine Wp.region ?_
      refine Wo.pre 1 (by kernel_rfl) ?_
      refine Wo.val v H1 (by kernel_rfl) (iop_ld (a := ⟨h.n, 0, 1⟩) (by kernel_rfl) L1) ?_
      refine Wo.val (.int .i64 xs.length) H1 (by kernel_rfl) (iop_lenS (v := v) (by kernel_rfl) hc.lenS) ?_
      refine Wo.val (.bool false) H1 (by kernel_rfl) (iop_cmp (op := .lss) (k := .i64) (a := xs.length) (b := 1) false (by kernel_rfl) (by kernel_rfl) (by simp) (by simp [binInt]; omega)) ?_
      refine Wo.pre 1 (by kernel_rfl) ?_
      refine Wo.pre 1 (by kernel_rfl) ?_
      refine Wo.val v H1 (by kernel_rfl) (iop_ld (a := ⟨h.n, 0, 1⟩) (by kernel_rfl) L1) ?_
      refine Wo.val (.int .i64 xs.length) H1 (by kernel_rfl) (iop_lenS (v := v) (by kernel_rfl) hc.lenS) ?_
      refine Wo.val (.bool true) H1 (by kernel_rfl) (iop_cmp (op := .gtr) (k := .i64) (a := xs.length) (b := 4) true (by kernel_rfl) (by kernel_rfl) (by simp) (by simp [binInt]; omega)) ?_
      refine Wo.pre 1 (by kernel_rfl) ?_
      refine Wo.nil ?_
      refine Wp.cond true (by kernel_rfl) ?_
      refine Wp.seq ?_
      refine Wp.region ?_
      refine Wo.pre 1 (by kernel_rfl) ?_
      refine Wo.nil ?_
      exact Wp.ret ⟨.inr rfl, .bool false, (by kernel_rfl), by rw [e], X1⟩
    · have e : mayE xs = xs.all fun p => mayC p.2 := by simp [mayE]; omega
      refine Wp.seq ?_
      refine Wp.region ?_
      refine Wo.val _ _ (by kernel_rfl) (enew (by kernel_rfl)) ?_
      refine Wo.pre 1 (by kernel_rfl) ?_
      refine Wo.nil ?_
      refine Wp.seq ?_
      refine Wp.seq ?_
      refine Wp.region ?_
      refine Wo.pre 1 (by kernel_rfl) ?_
      refine Wo.val v H1 (by kernel_rfl) (iop_ld (a := ⟨h.n, 0, 1⟩) (by kernel_rfl) L1) ?_
      refine Wo.val (.int .i64 xs.length) H1 (by kernel_rfl) (iop_lenS (v := v) (by kernel_rfl) hc.lenS) ?_
      refine Wo.val (.bool false) H1 (by kernel_rfl) (iop_cmp (op := .lss) (k := .i64) (a := xs.length) (b := 1) false (by kernel_rfl) (by kernel_rfl) (by simp) (by simp [binInt]; omega)) ?_
      refine Wo.pre 1 (by kernel_rfl) ?_
      refine Wo.pre 1 (by kernel_rfl) ?_
      refine Wo.val v H1 (by kernel_rfl) (iop_ld (a := ⟨h.n, 0, 1⟩) (by kernel_rfl) L1) ?_
      refine Wo.val (.int .i64 xs.length) H1 (by kernel_rfl) (iop_lenS (v := v) (by kernel_rfl) hc.lenS) ?_
      refine Wo.val (.bool false) H1 (by kernel_rfl) (iop_cmp (op := .gtr) (k := .i64) (a := xs.length) (b := 4) false (by kernel_rfl) (by kernel_rfl) (by simp) (by simp [binInt]; omega)) ?_
      refine Wo.pre 1 (by kernel_rfl) ?_
      refine Wo.nil ?_
      refine Wp.cond false (by kernel_rfl) ?_
      refine Wp.skip ?_
      refine Wp.seq ?_
      refine Wp.seq ?_
      refine Wp.region ?_
      refine Wo.pre 1 (by kernel_rfl) ?_
      refine Wo.val v H1 (by kernel_rfl) (iop_ld (a := ⟨h.n, 0, 1⟩) (by kernel_rfl) L1) ?_
      refine Wo.val (.int .i64 xs.length) H1 (by kernel_rfl) (iop_lenS (v := v) (by kernel_rfl) hc.lenS) ?_
      refine Wo.pre 1 (by kernel_rfl) ?_
      refine Wo.nil ?_
      refine Wp.block ?_
      refine may_loop hc1 hlen xs.length 0 (by omega) _ (by kernel_rfl) (by kernel_rfl) (by kernel_rfl) (by kernel_rfl) _ ?_ ?_
      · intro hf ts' d0 d2
        rw [laid_eq d0 [(2, .bool false)] (by simp [d2])]
        rw [List.drop_zero] at hf
        exact ⟨.inr rfl, .bool false, (by kernel_rfl), by rw [e, hf], X1⟩
      · intro hf ts' d0
        rw [List.drop_zero] at hf
        rw [laid_eq d0 [] (by simp)]
        refine Wp.seq ?_
        refine Wp.region ?_
        refine Wo.pre 8 (by kernel_rfl) ?_
        refine Wo.nil ?_
        exact Wp.ret ⟨.inr rfl, .bool true, (by kernel_rfl), by rw [e, hf], X1⟩
end Go.Det

/- Entries: the reference's May; numbers and vectors. -/
set_option linter.unusedVariables false
set_option linter.unusedSimpArgs false
set_option linter.unusedSectionVars false
namespace Go.Det
open Go.Proofs
attribute [local irreducible] Wp Wo Wd iop ev slots quiets wanted put

theorem binEq_false {k : IntKind} {a b : Int} (h : a ≠ b) : binInt .eql k a b = some (.bool false) := by simp [binInt, h]
theorem binEq_true {k : IntKind} {a b : Int} (h : a = b) : binInt .eql k a b = some (.bool true) := by simp [binInt, h]

set_option maxHeartbeats 1000000 in
theorem rmay_loop {h : H} {v : AV} {xs : List (AV × List UInt8)} {blk : Nat} (hc : Ch h v xs) (hlen : xs.length < 2 ^ 62) (hL : h.ldg ⟨blk, 0, 1⟩ none = some v) :
    ∀ (k i : Nat), i + k = xs.length → ∀ (ts : List AV) (b : Bool), ts.length = 39 → getL ts 1 = some (.ptr ⟨blk, 0, 0⟩) → getL ts 3 = some (.bool b) → getL ts 4 = some (.int .i64 i) →
      ∀ (Q : Ex → St → Prop), (∀ ts', ts'.length = 39 → getL ts' 3 = some (.bool (b && (xs.drop i).all (fun p => mayC p.2))) → Q (.exit 0) (ts', h)) → Wp TF (.loop l50_1) (ts, h) Q := by
  intro k
  induction k with
  | zero =>
    intro i hi ts b t0 t1 t3 t4 Q hQ
    obtain rfl : i = xs.length := by omega
    refine Wp.loop ?_
    rw [laid_eq t0 [(1, .ptr ⟨blk, 0, 0⟩), (3, .bool b), (4, .int .i64 xs.length)] (by simp [t1, t3, t4])]
    unfold l50_1
    refine Wp.seq ?_
    refine Wp.seq ?_
    refine Wp.region ?_
    refine Wo.pre 1 (by kernel_rfl) ?_
    refine Wo.pre 1 (by kernel_rfl) ?_
    refine Wo.val v h (by kernel_rfl) (iop_ld (a := ⟨blk, 0, 1⟩) (by kernel_rfl) hL) ?_
    refine Wo.val (.int .i64 xs.length) h (by kernel_rfl) (iop_lenS (v := v) (by kernel_rfl) hc.lenS) ?_
    refine Wo.val (.bool false) h (by kernel_rfl) (iop_cmp (op := .lss) (k := .i64) (a := xs.length) (b := xs.length) false (by kernel_rfl) (by kernel_rfl) (by simp) (by simp [binInt])) ?_
    refine Wo.nil ?_
    refine Wp.cond false (by kernel_rfl) ?_
    exact Wp.exit (hQ _ (by kernel_rfl) (by rw [List.drop_length, List.all_nil, Bool.and_true]; kernel_rfl))
  | succ k ih =>
    intro i hi ts b t0 t1 t3 t4 Q hQ
    have hlt : i < xs.length := by omega
    obtain ⟨p, hp⟩ : ∃ p, xs[i]? = some p := ⟨xs[i], List.getElem?_eq_getElem hlt⟩
    have hdrop : xs.drop i = p :: xs.drop (i + 1) := by
      rw [List.drop_eq_getElem_cons hlt]
      congr 1
      exact (List.getElem?_eq_some_iff.1 hp).2
    rw [hdrop, List.all_cons] at hQ
    have hls := hc.lenS
    obtain ⟨a, q, rfl, hld⟩ := hc.at hp
    have hB := (hc.el p (List.mem_of_getElem? hp)).1
    have wi : IntKind.i64.wrap ((i : Int) + 1) = ((i + 1 : Nat) : Int) := by rw [i64_fit _ (by omega)]; omega
    refine Wp.loop ?_
    rw [laid_eq t0 [(1, .ptr ⟨blk, 0, 0⟩), (3, .bool b), (4, .int .i64 i)] (by simp [t1, t3, t4])]
    unfold l50_1
    by_cases h1 : p.2.length = 0
    · have hm : mayC p.2 = false := by simp [mayC]; omega
      rw [hm, Bool.false_and, Bool.and_false] at hQ
      refine Wp.seq ?_
      refine Wp.seq ?_
      refine Wp.region ?_
      refine Wo.pre 1 (by kernel_rfl) ?_
      refine Wo.pre 1 (by kernel_rfl) ?_
      refine Wo.val (.sl a xs.length q) h (by kernel_rfl) (iop_ld (a := ⟨blk, 0, 1⟩) (by kernel_rfl) hL) ?_
      refine Wo.val (.int .i64 xs.length) h (by kernel_rfl) (iop_lenS (v := .sl a xs.length q) (by kernel_rfl) hls) ?_
      refine Wo.val (.bool true) h (by kernel_rfl) (iop_cmp (op := .lss) (k := .i64) (a := i) (b := xs.length) true (by kernel_rfl) (by kernel_rfl) (by simp) (by simp [binInt]; omega)) ?_
      refine Wo.nil ?_
      refine Wp.cond true (by kernel_rfl) ?_
      refine Wp.skip ?_
      refine Wp.seq ?_
      refine Wp.block ?_
      refine Wp.seq ?_
      refine Wp.region ?_
      refine Wo.pre 1 (by kernel_rfl) ?_
      refine Wo.val (.sl a xs.length q) h (by kernel_rfl) (iop_ld (a := ⟨blk, 0, 1⟩) (by kernel_rfl) hL) ?_
      refine Wo.pre 1 (by kernel_rfl) ?_
      refine Wo.val _ h (by kernel_rfl) (iop_ia (a := a) (n := xs.length) (c := q) (i := i) (by kernel_rfl) (by kernel_rfl) hlt) ?_
      refine Wo.val p.1 h (by kernel_rfl) (iop_ld (a := ⟨a.b, a.g, a.o + i * 1⟩) (by kernel_rfl) hld) ?_
      refine Wo.val (.int .i64 p.2.length) h (by kernel_rfl) ((hB.len (by kernel_rfl))) ?_
      refine Wo.val (.bool true) h (by kernel_rfl) (iop_cmp (op := .eql) (k := .i64) (a := p.2.length) (b := 0) true (by kernel_rfl) (by kernel_rfl) (by simp) (binEq_true (by omega))) ?_
      refine Wo.pre 1 (by kernel_rfl) ?_
      refine Wo.pre 1 (by kernel_rfl) ?_
      refine Wo.pre 1 (by kernel_rfl) ?_
      refine Wo.pre 1 (by kernel_rfl) ?_
      refine Wo.pre 1 (by kernel_rfl) ?_
      refine Wo.pre 1 (by kernel_rfl) ?_
      refine Wo.pre 1 (by kernel_rfl) ?_
      refine Wo.pre 1 (by kernel_rfl) ?_
      refine Wo.pre 1 (by kernel_rfl) ?_
      refine Wo.nil ?_
      refine Wp.cond true (by kernel_rfl) ?_
      refine Wp.region ?_
      refine Wo.pre 1 (by kernel_rfl) ?_
      refine Wo.nil ?_
      refine Wp.region ?_
      refine Wo.pre 1 (by kernel_rfl) ?_
      refine Wo.pre 1 (by kernel_rfl) ?_
      refine Wo.pre 1 (by kernel_rfl) ?_
      refine Wo.nil ?_
      exact ih (i + 1) (by omega) _ false (by kernel_rfl) (by kernel_rfl) (by kernel_rfl) (by rw [← wi]; kernel_rfl) Q (by simpa using hQ)
    · by_cases h2 : p.2.length > 512
      · have hm : mayC p.2 = false := by simp [mayC]; omega
        rw [hm, Bool.false_and, Bool.and_false] at hQ
        refine Wp.seq ?_
        refine Wp.seq ?_
        refine Wp.region ?_
        refine Wo.pre 1 (by kernel_rfl) ?_
        refine Wo.pre 1 (by kernel_rfl) ?_
        refine Wo.val (.sl a xs.length q) h (by kernel_rfl) (iop_ld (a := ⟨blk, 0, 1⟩) (by kernel_rfl) hL) ?_
        refine Wo.val (.int .i64 xs.length) h (by kernel_rfl) (iop_lenS (v := .sl a xs.length q) (by kernel_rfl) hls) ?_
        refine Wo.val (.bool true) h (by kernel_rfl) (iop_cmp (op := .lss) (k := .i64) (a := i) (b := xs.length) true (by kernel_rfl) (by kernel_rfl) (by simp) (by simp [binInt]; omega)) ?_
        refine Wo.nil ?_
        refine Wp.cond true (by kernel_rfl) ?_
        refine Wp.skip ?_
        refine Wp.seq ?_
        refine Wp.block ?_
        refine Wp.seq ?_
        refine Wp.region ?_
        refine Wo.pre 1 (by kernel_rfl) ?_
        refine Wo.val (.sl a xs.length q) h (by kernel_rfl) (iop_ld (a := ⟨blk, 0, 1⟩) (by kernel_rfl) hL) ?_
        refine Wo.pre 1 (by kernel_rfl) ?_
        refine Wo.val _ h (by kernel_rfl) (iop_ia (a := a) (n := xs.length) (c := q) (i := i) (by kernel_rfl) (by kernel_rfl) hlt) ?_
        refine Wo.val p.1 h (by kernel_rfl) (iop_ld (a := ⟨a.b, a.g, a.o + i * 1⟩) (by kernel_rfl) hld) ?_
        refine Wo.val (.int .i64 p.2.length) h (by kernel_rfl) ((hB.len (by kernel_rfl))) ?_
        refine Wo.val (.bool false) h (by kernel_rfl) (iop_cmp (op := .eql) (k := .i64) (a := p.2.length) (b := 0) false (by kernel_rfl) (by kernel_rfl) (by simp) (binEq_false (by omega))) ?_
        refine Wo.pre 1 (by kernel_rfl) ?_
        refine Wo.pre 1 (by kernel_rfl) ?_
        refine Wo.val (.sl a xs.length q) h (by kernel_rfl) (iop_ld (a := ⟨blk, 0, 1⟩) (by kernel_rfl) hL) ?_
        refine Wo.pre 1 (by kernel_rfl) ?_
        refine Wo.val _ h (by kernel_rfl) (iop_ia (a := a) (n := xs.length) (c := q) (i := i) (by kernel_rfl) (by kernel_rfl) hlt) ?_
        refine Wo.val p.1 h (by kernel_rfl) (iop_ld (a := ⟨a.b, a.g, a.o + i * 1⟩) (by kernel_rfl) hld) ?_
        refine Wo.val (.int .i64 p.2.length) h (by kernel_rfl) ((hB.len (by kernel_rfl))) ?_
        refine Wo.val (.bool true) h (by kernel_rfl) (iop_cmp (op := .gtr) (k := .i64) (a := p.2.length) (b := 512) true (by kernel_rfl) (by kernel_rfl) (by simp) (by simp [binInt]; omega)) ?_
        refine Wo.pre 1 (by kernel_rfl) ?_
        refine Wo.nil ?_
        refine Wp.cond true (by kernel_rfl) ?_
        refine Wp.region ?_
        refine Wo.pre 1 (by kernel_rfl) ?_
        refine Wo.nil ?_
        refine Wp.region ?_
        refine Wo.pre 1 (by kernel_rfl) ?_
        refine Wo.pre 1 (by kernel_rfl) ?_
        refine Wo.pre 1 (by kernel_rfl) ?_
        refine Wo.nil ?_
        exact ih (i + 1) (by omega) _ false (by kernel_rfl) (by kernel_rfl) (by kernel_rfl) (by rw [← wi]; kernel_rfl) Q (by simpa using hQ)
      · have hm : mayC p.2 = true := by simp [mayC]; omega
        rw [hm, Bool.true_and] at hQ
        refine Wp.seq ?_
        refine Wp.seq ?_
        refine Wp.region ?_
        refine Wo.pre 1 (by kernel_rfl) ?_
        refine Wo.pre 1 (by kernel_rfl) ?_
        refine Wo.val (.sl a xs.length q) h (by kernel_rfl) (iop_ld (a := ⟨blk, 0, 1⟩) (by kernel_rfl) hL) ?_
        refine Wo.val (.int .i64 xs.length) h (by kernel_rfl) (iop_lenS (v := .sl a xs.length q) (by kernel_rfl) hls) ?_
        refine Wo.val (.bool true) h (by kernel_rfl) (iop_cmp (op := .lss) (k := .i64) (a := i) (b := xs.length) true (by kernel_rfl) (by kernel_rfl) (by simp) (by simp [binInt]; omega)) ?_
        refine Wo.nil ?_
        refine Wp.cond true (by kernel_rfl) ?_
        refine Wp.skip ?_
        refine Wp.seq ?_
        refine Wp.block ?_
        refine Wp.seq ?_
        refine Wp.region ?_
        refine Wo.pre 1 (by kernel_rfl) ?_
        refine Wo.val (.sl a xs.length q) h (by kernel_rfl) (iop_ld (a := ⟨blk, 0, 1⟩) (by kernel_rfl) hL) ?_
        refine Wo.pre 1 (by kernel_rfl) ?_
        refine Wo.val _ h (by kernel_rfl) (iop_ia (a := a) (n := xs.length) (c := q) (i := i) (by kernel_rfl) (by kernel_rfl) hlt) ?_
        refine Wo.val p.1 h (by kernel_rfl) (iop_ld (a := ⟨a.b, a.g, a.o + i * 1⟩) (by kernel_rfl) hld) ?_
        refine Wo.val (.int .i64 p.2.length) h (by kernel_rfl) ((hB.len (by kernel_rfl))) ?_
        refine Wo.val (.bool false) h (by kernel_rfl) (iop_cmp (op := .eql) (k := .i64) (a := p.2.length) (b := 0) false (by kernel_rfl) (by kernel_rfl) (by simp) (binEq_false (by omega))) ?_
        refine Wo.pre 1 (by kernel_rfl) ?_
        refine Wo.pre 1 (by kernel_rfl) ?_
        refine Wo.val (.sl a xs.length q) h (by kernel_rfl) (iop_ld (a := ⟨blk, 0, 1⟩) (by kernel_rfl) hL) ?_
        refine Wo.pre 1 (by kernel_rfl) ?_
        refine Wo.val _ h (by kernel_rfl) (iop_ia (a := a) (n := xs.length) (c := q) (i := i) (by kernel_rfl) (by kernel_rfl) hlt) ?_
        refine Wo.val p.1 h (by kernel_rfl) (iop_ld (a := ⟨a.b, a.g, a.o + i * 1⟩) (by kernel_rfl) hld) ?_
        refine Wo.val (.int .i64 p.2.length) h (by kernel_rfl) ((hB.len (by kernel_rfl))) ?_
        refine Wo.val (.bool false) h (by kernel_rfl) (iop_cmp (op := .gtr) (k := .i64) (a := p.2.length) (b := 512) false (by kernel_rfl) (by kernel_rfl) (by simp) (by simp [binInt]; omega)) ?_
        refine Wo.pre 1 (by kernel_rfl) ?_
        refine Wo.nil ?_
        refine Wp.cond false (by kernel_rfl) ?_
        refine Wp.skip ?_
        refine Wp.region ?_
        refine Wo.pre 1 (by kernel_rfl) ?_
        refine Wo.pre 1 (by kernel_rfl) ?_
        refine Wo.pre 1 (by kernel_rfl) ?_
        refine Wo.nil ?_
        exact ih (i + 1) (by omega) _ b (by kernel_rfl) (by kernel_rfl) (by kernel_rfl) (by rw [← wi]; kernel_rfl) Q hQ

set_option maxHeartbeats 1000000 in
theorem rmay_run {h : H} {v : AV} {xs : List (AV × List UInt8)} (hc : Ch h v xs) (hlen : xs.length < 2 ^ 62) (t : Nat) : ∃ r h', Runs TF 50 [entV t v] h r h' ∧ r = .bool (mayE xs) ∧ Ext h h' := by
  refine Runs.ofP f50 rfl ?_
  have hall : ([.int .u64 t, v] : List AV).all AV.one = true := by
    have o1 := hc.parts.2.1
    have o3 : ∀ k i, (AV.int k i).one = true := fun _ _ => rfl
    simp [o1, o3]
  obtain ⟨H1, hH1⟩ : ∃ H1, H1 = h.new (.cells 0 70 [.int .u64 t, v] 0 false) := ⟨_, rfl⟩
  have X1 : Ext h H1 := by rw [hH1]; exact Ext.new _ _
  have enew : ∀ {x : IX} {ρ : IX → AV}, ρ x = .agg [.int .u64 t, v] → iop (.new 70 x) ρ h = some (.val (.ptr ⟨h.n, 0, 0⟩) H1) := fun hx => by rw [hH1]; exact iop_new hx hall
  have g1 : H1.get h.n = some (.cells 0 70 [.int .u64 t, v] 0 false) := by rw [hH1]; exact h.get_new _
  have L1 : H1.ldg ⟨h.n, 0, 1⟩ none = some v := by simp [H.ldg, H.ld, H.row, g1, getL]
  have hc1 := hc.ext X1
  unfold entV
  have fin : ∀ b : Bool, b = decide (1 ≤ xs.length ∧ xs.length ≤ 4) → ∀ ts' : List AV, ts'.length = 39 → getL ts' 3 = some (AV.bool (b && (xs.drop 0).all (fun p => mayC p.2))) → getL ts' 3 = some (AV.bool (mayE xs)) := by
    intro b hb ts' _ d3
    rw [d3, hb]
    rfl
  by_cases h1 : xs.length > 0
  · by_cases h2 : xs.length < 5
    · refine Wp.seq ?_
      refine Wp.region ?_
      refine Wo.val _ _ (by kernel_rfl) (enew (by kernel_rfl)) ?_
      refine Wo.pre 1 (by kernel_rfl) ?_
      refine Wo.nil ?_
      refine Wp.seq ?_
      refine Wp.region ?_
      refine Wo.pre 1 (by kernel_rfl) ?_
      refine Wo.val v H1 (by kernel_rfl) (iop_ld (a := ⟨h.n, 0, 1⟩) (by kernel_rfl) L1) ?_
      refine Wo.val (.int .i64 xs.length) H1 (by kernel_rfl) (iop_lenS (v := v) (by kernel_rfl) hc.lenS) ?_
      refine Wo.val (.bool true) H1 (by kernel_rfl) (iop_cmp (op := .gtr) (k := .i64) (a := xs.length) (b := 0) true (by kernel_rfl) (by kernel_rfl) (by simp) (by simp [binInt]; omega)) ?_
      refine Wo.pre 1 (by kernel_rfl) ?_
      refine Wo.pre 1 (by kernel_rfl) ?_
      refine Wo.val v H1 (by kernel_rfl) (iop_ld (a := ⟨h.n, 0, 1⟩) (by kernel_rfl) L1) ?_
      refine Wo.val (.int .i64 xs.length) H1 (by kernel_rfl) (iop_lenS (v := v) (by kernel_rfl) hc.lenS) ?_
      refine Wo.val (.bool true) H1 (by kernel_rfl) (iop_cmp (op := .lss) (k := .i64) (a := xs.length) (b := 5) true (by kernel_rfl) (by kernel_rfl) (by simp) (by simp [binInt]; omega)) ?_
      refine Wo.pre 1 (by kernel_rfl) ?_
      refine Wo.pre 1 (by kernel_rfl) ?_
      refine Wo.nil ?_
      refine Wp.seq ?_
      refine Wp.seq ?_
      refine Wp.region ?_
      refine Wo.pre 1 (by kernel_rfl) ?_
      refine Wo.nil ?_
      refine Wp.block ?_
      refine rmay_loop hc1 hlen L1 xs.length 0 (by omega) _ true (by kernel_rfl) (by kernel_rfl) (by kernel_rfl) (by kernel_rfl) _ ?_
      intro ts' d0 d3
      have d3 := fin true (by simp; omega) ts' d0 d3
      rw [laid_eq d0 [(3, .bool (mayE xs))] (by simp [d3])]
      refine Wp.seq ?_
      refine Wp.region ?_
      refine Wo.pre 8 (by kernel_rfl) ?_
      refine Wo.nil ?_
      exact Wp.ret ⟨.inr rfl, .bool (mayE xs), (by kernel_rfl), rfl, X1⟩
    · refine Wp.seq ?_
      refine Wp.region ?_
      refine Wo.val _ _ (by kernel_rfl) (enew (by kernel_rfl)) ?_
      refine Wo.pre 1 (by kernel_rfl) ?_
      refine Wo.nil ?_
      refine Wp.seq ?_
      refine Wp.region ?_
      refine Wo.pre 1 (by kernel_rfl) ?_
      refine Wo.val v H1 (by kernel_rfl) (iop_ld (a := ⟨h.n, 0, 1⟩) (by kernel_rfl) L1) ?_
      refine Wo.val (.int .i64 xs.length) H1 (by kernel_rfl) (iop_lenS (v := v) (by kernel_rfl) hc.lenS) ?_
      refine Wo.val (.bool true) H1 (by kernel_rfl) (iop_cmp (op := .gtr) (k := .i64) (a := xs.length) (b := 0) true (by kernel_rfl) (by kernel_rfl) (by simp) (by simp [binInt]; omega)) ?_
      refine Wo.pre 1 (by kernel_rfl) ?_
      refine Wo.pre 1 (by kernel_rfl) ?_
      refine Wo.val v H1 (by kernel_rfl) (iop_ld (a := ⟨h.n, 0, 1⟩) (by kernel_rfl) L1) ?_
      refine Wo.val (.int .i64 xs.length) H1 (by kernel_rfl) (iop_lenS (v := v) (by kernel_rfl) hc.lenS) ?_
      refine Wo.val (.bool false) H1 (by kernel_rfl) (iop_cmp (op := .lss) (k := .i64) (a := xs.length) (b := 5) false (by kernel_rfl) (by kernel_rfl) (by simp) (by simp [binInt]; omega)) ?_
      refine Wo.pre 1 (by kernel_rfl) ?_
      refine Wo.pre 1 (by kernel_rfl) ?_
      refine Wo.nil ?_
      refine Wp.seq ?_
      refine Wp.seq ?_
      refine Wp.region ?_
      refine Wo.pre 1 (by kernel_rfl) ?_
      refine Wo.nil ?_
      refine Wp.block ?_
      refine rmay_loop hc1 hlen L1 xs.length 0 (by omega) _ false (by kernel_rfl) (by kernel_rfl) (by kernel_rfl) (by kernel_rfl) _ ?_
      intro ts' d0 d3
      have d3 := fin false (by simp; omega) ts' d0 d3
      rw [laid_eq d0 [(3, .bool (mayE xs))] (by simp [d3])]
      refine Wp.seq ?_
      refine Wp.region ?_
      refine Wo.pre 8 (by kernel_rfl) ?_
      refine Wo.nil ?_
      exact Wp.ret ⟨.inr rfl, .bool (mayE xs), (by kernel_rfl), rfl, X1⟩
  · refine Wp.seq ?_
    refine Wp.region ?_
    refine Wo.val _ _ (by kernel_rfl) (enew (by kernel_rfl)) ?_
    refine Wo.pre 1 (by kernel_rfl) ?_
    refine Wo.nil ?_
    refine Wp.seq ?_
    refine Wp.region ?_
    refine Wo.pre 1 (by kernel_rfl) ?_
    refine Wo.val v H1 (by kernel_rfl) (iop_ld (a := ⟨h.n, 0, 1⟩) (by kernel_rfl) L1) ?_
    refine Wo.val (.int .i64 xs.length) H1 (by kernel_rfl) (iop_lenS (v := v) (by kernel_rfl) hc.lenS) ?_
    refine Wo.val (.bool false) H1 (by kernel_rfl) (iop_cmp (op := .gtr) (k := .i64) (a := xs.length) (b := 0) false (by kernel_rfl) (by kernel_rfl) (by simp) (by simp only [binInt]; rw [decide_eq_false (by omega)])) ?_
    refine Wo.pre 1 (by kernel_rfl) ?_
    refine Wo.pre 1 (by kernel_rfl) ?_
    refine Wo.pre 1 (by kernel_rfl) ?_
    refine Wo.pre 1 (by kernel_rfl) ?_
    refine Wo.pre 1 (by kernel_rfl) ?_
    refine Wo.pre 1 (by kernel_rfl) ?_
    refine Wo.pre 1 (by kernel_rfl) ?_
    refine Wo.nil ?_
    refine Wp.seq ?_
    refine Wp.seq ?_
    refine Wp.region ?_
    refine Wo.pre 1 (by kernel_rfl) ?_
    refine Wo.nil ?_
    refine Wp.block ?_
    refine rmay_loop hc1 hlen L1 xs.length 0 (by omega) _ false (by kernel_rfl) (by kernel_rfl) (by kernel_rfl) (by kernel_rfl) _ ?_
    intro ts' d0 d3
    have d3 := fin false (by simp; omega) ts' d0 d3
    rw [laid_eq d0 [(3, .bool (mayE xs))] (by simp [d3])]
    refine Wp.seq ?_
    refine Wp.region ?_
    refine Wo.pre 8 (by kernel_rfl) ?_
    refine Wo.nil ?_
    exact Wp.ret ⟨.inr rfl, .bool (mayE xs), (by kernel_rfl), rfl, X1⟩

theorem number_run {b : AV} {l : List UInt8} {h : H} (hb : Bs h b l) (hl : l.length + 8 ≤ maxRow) {n : Nat} (hn : n < 2 ^ 64) (size : Int) :
    ∃ x h', Runs TF 76 [b, .int .u64 n, .int .i64 size] h x h' ∧ Ext h h' ∧ Ow h.n h' x (if numE n size = 0 then l ++ digits n size.toNat size.toNat else []) := by
  obtain ⟨v, h', c1, x, rfl, c2, c3⟩ := num_run hb hl hn size
  refine Runs.ofP f76 rfl ?_
  refine Wp.seq ?_
  refine Wp.region ?_
  refine Wo.pre 8 (by kernel_rfl) ?_
  refine Wo.nil ?_
  refine Wp.seq ?_
  refine Wp.region ?_
  refine Wo.pre 3 (by kernel_rfl) ?_
  refine Wo.call (by kernel_rfl) (by kernel_rfl) (c1) ?_
  refine Wo.pre 8 (by kernel_rfl) ?_
  refine Wo.nil ?_
  refine Wp.seq ?_
  refine Wp.region ?_
  refine Wo.pre 8 (by kernel_rfl) ?_
  refine Wo.nil ?_
  exact Wp.ret ⟨.inr rfl, x, (by kernel_rfl), c2, c3⟩
theorem rnumq_run {h : H} {n : Nat} (hn : n < 2 ^ 64) (size : Int) :
    ∃ x h', Runs TF 77 [.int .u64 n, .int .i64 size] h x h' ∧ Ext h h' ∧ Ow h.n h' x (if numE n size = 0 then digits n size.toNat size.toNat else []) := by
  obtain ⟨v, h', c1, x, rfl, c2, c3⟩ := rnum_run (h := h) (b := .nils) (l := []) (.inl ⟨rfl, rfl⟩) (by decide) hn size
  rw [List.nil_append] at c3
  refine Runs.ofP f77 rfl ?_
  refine Wp.seq ?_
  refine Wp.region ?_
  refine Wo.pre 8 (by kernel_rfl) ?_
  refine Wo.nil ?_
  refine Wp.seq ?_
  refine Wp.region ?_
  refine Wo.pre 1 (by kernel_rfl) ?_
  refine Wo.pre 1 (by kernel_rfl) ?_
  refine Wo.call (by kernel_rfl) (by kernel_rfl) (c1) ?_
  refine Wo.pre 8 (by kernel_rfl) ?_
  refine Wo.nil ?_
  refine Wp.seq ?_
  refine Wp.region ?_
  refine Wo.pre 8 (by kernel_rfl) ?_
  refine Wo.nil ?_
  exact Wp.ret ⟨.inr rfl, x, (by kernel_rfl), c2, c3⟩
theorem rvecq_run {h : H} {y : AV} {ly : List UInt8} (hy : Bs h y ly) (size : Int) (hl2 : ly.length ≤ maxRow) :
    ∃ z h', Runs TF 79 [y, .int .i64 size] h z h' ∧ Ext h h' ∧ Ow h.n h' z (if vecE ly.length size = 0 then digits ly.length size.toNat size.toNat ++ ly else []) := by
  obtain ⟨v, h', c1, z, rfl, c2, c3⟩ := rvec_run (h := h) (x := .nils) (lx := []) (.inl ⟨rfl, rfl⟩) hy size (by decide) hl2
  rw [List.nil_append] at c3
  refine Runs.ofP f79 rfl ?_
  refine Wp.seq ?_
  refine Wp.region ?_
  refine Wo.pre 8 (by kernel_rfl) ?_
  refine Wo.nil ?_
  refine Wp.seq ?_
  refine Wp.region ?_
  refine Wo.pre 1 (by kernel_rfl) ?_
  refine Wo.pre 1 (by kernel_rfl) ?_
  refine Wo.call (by kernel_rfl) (by kernel_rfl) (c1) ?_
  refine Wo.pre 8 (by kernel_rfl) ?_
  refine Wo.nil ?_
  refine Wp.seq ?_
  refine Wp.region ?_
  refine Wo.pre 8 (by kernel_rfl) ?_
  refine Wo.nil ?_
  exact Wp.ret ⟨.inr rfl, z, (by kernel_rfl), c2, c3⟩
end Go.Det

/- Entries: leaves, what is signed. -/
set_option linter.unusedVariables false
set_option linter.unusedSimpArgs false
set_option linter.unusedSectionVars false
namespace Go.Det
open Go.Proofs
attribute [local irreducible] Wp Wo Wd iop ev slots quiets wanted put

/-- An entry, handed in: its own block. -/
theorem ent_new {h : H} {v : AV} {xs : List (AV × List UInt8)} (hc : Ch h v xs) (t : Nat) : ∃ H1, Ext h H1 ∧ h.n < H1.n ∧ (∀ {x : IX} {ρ : IX → AV}, ρ x = entV t v → iop (.new 70 x) ρ h = some (.val (.ptr ⟨h.n, 0, 0⟩) H1)) ∧
    ∀ q, Ext H1 q → q.ldg ⟨h.n, 0, 0⟩ none = some (.int .u64 t) ∧ q.ldg ⟨h.n, 0, 1⟩ none = some v ∧ q.ldg ⟨h.n, 0, 0⟩ (some 2) = some (entV t v) := by
  have hall : ([.int .u64 t, v] : List AV).all AV.one = true := by
    have o1 := hc.parts.2.1
    have o3 : ∀ k i, (AV.int k i).one = true := fun _ _ => rfl
    simp [o1, o3]
  refine ⟨h.new (.cells 0 70 [.int .u64 t, v] 0 false), Ext.new _ _, by simp, fun hx => iop_new hx hall, fun q hq => ?_⟩
  have g1 : q.get h.n = some (.cells 0 70 [.int .u64 t, v] 0 false) := by rw [hq.2 _ (by simp)]; exact h.get_new _
  simp [H.ldg, H.ld, H.ldn, H.row, g1, getL, cut, entV]

def c0 (xs : List (AV × List UInt8)) : List UInt8 := (xs.headD (.nils, [])).2
def leafB (t : Nat) (c : List UInt8) : List UInt8 := [0, 0] ++ digits t 8 8 ++ [0, 0] ++ (digits c.length 3 3 ++ c) ++ [0, 0]
def leafE (xs : List (AV × List UInt8)) : Int := if mayE xs = true then 0 else 1
def leafX (t : Nat) (xs : List (AV × List UInt8)) : List UInt8 := if mayE xs = true then leafB t (c0 xs) else []

theorem mayE_first {xs : List (AV × List UInt8)} (hm : mayE xs = true) : ∃ p, xs[0]? = some p ∧ c0 xs = p.2 ∧ 1 ≤ p.2.length ∧ p.2.length ≤ 512 ∧ xs.length ≤ 4 := by
  unfold mayE at hm
  simp only [Bool.and_eq_true, decide_eq_true_eq, List.all_eq_true] at hm
  obtain ⟨⟨h1, h4⟩, h2⟩ := hm
  cases xs with
  | nil => simp at h1
  | cons p xs =>
    have := h2 p (by simp)
    simp only [mayC, decide_eq_true_eq] at this
    exact ⟨p, rfl, rfl, this.1, this.2, h4⟩

theorem vecE_small {n : Nat} (hn : n < 65536) {s : Nat} (hs : s = 2 ∨ s = 3) : vecE n (s : Nat) = 0 := by
  have h1 : 1 ≤ (s : Int) ∧ (s : Int) ≤ 3 := by omega
  have h2 : (1 ≤ (s : Int) ∧ (s : Int) ≤ 4 ∨ (s : Int) = 8) := by omega
  have h3 : ¬ 2 ^ (8 * s) ≤ n := by rcases hs with rfl | rfl <;> omega
  unfold vecE
  rw [if_pos h1]
  unfold numE
  rw [if_neg (fun q => q h2), Int.toNat_natCast, if_neg h3]
theorem numE_8 {n : Nat} (hn : n < 2 ^ 64) : numE n 8 = 0 := by
  simp [numE]; omega
theorem numE_2 : numE 0 2 = 0 := by simp [numE]
theorem dig02 : digits 0 2 2 = [0, 0] := by kernel_rfl

set_option maxHeartbeats 2000000 in
theorem timed_run {h : H} {v : AV} {xs : List (AV × List UInt8)} (hc : Ch h v xs) (hlen : xs.length < 2 ^ 62) {t : Nat} (ht : t < 2 ^ 64) : ∃ r h', Runs TF 78 [entV t v] h r h' ∧ ∃ z, r = .tup [z, .int .i64 (leafE xs)] ∧ Ext h h' ∧ Ow h.n h' z (leafX t xs) := by
  refine Runs.ofP f78 rfl ?_
  obtain ⟨H1, X1, n1, enew, Ld⟩ := ent_new hc t
  obtain ⟨r2, H2, c2, rfl, X2⟩ := may_run (hc.ext X1) hlen t
  have hmx : 200000000000000 = maxRow := rfl
  have l2 := Ld H1 (Ext.refl _)
  by_cases hm : mayE xs = true
  rotate_left
  · have hm : mayE xs = false := by simpa using hm
    rw [hm] at c2
    have e1 : leafE xs = 1 := by rw [leafE, hm]; rfl
    have e2 : leafX t xs = [] := by rw [leafX, hm]; rfl
    refine Wp.seq ?_
    refine Wp.region ?_
    refine Wo.val _ _ (by kernel_rfl) (enew (by kernel_rfl)) ?_
    refine Wo.pre 8 (by kernel_rfl) ?_
    refine Wo.nil ?_
    refine Wp.seq ?_
    refine Wp.seq ?_
    refine Wp.region ?_
    refine Wo.val (entV t v) H1 (by kernel_rfl) (iop_ld (a := ⟨h.n, 0, 0⟩) (by kernel_rfl) l2.2.2) ?_
    refine Wo.call (by kernel_rfl) (by kernel_rfl) (c2) ?_
    refine Wo.pre 8 (by kernel_rfl) ?_
    refine Wo.nil ?_
    refine Wp.cond true (by kernel_rfl) ?_
    refine Wp.seq ?_
    refine Wp.region ?_
    refine Wo.pre 8 (by kernel_rfl) ?_
    refine Wo.nil ?_
    refine Wp.ret ⟨.inr rfl, .tup [.nils, .int .i64 1], (by kernel_rfl), .nils, by rw [e1], X1.trans X2, by rw [e2]; exact .inl ⟨rfl, rfl⟩⟩
  rw [hm] at c2
  have eE : leafE xs = 0 := by rw [leafE, hm]; rfl
  have eX : leafX t xs = leafB t (c0 xs) := by rw [leafX, hm]; rfl
  obtain ⟨p, hp, hc0, hp1, hp2, hx4⟩ := mayE_first hm
  rw [eE, eX, hc0]
  obtain ⟨a, q, rfl, hld⟩ := hc.at hp
  have hpB := (hc.el p (List.mem_of_getElem? hp)).1
  have ldp : ∀ k, Ext h k → k.ldg ⟨a.b, a.g, a.o + 0 * 1⟩ none = some p.1 := fun k hk => by
    obtain ⟨a', q', e, hl⟩ := (hc.ext hk).at hp
    simp only [AV.sl.injEq] at e
    obtain ⟨rfl, _, rfl⟩ := e
    exact hl
  have hlt : 0 < xs.length := (List.getElem?_eq_some_iff.1 hp).1
  obtain ⟨H3, hH3⟩ : ∃ H3, H3 = H2.new (.cells 0 5 (bytesAV [0, 0]) 0 false) := ⟨_, rfl⟩
  have X3 : Ext H2 H3 := by rw [hH3]; exact Ext.new _ _
  have lit3 : Ow H2.n H3 (.sl ⟨H2.n, 0, 0⟩ 2 (.ex 2)) [0, 0] := by rw [hH3]; exact Ow.lit H2 [0, 0]
  have eH3 : ∀ ts, iop (.bsl 5 [.int .u8 0, .int .u8 0] 2 [(0, 1, .c (.int .u8 0)), (1, 1, .c (.int .u8 0))]) (ev ts) H2 = some (.val (.sl ⟨H2.n, 0, 0⟩ 2 (.ex 2)) H3) := fun ts => by rw [hH3]; kernel_rfl
  obtain ⟨z4, H4, c4, X4, o4⟩ := number_run lit3.bs (by simp; omega) ht 8
  rw [if_pos (numE_8 ht)] at o4
  obtain ⟨z5, H5, c5, X5, o5⟩ := number_run o4.bs (by simp [digits_len]; omega) (n := 0) (by omega) 2
  rw [if_pos numE_2] at o5
  obtain ⟨r6, H6, c6, z6, rfl, X6, o6⟩ := wvec_any o5.bs (((((hpB.ext X1).ext X2).ext X3).ext X4).ext X5) (3 : Nat) (by simp [digits_len]; omega) (by omega)
  rw [vecE_small (by omega) (.inr rfl)] at c6
  rw [if_pos (vecE_small (by omega) (.inr rfl))] at o6
  obtain ⟨r7, H7, c7, z7, rfl, X7, o7⟩ := wvec_any o6.bs (y := .nils) (ly := []) (.inl ⟨rfl, rfl⟩) (2 : Nat) (by simp [digits_len]; omega) (by simp)
  rw [vecE_small (by simp) (.inl rfl)] at c7
  rw [if_pos (vecE_small (by simp) (.inl rfl))] at o7
  have l3 := Ld H3 (X2.trans X3)
  have l5 := Ld H5 (((X2.trans X3).trans X4).trans X5)
  have hld5 := ldp H5 ((((X1.trans X2).trans X3).trans X4).trans X5)
  refine Wp.seq ?_
  refine Wp.region ?_
  refine Wo.val _ _ (by kernel_rfl) (enew (by kernel_rfl)) ?_
  refine Wo.pre 8 (by kernel_rfl) ?_
  refine Wo.nil ?_
  refine Wp.seq ?_
  refine Wp.seq ?_
  refine Wp.region ?_
  refine Wo.val (entV t (.sl a xs.length q)) H1 (by kernel_rfl) (iop_ld (a := ⟨h.n, 0, 0⟩) (by kernel_rfl) l2.2.2) ?_
  refine Wo.call (by kernel_rfl) (by kernel_rfl) (c2) ?_
  refine Wo.pre 8 (by kernel_rfl) ?_
  refine Wo.nil ?_
  refine Wp.cond false (by kernel_rfl) ?_
  refine Wp.skip ?_
  refine Wp.seq ?_
  refine Wp.region ?_
  refine Wo.val _ _ (by kernel_rfl) (eH3 _) ?_
  refine Wo.pre 1 (by kernel_rfl) ?_
  refine Wo.val (.int .u64 t) H3 (by kernel_rfl) (iop_ld (a := ⟨h.n, 0, 0⟩) (by kernel_rfl) l3.1) ?_
  refine Wo.call (by kernel_rfl) (by kernel_rfl) (c4) ?_
  refine Wo.pre 8 (by kernel_rfl) ?_
  refine Wo.nil ?_
  refine Wp.seq ?_
  refine Wp.region ?_
  refine Wo.pre 1 (by kernel_rfl) ?_
  refine Wo.call (by kernel_rfl) (by kernel_rfl) (c5) ?_
  refine Wo.pre 8 (by kernel_rfl) ?_
  refine Wo.nil ?_
  refine Wp.seq ?_
  refine Wp.region ?_
  refine Wo.pre 1 (by kernel_rfl) ?_
  refine Wo.pre 1 (by kernel_rfl) ?_
  refine Wo.val (.sl a xs.length q) H5 (by kernel_rfl) (iop_ld (a := ⟨h.n, 0, 1⟩) (by kernel_rfl) l5.2.1) ?_
  refine Wo.val _ H5 (by kernel_rfl) (iop_ia (a := a) (n := xs.length) (c := q) (i := 0) (by kernel_rfl) (by kernel_rfl) hlt) ?_
  refine Wo.val p.1 H5 (by kernel_rfl) (iop_ld (a := ⟨a.b, a.g, a.o + 0 * 1⟩) (by kernel_rfl) hld5) ?_
  refine Wo.call (by kernel_rfl) (by kernel_rfl) (c6) ?_
  refine Wo.pre 8 (by kernel_rfl) ?_
  refine Wo.nil ?_
  refine Wp.seq ?_
  refine Wp.seq ?_
  refine Wp.region ?_
  refine Wo.pre 8 (by kernel_rfl) ?_
  refine Wo.nil ?_
  refine Wp.cond false (by kernel_rfl) ?_
  refine Wp.skip ?_
  refine Wp.seq ?_
  refine Wp.region ?_
  refine Wo.pre 1 (by kernel_rfl) ?_
  refine Wo.call (by kernel_rfl) (by kernel_rfl) (c7) ?_
  refine Wo.pre 8 (by kernel_rfl) ?_
  refine Wo.nil ?_
  have e : [0, 0] ++ digits t 8 (8 : Int).toNat ++ digits 0 2 (2 : Int).toNat ++ digits p.2.length ((3 : Nat) : Int).toNat ((3 : Nat) : Int).toNat ++ p.2 ++ digits ([] : List UInt8).length ((2 : Nat) : Int).toNat ((2 : Nat) : Int).toNat ++ [] = leafB t p.2 := by
    show [0, 0] ++ digits t 8 8 ++ digits 0 2 2 ++ digits p.2.length 3 3 ++ p.2 ++ digits 0 2 2 ++ [] = _
    rw [dig02]
    simp [leafB]
  refine Wp.ret ⟨.inr rfl, .tup [z7, .int .i64 0], (by kernel_rfl), z7, rfl, (((((X1.trans X2).trans X3).trans X4).trans X5).trans X6).trans X7, ?_⟩
  have o7' := o7.mono (lo' := h.n) (by have := X1.1; have := X2.1; have := X3.1; have := X4.1; have := X5.1; have := X6.1; omega)
  rw [← e]
  simpa using o7'

theorem leaf_run {h : H} {v : AV} {xs : List (AV × List UInt8)} (hc : Ch h v xs) (hlen : xs.length < 2 ^ 62) {t : Nat} (ht : t < 2 ^ 64) : ∃ r h', Runs TF 38 [entV t v] h r h' ∧ ∃ z, r = .tup [z, .int .i64 (leafE xs)] ∧ Ext h h' ∧ Ow h.n h' z (leafX t xs) := by
  refine Runs.ofP f38 rfl ?_
  obtain ⟨H1, X1, n1, enew, Ld⟩ := ent_new hc t
  obtain ⟨r2, H2, c2, z, rfl, X2, o2⟩ := timed_run (hc.ext X1) hlen ht
  refine Wp.seq ?_
  refine Wp.region ?_
  refine Wo.val _ _ (by kernel_rfl) (enew (by kernel_rfl)) ?_
  refine Wo.pre 8 (by kernel_rfl) ?_
  refine Wo.nil ?_
  refine Wp.seq ?_
  refine Wp.region ?_
  refine Wo.val (entV t v) H1 (by kernel_rfl) (iop_ld (a := ⟨h.n, 0, 0⟩) (by kernel_rfl) (Ld H1 (Ext.refl _)).2.2) ?_
  refine Wo.call (by kernel_rfl) (by kernel_rfl) (c2) ?_
  refine Wo.pre 8 (by kernel_rfl) ?_
  refine Wo.nil ?_
  exact Wp.ret ⟨.inr rfl, .tup [z, .int .i64 (leafE xs)], (by kernel_rfl), z, rfl, X1.trans X2, o2.mono X1.1⟩

theorem sct_run {h : H} {v : AV} {xs : List (AV × List UInt8)} (hc : Ch h v xs) (hlen : xs.length < 2 ^ 62) {t : Nat} (ht : t < 2 ^ 64) : ∃ r h', Runs TF 39 [entV t v] h r h' ∧ ∃ z, r = .tup [z, .int .i64 (leafE xs)] ∧ Ext h h' ∧ Ow h.n h' z (leafX t xs) := by
  refine Runs.ofP f39 rfl ?_
  obtain ⟨H1, X1, n1, enew, Ld⟩ := ent_new hc t
  obtain ⟨r2, H2, c2, z, rfl, X2, o2⟩ := timed_run (hc.ext X1) hlen ht
  refine Wp.seq ?_
  refine Wp.region ?_
  refine Wo.val _ _ (by kernel_rfl) (enew (by kernel_rfl)) ?_
  refine Wo.pre 8 (by kernel_rfl) ?_
  refine Wo.nil ?_
  refine Wp.seq ?_
  refine Wp.region ?_
  refine Wo.val (entV t v) H1 (by kernel_rfl) (iop_ld (a := ⟨h.n, 0, 0⟩) (by kernel_rfl) (Ld H1 (Ext.refl _)).2.2) ?_
  refine Wo.call (by kernel_rfl) (by kernel_rfl) (c2) ?_
  refine Wo.pre 8 (by kernel_rfl) ?_
  refine Wo.nil ?_
  exact Wp.ret ⟨.inr rfl, .tup [z, .int .i64 (leafE xs)], (by kernel_rfl), z, rfl, X1.trans X2, o2.mono X1.1⟩
end Go.Det

/- Entries: the reference's leaves, what is signed. -/
set_option linter.unusedVariables false
set_option linter.unusedSimpArgs false
set_option linter.unusedSectionVars false
namespace Go.Det
open Go.Proofs
attribute [local irreducible] Wp Wo Wd iop ev slots quiets wanted put

set_option maxHeartbeats 2000000 in
theorem rleaf_run {h : H} {v : AV} {xs : List (AV × List UInt8)} (hc : Ch h v xs) (hlen : xs.length < 2 ^ 62) {t : Nat} (ht : t < 2 ^ 64) : ∃ r h', Runs TF 41 [entV t v] h r h' ∧ ∃ z, r = .tup [z, .int .i64 (leafE xs)] ∧ Ext h h' ∧ Ow h.n h' z (leafX t xs) := by
  refine Runs.ofP f41 rfl ?_
  obtain ⟨H1, X1, n1, enew, Ld⟩ := ent_new hc t
  obtain ⟨r2, H2, c2, rfl, X2⟩ := rmay_run (hc.ext X1) hlen t
  have hmx : 200000000000000 = maxRow := rfl
  have l2 := Ld H1 (Ext.refl _)
  by_cases hm : mayE xs = true
  rotate_left
  · have hm : mayE xs = false := by simpa using hm
    rw [hm] at c2
    have e1 : leafE xs = 1 := by rw [leafE, hm]; rfl
    have e2 : leafX t xs = [] := by rw [leafX, hm]; rfl
    refine Wp.seq ?_
    refine Wp.region ?_
    refine Wo.val _ _ (by kernel_rfl) (enew (by kernel_rfl)) ?_
    refine Wo.pre 8 (by kernel_rfl) ?_
    refine Wo.nil ?_
    refine Wp.seq ?_
    refine Wp.seq ?_
    refine Wp.region ?_
    refine Wo.val (entV t v) H1 (by kernel_rfl) (iop_ld (a := ⟨h.n, 0, 0⟩) (by kernel_rfl) l2.2.2) ?_
    refine Wo.call (by kernel_rfl) (by kernel_rfl) (c2) ?_
    refine Wo.pre 8 (by kernel_rfl) ?_
    refine Wo.nil ?_
    refine Wp.cond true (by kernel_rfl) ?_
    refine Wp.seq ?_
    refine Wp.region ?_
    refine Wo.pre 8 (by kernel_rfl) ?_
    refine Wo.nil ?_
    refine Wp.ret ⟨.inr rfl, .tup [.nils, .int .i64 1], (by kernel_rfl), .nils, by rw [e1], X1.trans X2, by rw [e2]; exact .inl ⟨rfl, rfl⟩⟩
  rw [hm] at c2
  have eE : leafE xs = 0 := by rw [leafE, hm]; rfl
  have eX : leafX t xs = leafB t (c0 xs) := by rw [leafX, hm]; rfl
  obtain ⟨p, hp, hc0, hp1, hp2, hx4⟩ := mayE_first hm
  rw [eE, eX, hc0]
  obtain ⟨a, q, rfl, hld⟩ := hc.at hp
  have hpB := (hc.el p (List.mem_of_getElem? hp)).1
  have ldp : ∀ k, Ext h k → k.ldg ⟨a.b, a.g, a.o + 0 * 1⟩ none = some p.1 := fun k hk => by
    obtain ⟨a', q', e, hl⟩ := (hc.ext hk).at hp
    simp only [AV.sl.injEq] at e
    obtain ⟨rfl, _, rfl⟩ := e
    exact hl
  have hlt : 0 < xs.length := (List.getElem?_eq_some_iff.1 hp).1
  obtain ⟨H3, hH3⟩ : ∃ H3, H3 = H2.new (.cells 0 5 (bytesAV [0, 0]) 0 false) := ⟨_, rfl⟩
  have X3 : Ext H2 H3 := by rw [hH3]; exact Ext.new _ _
  have lit3 : Ow H2.n H3 (.sl ⟨H2.n, 0, 0⟩ 2 (.ex 2)) [0, 0] := by rw [hH3]; exact Ow.lit H2 [0, 0]
  have eH3 : ∀ ts, iop (.bsl 5 [.int .u8 0, .int .u8 0] 2 [(0, 1, .c (.int .u8 0)), (1, 1, .c (.int .u8 0))]) (ev ts) H2 = some (.val (.sl ⟨H2.n, 0, 0⟩ 2 (.ex 2)) H3) := fun ts => by rw [hH3]; kernel_rfl
  have m1 := X1.1
  have m2 := X2.1
  have m3 := X3.1
  obtain ⟨y4, H4, c4, X4, o4⟩ := rnumq_run (h := H3) ht 8
  rw [if_pos (numE_8 ht)] at o4
  have m4 := X4.1
  have lit3' : Ow H1.n H4 (.sl ⟨H2.n, 0, 0⟩ 2 (.ex 2)) [0, 0] := (lit3.mono m2).ext X4
  obtain ⟨z4, G4, a4, w4, Y4, _⟩ := lit3'.app o4.bs (by omega) (by simp [digits_len]; omega)
  have E4 : Ext H1 G4 := ((X2.trans X3).trans X4).then2 Y4
  have k4 := E4.1
  obtain ⟨H5, hH5⟩ : ∃ H5, H5 = G4.new (.cells 0 5 (bytesAV [0, 0]) 0 false) := ⟨_, rfl⟩
  have X5 : Ext G4 H5 := by rw [hH5]; exact Ext.new _ _
  have lit5 : Ow G4.n H5 (.sl ⟨G4.n, 0, 0⟩ 2 (.ex 2)) [0, 0] := by rw [hH5]; exact Ow.lit G4 [0, 0]
  have eH5 : ∀ ts, iop (.bsl 5 [.int .u8 0, .int .u8 0] 2 [(0, 1, .c (.int .u8 0)), (1, 1, .c (.int .u8 0))]) (ev ts) G4 = some (.val (.sl ⟨G4.n, 0, 0⟩ 2 (.ex 2)) H5) := fun ts => by rw [hH5]; kernel_rfl
  have m5 := X5.1
  obtain ⟨z5, G5, a5, w5, Y5, _⟩ := (w4.ext X5).app lit5.bs (by omega) (by simp [digits_len]; omega)
  have E5 : Ext H1 G5 := (E4.trans X5).then2 Y5
  have k5 := E5.1
  obtain ⟨y6, H6, c6, X6, o6⟩ := rvecq_run (h := G5) ((hpB.ext X1).ext E5) (3 : Nat) (by omega)
  rw [if_pos (vecE_small (by omega) (.inr rfl))] at o6
  have m6 := X6.1
  obtain ⟨z6, G6, a6, w6, Y6, _⟩ := (w5.ext X6).app o6.bs (by omega) (by simp [digits_len]; omega)
  have E6 : Ext H1 G6 := (E5.trans X6).then2 Y6
  have k6 := E6.1
  obtain ⟨H7, hH7⟩ : ∃ H7, H7 = G6.new (.cells 0 5 (bytesAV [0, 0]) 0 false) := ⟨_, rfl⟩
  have X7 : Ext G6 H7 := by rw [hH7]; exact Ext.new _ _
  have lit7 : Ow G6.n H7 (.sl ⟨G6.n, 0, 0⟩ 2 (.ex 2)) [0, 0] := by rw [hH7]; exact Ow.lit G6 [0, 0]
  have eH7 : ∀ ts, iop (.bsl 5 [.int .u8 0, .int .u8 0] 2 [(0, 1, .c (.int .u8 0)), (1, 1, .c (.int .u8 0))]) (ev ts) G6 = some (.val (.sl ⟨G6.n, 0, 0⟩ 2 (.ex 2)) H7) := fun ts => by rw [hH7]; kernel_rfl
  have m7 := X7.1
  obtain ⟨z7, G7, a7, w7, Y7, _⟩ := (w6.ext X7).app lit7.bs (by omega) (by simp [digits_len]; omega)
  have E7 : Ext H1 G7 := (E6.trans X7).then2 Y7
  have l3 := Ld H3 (X2.trans X3)
  have l5 := Ld G5 E5
  have hld5 := ldp G5 (X1.trans E5)
  refine Wp.seq ?_
  refine Wp.region ?_
  refine Wo.val _ _ (by kernel_rfl) (enew (by kernel_rfl)) ?_
  refine Wo.pre 8 (by kernel_rfl) ?_
  refine Wo.nil ?_
  refine Wp.seq ?_
  refine Wp.seq ?_
  refine Wp.region ?_
  refine Wo.val (entV t (.sl a xs.length q)) H1 (by kernel_rfl) (iop_ld (a := ⟨h.n, 0, 0⟩) (by kernel_rfl) l2.2.2) ?_
  refine Wo.call (by kernel_rfl) (by kernel_rfl) (c2) ?_
  refine Wo.pre 8 (by kernel_rfl) ?_
  refine Wo.nil ?_
  refine Wp.cond false (by kernel_rfl) ?_
  refine Wp.skip ?_
  refine Wp.seq ?_
  refine Wp.region ?_
  refine Wo.val _ _ (by kernel_rfl) (eH3 _) ?_
  refine Wo.pre 8 (by kernel_rfl) ?_
  refine Wo.nil ?_
  refine Wp.seq ?_
  refine Wp.region ?_
  refine Wo.pre 1 (by kernel_rfl) ?_
  refine Wo.pre 1 (by kernel_rfl) ?_
  refine Wo.val (.int .u64 t) H3 (by kernel_rfl) (iop_ld (a := ⟨h.n, 0, 0⟩) (by kernel_rfl) l3.1) ?_
  refine Wo.call (by kernel_rfl) (by kernel_rfl) (c4) ?_
  refine Wo.val z4 G4 (by kernel_rfl) (iop_app (v := .sl ⟨H2.n, 0, 0⟩ 2 (.ex 2)) (w := y4) (by kernel_rfl) (by kernel_rfl) o4.bs.parts.2.2 a4) ?_
  refine Wo.pre 8 (by kernel_rfl) ?_
  refine Wo.nil ?_
  refine Wp.seq ?_
  refine Wp.region ?_
  refine Wo.pre 1 (by kernel_rfl) ?_
  refine Wo.val _ _ (by kernel_rfl) (eH5 _) ?_
  refine Wo.val z5 G5 (by kernel_rfl) (iop_app (v := z4) (w := .sl ⟨G4.n, 0, 0⟩ 2 (.ex 2)) (by kernel_rfl) (by kernel_rfl) rfl a5) ?_
  refine Wo.pre 8 (by kernel_rfl) ?_
  refine Wo.nil ?_
  refine Wp.seq ?_
  refine Wp.region ?_
  refine Wo.pre 1 (by kernel_rfl) ?_
  refine Wo.pre 1 (by kernel_rfl) ?_
  refine Wo.val (.sl a xs.length q) G5 (by kernel_rfl) (iop_ld (a := ⟨h.n, 0, 1⟩) (by kernel_rfl) l5.2.1) ?_
  refine Wo.val _ G5 (by kernel_rfl) (iop_ia (a := a) (n := xs.length) (c := q) (i := 0) (by kernel_rfl) (by kernel_rfl) hlt) ?_
  refine Wo.val p.1 G5 (by kernel_rfl) (iop_ld (a := ⟨a.b, a.g, a.o + 0 * 1⟩) (by kernel_rfl) hld5) ?_
  refine Wo.call (by kernel_rfl) (by kernel_rfl) (c6) ?_
  refine Wo.val z6 G6 (by kernel_rfl) (iop_app (v := z5) (w := y6) (by kernel_rfl) (by kernel_rfl) o6.bs.parts.2.2 a6) ?_
  refine Wo.pre 8 (by kernel_rfl) ?_
  refine Wo.nil ?_
  refine Wp.seq ?_
  refine Wp.region ?_
  refine Wo.pre 1 (by kernel_rfl) ?_
  refine Wo.val _ _ (by kernel_rfl) (eH7 _) ?_
  refine Wo.val z7 G7 (by kernel_rfl) (iop_app (v := z6) (w := .sl ⟨G6.n, 0, 0⟩ 2 (.ex 2)) (by kernel_rfl) (by kernel_rfl) lit7.bs.parts.2.2 a7) ?_
  refine Wo.pre 8 (by kernel_rfl) ?_
  refine Wo.nil ?_
  have e : [0, 0] ++ digits t 8 (8 : Int).toNat ++ [0, 0] ++ (digits p.2.length ((3 : Nat) : Int).toNat ((3 : Nat) : Int).toNat ++ p.2) ++ [0, 0] = leafB t p.2 := rfl
  refine Wp.ret ⟨.inr rfl, .tup [z7, .int .i64 0], (by kernel_rfl), z7, rfl, X1.trans E7, ?_⟩
  rw [← e]
  exact w7.mono m1

set_option maxHeartbeats 2000000 in
theorem rsct_run {h : H} {v : AV} {xs : List (AV × List UInt8)} (hc : Ch h v xs) (hlen : xs.length < 2 ^ 62) {t : Nat} (ht : t < 2 ^ 64) : ∃ r h', Runs TF 46 [entV t v] h r h' ∧ ∃ z, r = .tup [z, .int .i64 (leafE xs)] ∧ Ext h h' ∧ Ow h.n h' z (leafX t xs) := by
  refine Runs.ofP f46 rfl ?_
  obtain ⟨H1, X1, n1, enew, Ld⟩ := ent_new hc t
  obtain ⟨r2, H2, c2, rfl, X2⟩ := rmay_run (hc.ext X1) hlen t
  have hmx : 200000000000000 = maxRow := rfl
  have l2 := Ld H1 (Ext.refl _)
  by_cases hm : mayE xs = true
  rotate_left
  · have hm : mayE xs = false := by simpa using hm
    rw [hm] at c2
    have e1 : leafE xs = 1 := by rw [leafE, hm]; rfl
    have e2 : leafX t xs = [] := by rw [leafX, hm]; rfl
    refine Wp.seq ?_
    refine Wp.region ?_
    refine Wo.val _ _ (by kernel_rfl) (enew (by kernel_rfl)) ?_
    refine Wo.pre 8 (by kernel_rfl) ?_
    refine Wo.nil ?_
    refine Wp.seq ?_
    refine Wp.seq ?_
    refine Wp.region ?_
    refine Wo.val (entV t v) H1 (by kernel_rfl) (iop_ld (a := ⟨h.n, 0, 0⟩) (by kernel_rfl) l2.2.2) ?_
    refine Wo.call (by kernel_rfl) (by kernel_rfl) (c2) ?_
    refine Wo.pre 8 (by kernel_rfl) ?_
    refine Wo.nil ?_
    refine Wp.cond true (by kernel_rfl) ?_
    refine Wp.seq ?_
    refine Wp.region ?_
    refine Wo.pre 8 (by kernel_rfl) ?_
    refine Wo.nil ?_
    refine Wp.ret ⟨.inr rfl, .tup [.nils, .int .i64 1], (by kernel_rfl), .nils, by rw [e1], X1.trans X2, by rw [e2]; exact .inl ⟨rfl, rfl⟩⟩
  rw [hm] at c2
  have eE : leafE xs = 0 := by rw [leafE, hm]; rfl
  have eX : leafX t xs = leafB t (c0 xs) := by rw [leafX, hm]; rfl
  obtain ⟨p, hp, hc0, hp1, hp2, hx4⟩ := mayE_first hm
  rw [eE, eX, hc0]
  obtain ⟨a, q, rfl, hld⟩ := hc.at hp
  have hpB := (hc.el p (List.mem_of_getElem? hp)).1
  have ldp : ∀ k, Ext h k → k.ldg ⟨a.b, a.g, a.o + 0 * 1⟩ none = some p.1 := fun k hk => by
    obtain ⟨a', q', e, hl⟩ := (hc.ext hk).at hp
    simp only [AV.sl.injEq] at e
    obtain ⟨rfl, _, rfl⟩ := e
    exact hl
  have hlt : 0 < xs.length := (List.getElem?_eq_some_iff.1 hp).1
  obtain ⟨H3, hH3⟩ : ∃ H3, H3 = H2.new (.cells 0 5 (bytesAV [0, 0]) 0 false) := ⟨_, rfl⟩
  have X3 : Ext H2 H3 := by rw [hH3]; exact Ext.new _ _
  have lit3 : Ow H2.n H3 (.sl ⟨H2.n, 0, 0⟩ 2 (.ex 2)) [0, 0] := by rw [hH3]; exact Ow.lit H2 [0, 0]
  have eH3 : ∀ ts, iop (.bsl 5 [.int .u8 0, .int .u8 0] 2 [(0, 1, .c (.int .u8 0)), (1, 1, .c (.int .u8 0))]) (ev ts) H2 = some (.val (.sl ⟨H2.n, 0, 0⟩ 2 (.ex 2)) H3) := fun ts => by rw [hH3]; kernel_rfl
  have m1 := X1.1
  have m2 := X2.1
  have m3 := X3.1
  obtain ⟨y4, H4, c4, X4, o4⟩ := rnumq_run (h := H3) ht 8
  rw [if_pos (numE_8 ht)] at o4
  have m4 := X4.1
  have lit3' : Ow H1.n H4 (.sl ⟨H2.n, 0, 0⟩ 2 (.ex 2)) [0, 0] := (lit3.mono m2).ext X4
  obtain ⟨z4, G4, a4, w4, Y4, _⟩ := lit3'.app o4.bs (by omega) (by simp [digits_len]; omega)
  have E4 : Ext H1 G4 := ((X2.trans X3).trans X4).then2 Y4
  have k4 := E4.1
  obtain ⟨H5, hH5⟩ : ∃ H5, H5 = G4.new (.cells 0 5 (bytesAV [0, 0]) 0 false) := ⟨_, rfl⟩
  have X5 : Ext G4 H5 := by rw [hH5]; exact Ext.new _ _
  have lit5 : Ow G4.n H5 (.sl ⟨G4.n, 0, 0⟩ 2 (.ex 2)) [0, 0] := by rw [hH5]; exact Ow.lit G4 [0, 0]
  have eH5 : ∀ ts, iop (.bsl 5 [.int .u8 0, .int .u8 0] 2 [(0, 1, .c (.int .u8 0)), (1, 1, .c (.int .u8 0))]) (ev ts) G4 = some (.val (.sl ⟨G4.n, 0, 0⟩ 2 (.ex 2)) H5) := fun ts => by rw [hH5]; kernel_rfl
  have m5 := X5.1
  obtain ⟨z5, G5, a5, w5, Y5, _⟩ := (w4.ext X5).app lit5.bs (by omega) (by simp [digits_len]; omega)
  have E5 : Ext H1 G5 := (E4.trans X5).then2 Y5
  have k5 := E5.1
  obtain ⟨y6, H6, c6, X6, o6⟩ := rvecq_run (h := G5) ((hpB.ext X1).ext E5) (3 : Nat) (by omega)
  rw [if_pos (vecE_small (by omega) (.inr rfl))] at o6
  have m6 := X6.1
  obtain ⟨z6, G6, a6, w6, Y6, _⟩ := (w5.ext X6).app o6.bs (by omega) (by simp [digits_len]; omega)
  have E6 : Ext H1 G6 := (E5.trans X6).then2 Y6
  have k6 := E6.1
  obtain ⟨y7, H7, c7, X7, lit7⟩ := rvecq_run (h := G6) (y := .nils) (ly := []) (.inl ⟨rfl, rfl⟩) (2 : Nat) (by simp)
  rw [if_pos (vecE_small (by simp) (.inl rfl))] at lit7
  have e02 : digits ([] : List UInt8).length ((2 : Nat) : Int).toNat ((2 : Nat) : Int).toNat ++ [] = [0, 0] := by
    show digits 0 2 2 ++ [] = [0, 0]
    rw [dig02]; rfl
  rw [e02] at lit7
  have m7 := X7.1
  obtain ⟨z7, G7, a7, w7, Y7, _⟩ := (w6.ext X7).app lit7.bs (by omega) (by simp [digits_len]; omega)
  have E7 : Ext H1 G7 := (E6.trans X7).then2 Y7
  have l3 := Ld H3 (X2.trans X3)
  have l5 := Ld G5 E5
  have hld5 := ldp G5 (X1.trans E5)
  refine Wp.seq ?_
  refine Wp.region ?_
  refine Wo.val _ _ (by kernel_rfl) (enew (by kernel_rfl)) ?_
  refine Wo.pre 8 (by kernel_rfl) ?_
  refine Wo.nil ?_
  refine Wp.seq ?_
  refine Wp.seq ?_
  refine Wp.region ?_
  refine Wo.val (entV t (.sl a xs.length q)) H1 (by kernel_rfl) (iop_ld (a := ⟨h.n, 0, 0⟩) (by kernel_rfl) l2.2.2) ?_
  refine Wo.call (by kernel_rfl) (by kernel_rfl) (c2) ?_
  refine Wo.pre 8 (by kernel_rfl) ?_
  refine Wo.nil ?_
  refine Wp.cond false (by kernel_rfl) ?_
  refine Wp.skip ?_
  refine Wp.seq ?_
  refine Wp.region ?_
  refine Wo.val _ _ (by kernel_rfl) (eH3 _) ?_
  refine Wo.pre 8 (by kernel_rfl) ?_
  refine Wo.nil ?_
  refine Wp.seq ?_
  refine Wp.region ?_
  refine Wo.pre 1 (by kernel_rfl) ?_
  refine Wo.pre 1 (by kernel_rfl) ?_
  refine Wo.val (.int .u64 t) H3 (by kernel_rfl) (iop_ld (a := ⟨h.n, 0, 0⟩) (by kernel_rfl) l3.1) ?_
  refine Wo.call (by kernel_rfl) (by kernel_rfl) (c4) ?_
  refine Wo.val z4 G4 (by kernel_rfl) (iop_app (v := .sl ⟨H2.n, 0, 0⟩ 2 (.ex 2)) (w := y4) (by kernel_rfl) (by kernel_rfl) o4.bs.parts.2.2 a4) ?_
  refine Wo.pre 8 (by kernel_rfl) ?_
  refine Wo.nil ?_
  refine Wp.seq ?_
  refine Wp.region ?_
  refine Wo.pre 1 (by kernel_rfl) ?_
  refine Wo.val _ _ (by kernel_rfl) (eH5 _) ?_
  refine Wo.val z5 G5 (by kernel_rfl) (iop_app (v := z4) (w := .sl ⟨G4.n, 0, 0⟩ 2 (.ex 2)) (by kernel_rfl) (by kernel_rfl) rfl a5) ?_
  refine Wo.pre 8 (by kernel_rfl) ?_
  refine Wo.nil ?_
  refine Wp.seq ?_
  refine Wp.region ?_
  refine Wo.pre 1 (by kernel_rfl) ?_
  refine Wo.pre 1 (by kernel_rfl) ?_
  refine Wo.val (.sl a xs.length q) G5 (by kernel_rfl) (iop_ld (a := ⟨h.n, 0, 1⟩) (by kernel_rfl) l5.2.1) ?_
  refine Wo.val _ G5 (by kernel_rfl) (iop_ia (a := a) (n := xs.length) (c := q) (i := 0) (by kernel_rfl) (by kernel_rfl) hlt) ?_
  refine Wo.val p.1 G5 (by kernel_rfl) (iop_ld (a := ⟨a.b, a.g, a.o + 0 * 1⟩) (by kernel_rfl) hld5) ?_
  refine Wo.call (by kernel_rfl) (by kernel_rfl) (c6) ?_
  refine Wo.val z6 G6 (by kernel_rfl) (iop_app (v := z5) (w := y6) (by kernel_rfl) (by kernel_rfl) o6.bs.parts.2.2 a6) ?_
  refine Wo.pre 8 (by kernel_rfl) ?_
  refine Wo.nil ?_
  refine Wp.seq ?_
  refine Wp.region ?_
  refine Wo.pre 1 (by kernel_rfl) ?_
  refine Wo.call (by kernel_rfl) (by kernel_rfl) (c7) ?_
  refine Wo.val z7 G7 (by kernel_rfl) (iop_app (v := z6) (w := y7) (by kernel_rfl) (by kernel_rfl) lit7.bs.parts.2.2 a7) ?_
  refine Wo.pre 8 (by kernel_rfl) ?_
  refine Wo.nil ?_
  have e : [0, 0] ++ digits t 8 (8 : Int).toNat ++ [0, 0] ++ (digits p.2.length ((3 : Nat) : Int).toNat ((3 : Nat) : Int).toNat ++ p.2) ++ [0, 0] = leafB t p.2 := rfl
  refine Wp.ret ⟨.inr rfl, .tup [z7, .int .i64 0], (by kernel_rfl), z7, rfl, X1.trans E7, ?_⟩
  rw [← e]
  exact w7.mono m1
end Go.Det

/- Entries: lists of certificates. -/
set_option linter.unusedVariables false
set_option linter.unusedSimpArgs false
set_option linter.unusedSectionVars false
namespace Go.Det
open Go.Proofs
attribute [local irreducible] Wp Wo Wd iop ev slots quiets wanted put

def certB (c : List UInt8) : List UInt8 := digits c.length 3 3 ++ c
def inner (xs : List (AV × List UInt8)) : List UInt8 := (xs.map fun p => certB p.2).flatten
def listB (xs : List (AV × List UInt8)) : List UInt8 := digits (inner xs).length 3 3 ++ inner xs
def Small (xs : List (AV × List UInt8)) : Prop := xs.length ≤ 4 ∧ ∀ p ∈ xs, p.2.length ≤ 512

theorem inner_snoc (xs : List (AV × List UInt8)) (p : AV × List UInt8) : inner (xs ++ [p]) = inner xs ++ certB p.2 := by simp [inner]
theorem inner_len : ∀ (xs : List (AV × List UInt8)), (∀ p ∈ xs, p.2.length ≤ 512) → (inner xs).length ≤ 515 * xs.length
  | [], _ => by simp [inner]
  | p :: xs, h => by
    have h1 := inner_len xs (fun q hq => h q (by simp [hq]))
    have h2 := h p (by simp)
    have : inner (p :: xs) = certB p.2 ++ inner xs := by simp [inner]
    rw [this, List.length_append]
    simp only [certB, List.length_append, digits_len, List.length_cons]
    omega
theorem take_step {α : Type} {xs : List α} {i : Nat} {p : α} (hp : xs[i]? = some p) : xs.take (i + 1) = xs.take i ++ [p] := by rw [List.take_add_one, hp]; rfl

set_option maxHeartbeats 1000000 in
theorem rlist_loop {h0 : H} {v : AV} {xs : List (AV × List UInt8)} (hc : Ch h0 v xs) (hs : Small xs) :
    ∀ (k i : Nat), i + k = xs.length → ∀ (h : H) (inV : AV) (ts : List AV), Ext h0 h → Ow h0.n h inV (inner (xs.take i)) → ts.length = 20 → getL ts 0 = some v → getL ts 3 = some inV → getL ts 4 = some (.int .i64 i) →
      ∀ (Q : Ex → St → Prop), (∀ ts' h' inV, ts'.length = 20 → Ext h0 h' → Ow h0.n h' inV (inner xs) → getL ts' 3 = some inV → Q (.exit 0) (ts', h')) → Wp TF (.loop l81_1) (ts, h) Q := by
  have hmx : 200000000000000 = maxRow := rfl
  intro k
  induction k with
  | zero =>
    intro i hi h inV ts hE hO t0 ta t3 t4 Q hQ
    obtain rfl : i = xs.length := by omega
    rw [List.take_length] at hO
    refine Wp.loop ?_
    rw [laid_eq t0 [(0, v), (3, inV), (4, .int .i64 xs.length)] (by simp [ta, t3, t4])]
    unfold l81_1
    refine Wp.seq ?_
    refine Wp.seq ?_
    refine Wp.region ?_
    refine Wo.pre 1 (by kernel_rfl) ?_
    refine Wo.pre 1 (by kernel_rfl) ?_
    refine Wo.val (.int .i64 xs.length) h (by kernel_rfl) (iop_lenS (v := v) (by kernel_rfl) hc.lenS) ?_
    refine Wo.val (.bool false) h (by kernel_rfl) (iop_cmp (op := .lss) (k := .i64) (a := xs.length) (b := xs.length) false (by kernel_rfl) (by kernel_rfl) (by simp) (by simp [binInt])) ?_
    refine Wo.nil ?_
    refine Wp.cond false (by kernel_rfl) ?_
    exact Wp.exit (hQ _ _ inV (by kernel_rfl) hE hO (by kernel_rfl))
  | succ k ih =>
    intro i hi h inV ts hE hO t0 ta t3 t4 Q hQ
    have hlt : i < xs.length := by omega
    obtain ⟨p, hp⟩ : ∃ p, xs[i]? = some p := ⟨xs[i], List.getElem?_eq_getElem hlt⟩
    have hps := hs.2 p (List.mem_of_getElem? hp)
    have hB := ((hc.el p (List.mem_of_getElem? hp)).1).ext hE
    have hls := hc.lenS
    obtain ⟨a, q, rfl, hld⟩ := (hc.ext hE).at hp
    have wi : IntKind.i64.wrap ((i : Int) + 1) = ((i + 1 : Nat) : Int) := by rw [i64_fit _ (by have := hs.1; omega)]; omega
    have hil : (inner (xs.take i)).length ≤ 515 * 4 := by
      have := inner_len (xs.take i) (fun q hq => hs.2 q (List.mem_of_mem_take hq))
      have h2 : (xs.take i).length ≤ 4 := by rw [List.length_take]; have := hs.1; omega
      omega
    obtain ⟨y, H1, c1, X1, o1⟩ := rvecq_run hB (3 : Nat) (by omega)
    rw [if_pos (vecE_small (by omega) (.inr rfl))] at o1
    have n0 := hE.1
    have n1 := X1.1
    obtain ⟨z, G1, a1, w1, Y1, _⟩ := (hO.ext X1).app o1.bs (by omega) (by simp [digits_len]; omega)
    have E1 : Ext h0 G1 := (hE.trans X1).then2 Y1
    have hstep : inner (xs.take i) ++ (digits p.2.length ((3 : Nat) : Int).toNat ((3 : Nat) : Int).toNat ++ p.2) = inner (xs.take (i + 1)) := by
      rw [take_step hp, inner_snoc]; rfl
    rw [hstep] at w1
    refine Wp.loop ?_
    rw [laid_eq t0 [(0, .sl a xs.length q), (3, inV), (4, .int .i64 i)] (by simp [ta, t3, t4])]
    unfold l81_1
    refine Wp.seq ?_
    refine Wp.seq ?_
    refine Wp.region ?_
    refine Wo.pre 1 (by kernel_rfl) ?_
    refine Wo.pre 1 (by kernel_rfl) ?_
    refine Wo.val (.int .i64 xs.length) h (by kernel_rfl) (iop_lenS (v := .sl a xs.length q) (by kernel_rfl) hls) ?_
    refine Wo.val (.bool true) h (by kernel_rfl) (iop_cmp (op := .lss) (k := .i64) (a := i) (b := xs.length) true (by kernel_rfl) (by kernel_rfl) (by simp) (by simp [binInt]; omega)) ?_
    refine Wo.nil ?_
    refine Wp.cond true (by kernel_rfl) ?_
    refine Wp.skip ?_
    refine Wp.seq ?_
    refine Wp.block ?_
    refine Wp.region ?_
    refine Wo.pre 1 (by kernel_rfl) ?_
    refine Wo.pre 1 (by kernel_rfl) ?_
    refine Wo.pre 1 (by kernel_rfl) ?_
    refine Wo.val _ h (by kernel_rfl) (iop_ia (a := a) (n := xs.length) (c := q) (i := i) (by kernel_rfl) (by kernel_rfl) hlt) ?_
    refine Wo.val p.1 h (by kernel_rfl) (iop_ld (a := ⟨a.b, a.g, a.o + i * 1⟩) (by kernel_rfl) hld) ?_
    refine Wo.call (by kernel_rfl) (by kernel_rfl) (c1) ?_
    refine Wo.val z G1 (by kernel_rfl) (iop_app (v := inV) (w := y) (by kernel_rfl) (by kernel_rfl) o1.bs.parts.2.2 a1) ?_
    refine Wo.pre 1 (by kernel_rfl) ?_
    refine Wo.nil ?_
    refine Wp.region ?_
    refine Wo.pre 1 (by kernel_rfl) ?_
    refine Wo.pre 1 (by kernel_rfl) ?_
    refine Wo.pre 1 (by kernel_rfl) ?_
    refine Wo.nil ?_
    exact ih (i + 1) (by omega) G1 z _ E1 w1 (by kernel_rfl) (by kernel_rfl) (by kernel_rfl) (by rw [← wi]; kernel_rfl) Q hQ

theorem rlist_run {h : H} {v : AV} {xs : List (AV × List UInt8)} (hc : Ch h v xs) (hs : Small xs) : ∃ z h', Runs TF 81 [v] h z h' ∧ Ext h h' ∧ Ow h.n h' z (listB xs) := by
  refine Runs.ofP f81 rfl ?_
  have hmx : 200000000000000 = maxRow := rfl
  refine Wp.seq ?_
  refine Wp.region ?_
  refine Wo.pre 8 (by kernel_rfl) ?_
  refine Wo.nil ?_
  refine Wp.seq ?_
  refine Wp.region ?_
  refine Wo.pre 8 (by kernel_rfl) ?_
  refine Wo.nil ?_
  refine Wp.seq ?_
  refine Wp.seq ?_
  refine Wp.region ?_
  refine Wo.pre 8 (by kernel_rfl) ?_
  refine Wo.nil ?_
  refine Wp.block ?_
  refine rlist_loop hc hs xs.length 0 (by omega) h .nils _ (Ext.refl h) (.inl ⟨rfl, by simp [inner]⟩) (by kernel_rfl) (by kernel_rfl) (by kernel_rfl) (by kernel_rfl) _ ?_
  intro ts' h' inV d0 hE hO d3
  rw [laid_eq d0 [(3, inV)] (by simp [d3])]
  have hil := inner_len xs hs.2
  have h4 := hs.1
  obtain ⟨z, H1, c1, X1, o1⟩ := rvecq_run hO.bs (3 : Nat) (by omega)
  rw [if_pos (vecE_small (by omega) (.inr rfl))] at o1
  refine Wp.seq ?_
  refine Wp.region ?_
  refine Wo.pre 1 (by kernel_rfl) ?_
  refine Wo.call (by kernel_rfl) (by kernel_rfl) (c1) ?_
  refine Wo.pre 8 (by kernel_rfl) ?_
  refine Wo.nil ?_
  exact Wp.ret ⟨.inr rfl, z, (by kernel_rfl), hE.trans X1, o1.mono hE.1⟩

/-- The closure: a certificate is laid behind. -/
theorem add_run {h : H} {ib : Nat} {inV c : AV} {l cl : List UInt8} (hg : h.get ib = some (.cells 0 22 [inV] 0 false)) (hib : ib < h.n) (hi : Bs h inV l) (hc : Bs h c cl) (hcl : cl.length < 65536) (hl : l.length + 16777224 ≤ maxRow) :
    ∃ r h', Runs TF 87 [c, .ptr ⟨ib, 0, 0⟩] h r h' ∧ ∃ z, h'.get ib = some (.cells 0 22 [z] 0 false) ∧ Ow h.n h' z (l ++ certB cl) ∧ ExtB ib h h' := by
  have hmx : 200000000000000 = maxRow := rfl
  obtain ⟨r1, H1, c1, z, rfl, X1, o1⟩ := wvec_any hi hc (3 : Nat) hl (by omega)
  rw [vecE_small hcl (.inr rfl)] at c1
  rw [if_pos (vecE_small hcl (.inr rfl)), List.append_assoc] at o1
  have o1 : Ow h.n H1 z (l ++ certB cl) := o1
  have hp := o1.bs.parts
  have g1 : H1.get ib = some (.cells 0 22 [inV] 0 false) := by rw [X1.2 _ hib]; exact hg
  have L0 : h.ldg ⟨ib, 0, 0⟩ none = some inV := by simp [H.ldg, H.ld, H.row, hg, getL]
  obtain ⟨H2, hH2⟩ : ∃ H2, H2 = H1.set ib (.cells 0 22 [z] 0 false) := ⟨_, rfl⟩
  have st : H1.st ⟨ib, 0, 0⟩ [z] = some H2 := by
    unfold H.st
    simp only [g1]
    rw [if_pos (by simp [hp.2.1]), hH2]
    rfl
  have n1 := X1.1
  refine Runs.ofP f87 rfl ?_
  refine Wp.seq ?_
  refine Wp.region ?_
  refine Wo.val inV h (by kernel_rfl) (iop_ld (a := ⟨ib, 0, 0⟩) (by kernel_rfl) L0) ?_
  refine Wo.pre 1 (by kernel_rfl) ?_
  refine Wo.call (by kernel_rfl) (by kernel_rfl) (c1) ?_
  refine Wo.pre 8 (by kernel_rfl) ?_
  refine Wo.nil ?_
  refine Wp.seq ?_
  refine Wp.region ?_
  refine Wo.pre 8 (by kernel_rfl) ?_
  refine Wo.nil ?_
  refine Wp.cond true (by kernel_rfl) ?_
  refine Wp.region ?_
  refine Wo.pre 1 (by kernel_rfl) ?_
  refine Wo.val .undef H2 (by kernel_rfl) (iop_st1 (a := ⟨ib, 0, 0⟩) (v := z) (by kernel_rfl) (by kernel_rfl) hp.1 st) ?_
  refine Wo.nil ?_
  refine ⟨.inl rfl, .tup [], (by kernel_rfl), z, by rw [hH2, H1.get_set], ?_, by rw [hH2]; exact n1, fun b hb hne => by rw [hH2, H1.get_set_ne _ b _ hne]; exact X1.2 b hb⟩
  rcases o1 with h0 | ⟨b, g, q1, q2, q3, q4⟩
  · exact .inl h0
  · exact .inr ⟨b, g, q1, by rw [hH2]; exact q2, by rw [hH2, H1.get_set_ne _ b _ (by omega)]; exact q3, q4⟩

set_option maxHeartbeats 1000000 in
theorem list_loop {h0 : H} {v : AV} {xs : List (AV × List UInt8)} {ib : Nat} (hc : Ch h0 v xs) (hs : Small xs) (hib0 : h0.n ≤ ib) :
    ∀ (k i : Nat), i + k = xs.length → ∀ (h : H) (inV : AV) (ts : List AV), Ext h0 h → ib < h.n → h.get ib = some (.cells 0 22 [inV] 0 false) → Bs h inV (inner (xs.take i)) → ts.length = 26 → getL ts 3 = some (.ptr ⟨ib, 0, 0⟩) → getL ts 4 = some (.fn (.func 87) [] [.ptr ⟨ib, 0, 0⟩]) → getL ts 10 = some v → getL ts 11 = some (.int .i64 xs.length) → getL ts 12 = some (.int .i64 i) →
      ∀ (Q : Ex → St → Prop), (∀ ts' h' inV, ts'.length = 26 → Ext h0 h' → h'.get ib = some (.cells 0 22 [inV] 0 false) → Bs h' inV (inner xs) → getL ts' 3 = some (.ptr ⟨ib, 0, 0⟩) → Q (.exit 0) (ts', h')) → Wp TF (.loop l80_1) (ts, h) Q := by
  have hmx : 200000000000000 = maxRow := rfl
  intro k
  induction k with
  | zero =>
    intro i hi h inV ts hE hib hg hO t0 t3 t4 t10 t11 t12 Q hQ
    obtain rfl : i = xs.length := by omega
    rw [List.take_length] at hO
    refine Wp.loop ?_
    rw [laid_eq t0 [(3, .ptr ⟨ib, 0, 0⟩), (4, .fn (.func 87) [] [.ptr ⟨ib, 0, 0⟩]), (10, v), (11, .int .i64 xs.length), (12, .int .i64 xs.length)] (by simp [t3, t4, t10, t11, t12])]
    unfold l80_1
    refine Wp.seq ?_
    refine Wp.region ?_
    refine Wo.val (.bool false) h (by kernel_rfl) (iop_cmp (op := .lss) (k := .i64) (a := xs.length) (b := xs.length) false (by kernel_rfl) (by kernel_rfl) (by simp) (by simp [binInt])) ?_
    refine Wo.nil ?_
    refine Wp.seq ?_
    refine Wp.cond false (by kernel_rfl) ?_
    exact Wp.exit (hQ _ _ inV (by kernel_rfl) hE hg hO (by kernel_rfl))
  | succ k ih =>
    intro i hi h inV ts hE hib hg hO t0 t3 t4 t10 t11 t12 Q hQ
    have hlt : i < xs.length := by omega
    obtain ⟨p, hp⟩ : ∃ p, xs[i]? = some p := ⟨xs[i], List.getElem?_eq_getElem hlt⟩
    have hps := hs.2 p (List.mem_of_getElem? hp)
    have hB := ((hc.el p (List.mem_of_getElem? hp)).1).ext hE
    obtain ⟨a, q, rfl, hld⟩ := (hc.ext hE).at hp
    have wi : IntKind.i64.wrap ((i : Int) + 1) = ((i + 1 : Nat) : Int) := by rw [i64_fit _ (by have := hs.1; omega)]; omega
    have hil : (inner (xs.take i)).length ≤ 515 * 4 := by
      have := inner_len (xs.take i) (fun q hq => hs.2 q (List.mem_of_mem_take hq))
      have h2 : (xs.take i).length ≤ 4 := by rw [List.length_take]; have := hs.1; omega
      omega
    obtain ⟨r1, H1, c1, z, g1, o1, X1⟩ := add_run hg hib hO hB (by omega) (by omega)
    have n0 := hE.1
    have n1 := X1.1
    have E1 : Ext h0 H1 := ⟨by omega, fun b hb => by rw [X1.2 b (by omega) (by omega)]; exact hE.2 b hb⟩
    have hstep : inner (xs.take i) ++ certB p.2 = inner (xs.take (i + 1)) := by rw [take_step hp, inner_snoc]
    rw [hstep] at o1
    refine Wp.loop ?_
    rw [laid_eq t0 [(3, .ptr ⟨ib, 0, 0⟩), (4, .fn (.func 87) [] [.ptr ⟨ib, 0, 0⟩]), (10, .sl a xs.length q), (11, .int .i64 xs.length), (12, .int .i64 i)] (by simp [t3, t4, t10, t11, t12])]
    unfold l80_1
    refine Wp.seq ?_
    refine Wp.region ?_
    refine Wo.val (.bool true) h (by kernel_rfl) (iop_cmp (op := .lss) (k := .i64) (a := i) (b := xs.length) true (by kernel_rfl) (by kernel_rfl) (by simp) (by simp [binInt]; omega)) ?_
    refine Wo.nil ?_
    refine Wp.seq ?_
    refine Wp.cond true (by kernel_rfl) ?_
    refine Wp.skip ?_
    refine Wp.seq ?_
    refine Wp.block ?_
    refine Wp.seq ?_
    refine Wp.region ?_
    refine Wo.val _ h (by kernel_rfl) (iop_ia (a := a) (n := xs.length) (c := q) (i := i) (by kernel_rfl) (by kernel_rfl) hlt) ?_
    refine Wo.val p.1 h (by kernel_rfl) (iop_ld (a := ⟨a.b, a.g, a.o + i * 1⟩) (by kernel_rfl) hld) ?_
    refine Wo.pre 1 (by kernel_rfl) ?_
    refine Wo.nil ?_
    refine Wp.region ?_
    refine Wo.pre 1 (by kernel_rfl) ?_
    refine Wo.pre 1 (by kernel_rfl) ?_
    refine Wo.call (by kernel_rfl) (by kernel_rfl) (c1) ?_
    refine Wo.nil ?_
    refine Wp.region ?_
    refine Wo.pre 1 (by kernel_rfl) ?_
    refine Wo.pre 1 (by kernel_rfl) ?_
    refine Wo.nil ?_
    exact ih (i + 1) (by omega) H1 z _ E1 (by omega) g1 o1.bs (by kernel_rfl) (by kernel_rfl) (by kernel_rfl) (by kernel_rfl) (by kernel_rfl) (by rw [← wi]; kernel_rfl) Q hQ

theorem list_run {h : H} {v : AV} {xs : List (AV × List UInt8)} (hc : Ch h v xs) (hs : Small xs) : ∃ z h', Runs TF 80 [v] h z h' ∧ Ext h h' ∧ Ow h.n h' z (listB xs) := by
  refine Runs.ofP f80 rfl ?_
  have hmx : 200000000000000 = maxRow := rfl
  obtain ⟨H1, hH1⟩ : ∃ H1, H1 = h.new (.cells 0 22 [.nils] 0 false) := ⟨_, rfl⟩
  have X1 : Ext h H1 := by rw [hH1]; exact Ext.new _ _
  have g1 : H1.get h.n = some (.cells 0 22 [.nils] 0 false) := by rw [hH1]; exact h.get_new _
  have en : ∀ ts, iop (.new 22 (.c .nils)) (ev ts) h = some (.val (.ptr ⟨h.n, 0, 0⟩) H1) := fun ts => by rw [hH1]; kernel_rfl
  refine Wp.seq ?_
  refine Wp.region ?_
  refine Wo.pre 8 (by kernel_rfl) ?_
  refine Wo.nil ?_
  refine Wp.seq ?_
  refine Wp.region ?_
  refine Wo.val _ _ (by kernel_rfl) (en _) ?_
  refine Wo.nil ?_
  refine Wp.seq ?_
  refine Wp.region ?_
  refine Wo.pre 8 (by kernel_rfl) ?_
  refine Wo.nil ?_
  refine Wp.seq ?_
  refine Wp.seq ?_
  refine Wp.region ?_
  refine Wo.pre 1 (by kernel_rfl) ?_
  refine Wo.val (.int .i64 xs.length) H1 (by kernel_rfl) (iop_lenS (v := v) (by kernel_rfl) hc.lenS) ?_
  refine Wo.pre 8 (by kernel_rfl) ?_
  refine Wo.nil ?_
  refine Wp.block ?_
  refine list_loop (ib := h.n) hc hs (Nat.le_refl _) xs.length 0 (by omega) H1 .nils _ X1 (by rw [hH1]; simp) g1 (.inl ⟨rfl, by simp [inner]⟩) (by kernel_rfl) (by kernel_rfl) (by kernel_rfl) (by kernel_rfl) (by kernel_rfl) (by kernel_rfl) _ ?_
  intro ts' h' inV d0 hE hg hO d3
  rw [laid_eq d0 [(3, .ptr ⟨h.n, 0, 0⟩)] (by simp [d3])]
  have hil := inner_len xs hs.2
  have h4 := hs.1
  have L0 : h'.ldg ⟨h.n, 0, 0⟩ none = some inV := by simp [H.ldg, H.ld, H.row, hg, getL]
  obtain ⟨r2, H2, c2, z, rfl, X2, o2⟩ := wvec_any (h := h') (x := .nils) (lx := []) (.inl ⟨rfl, rfl⟩) hO (3 : Nat) (by simp; omega) (by omega)
  rw [vecE_small (by omega) (.inr rfl)] at c2
  rw [if_pos (vecE_small (by omega) (.inr rfl)), List.nil_append] at o2
  refine Wp.seq ?_
  refine Wp.region ?_
  refine Wo.val inV h' (by kernel_rfl) (iop_ld (a := ⟨h.n, 0, 0⟩) (by kernel_rfl) L0) ?_
  refine Wo.call (by kernel_rfl) (by kernel_rfl) (c2) ?_
  refine Wo.pre 8 (by kernel_rfl) ?_
  refine Wo.nil ?_
  refine Wp.seq ?_
  refine Wp.region ?_
  refine Wo.pre 8 (by kernel_rfl) ?_
  refine Wo.nil ?_
  exact Wp.ret ⟨.inr rfl, z, (by kernel_rfl), hE.trans X2, o2.mono hE.1⟩
end Go.Det

