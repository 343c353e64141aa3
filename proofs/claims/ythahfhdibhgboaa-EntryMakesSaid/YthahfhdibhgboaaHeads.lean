/- What is signed for a head: the program's bytes and the reference's. -/
import Derived.Test.YthahfhdibhgboaaWire
import Derived.Test.YthahfhdibhgboaaDetWd
set_option linter.unusedVariables false
set_option linter.unusedSimpArgs false
namespace Go.Det
open Go.Proofs
attribute [local simp] skip_iff ret_iff exit_iff seq_iff block_iff thenQ_normal thenQ_ret thenQ_exit thenQ_goto blockQ_normal blockQ_ret blockQ_exit blockQ_goto condQ_bool cond_iff region_iff wo_nil ansQ_val ansQ_call wo_cons wo_guard wanted put setL getL ev iop binop binInt shInt asI retV resOf unop getL_put len_put draw_iff wd_nil wd_quiet wd_act holds_nil holds_cons
attribute [local congr] ansQ_congr condQ_congr

theorem rnum8_run {b : AV} {l : List UInt8} {h : H} (hb : Bs h b l) (hl : l.length + 8 ≤ maxRow) {n : Nat} (hn : n < 2 ^ 64) :
    ∃ v h', Runs TF 20 [b, .int .u64 n, .int .i64 8] h v h' ∧ ∃ x, v = .tup [x, .int .i64 0] ∧ Ext h h' ∧ Ow h.n h' x (l ++ digits n 8 8) := by
  refine Runs.ofP f20 rfl ?_
  simp [List.replicate]
  refine ⟨_, _, rsized8_run h, ?_⟩
  have w1 : IntKind.i64.wrap (8 - 1) = 7 := by rw [i64_fit _ (by omega)]; rfl
  simp [maxRow, w1]
  refine rnum_loop (size := 8) hn (by omega) (blk := h.n) 8 (by omega) _ _ rfl (by simp) (by simp) rfl rfl (by rw [h.get_new]; simp [bytesAV, digits_len, List.replicate]) _ ?_
  intro ts' h' g0 gb g1 g8 gc gn go
  have hz : n / 256 ^ 8 = 0 := Nat.div_eq_of_lt (by simpa using hn)
  rw [hz] at g1
  have gb : getL ts' 0 = some b := gb
  have he : Ext h h' := ⟨by rw [gn]; simp, fun k hk => by rw [go k (by omega)]; exact h.get_new_ne k _ (by omega)⟩
  simp [g0, gb, g1, g8]
  obtain ⟨x, h2, c1, c2, c3⟩ := own_run (hb.ext he) (by omega)
  refine ⟨x, h2, c1, ?_⟩
  have hy : Bs h' (.sl ⟨h.n, 0, 0⟩ 8 (.ex 8)) (digits n 8 8) := (Ow.bs (lo := h.n) (.inr ⟨h.n, 0, Nat.le_refl _, by rw [gn]; simp, gc, .inr (by rw [digits_len])⟩))
  obtain ⟨y, h3, e1, e2, e3, _⟩ := Ow.app c3 (hy.ext c2) c2.1 (by rw [digits_len]; omega)
  simp [isStrV, e1]
  have hec := he.trans c2
  exact ⟨⟨Nat.le_trans hec.1 e3.1, fun k hk => (e3.2 k (Nat.lt_of_lt_of_le hk he.1)).trans (hec.2 k hk)⟩, e2.mono he.1⟩

theorem num8_run {b : AV} {l : List UInt8} {h : H} (hb : Bs h b l) (hl : l.length + 8 ≤ maxRow) {n : Nat} (hn : n < 2 ^ 64) :
    ∃ x h', Runs TF 76 [b, .int .u64 n, .int .i64 8] h x h' ∧ Ext h h' ∧ Ow h.n h' x (l ++ digits n 8 8) := by
  refine Runs.ofP f76 rfl ?_
  have e : numE n 8 = 0 := by simp [numE]; omega
  obtain ⟨v, h', c1, x, rfl, c2, c3⟩ := num_run hb hl hn 8
  rw [e] at c1
  rw [if_pos e] at c3
  simp [List.replicate]
  refine ⟨_, _, c1, ?_⟩
  simp
  exact ⟨c2, c3⟩

theorem rn8_run {h : H} {n : Nat} (hn : n < 2 ^ 64) : ∃ x h', Runs TF 77 [.int .u64 n, .int .i64 8] h x h' ∧ Ext h h' ∧ Ow h.n h' x (digits n 8 8) := by
  refine Runs.ofP f77 rfl ?_
  obtain ⟨v, h', c1, x, rfl, c2, c3⟩ := rnum8_run (b := .nils) (l := []) (h := h) (.inl ⟨rfl, rfl⟩) (by simp [maxRow]) hn
  simp [List.replicate]
  refine ⟨_, _, c1, ?_⟩
  simp
  exact ⟨c2, by simpa using c3⟩

/-- The bytes that are signed for a head. -/
def headB (t s : Nat) (r : List UInt8) : List UInt8 := [0, 1] ++ digits t 8 8 ++ digits s 8 8 ++ r

theorem Bs.two (h : H) (c d : UInt8) : Ow h.n (h.new (.cells 0 5 [.int .u8 c.toNat, .int .u8 d.toNat] 0 false)) (.sl ⟨h.n, 0, 0⟩ 2 (.ex 2)) [c, d] :=
  .inr ⟨h.n, 0, Nat.le_refl _, by simp, by rw [h.get_new]; rfl, .inr rfl⟩

theorem head_run {t s : Nat} (ht : t < 2 ^ 64) (hs : s < 2 ^ 64) {r : List UInt8} (hr : r.length = 32) {g : List AV} (hg : g.length = 64) (hg1 : ∀ x ∈ g, x.one = true) (h : H) :
    ∃ x h', Runs TF 36 [.agg (.int .u64 s :: .int .u64 t :: bytesAV r ++ g)] h x h' ∧ Ext h h' ∧ Ow h.n h' x (headB t s r) := by
  refine Runs.ofP f36 rfl ?_
  have o1 : ∀ k n, (AV.int k n).one = true := fun _ _ => rfl
  have hga : g.all AV.one = true := List.all_eq_true.2 hg1
  obtain ⟨B, hB⟩ : ∃ B, B = Blk.cells 0 65 (AV.int .u64 s :: AV.int .u64 t :: (bytesAV r ++ g)) 0 false := ⟨_, rfl⟩
  have LD : ∀ (k : H), k.get h.n = some B → k.ldg ⟨h.n, 0, 0⟩ none = some (.int .u64 s) ∧ k.ldg ⟨h.n, 0, 1⟩ none = some (.int .u64 t) := by
    intro k hk
    rw [hB] at hk
    simp [H.ldg, H.ld, H.row, hk]
  have G1 : ∀ C, ((h.new B).new C).get h.n = some B := fun C => by rw [H.get_new_ne _ _ _ (by simp), H.get_new]
  have L1 := fun C => (LD _ (G1 C)).2
  have w2 := Bs.two (h.new B) 0 1
  obtain ⟨x, h3, c1, c2, c3⟩ := num8_run (n := t) (Ow.bs w2) (by simp [maxRow]) ht
  have G3 : h3.get h.n = some B := by rw [c2.2 _ (by simp; omega)]; exact G1 _
  have L3 := (LD _ G3).1
  obtain ⟨y, h4, d1, d2, d3⟩ := num8_run (n := s) (Ow.bs c3) (by simp [maxRow, digits_len]) hs
  have G4 : h4.get h.n = some B := by rw [d2.2 _ (by have := c2.1; simp at this; omega)]; exact G3
  have hroot : Bs h4 (.sl ⟨h.n, 0, 2⟩ 32 (.ex 32)) r := by
    refine .inr ⟨⟨h.n, 0, 2⟩, .ex 32, by rw [hr], by have := c2.1; have := d2.1; simp at *; omega, ?_⟩
    rw [hB] at G4
    unfold H.ldn H.row
    simp only [G4, BEq.rfl, if_true]
    have hbl := bytes_len r
    simp [cut, List.take_append_of_le_length, hbl]
  obtain ⟨z, h5, e1, e2, e3, e4⟩ := Ow.app d3 hroot d2.1 (by simp [maxRow, digits_len, hr])
  simp [List.replicate, AV.cells, -List.all_eq_true, bytes_one, hga, o1, fillL, putAt, ← hB, L1]
  refine ⟨_, _, c1, ?_⟩
  simp [L3, bounds, Pend.add, rdOp, readsAs, AV.same]
  refine ⟨_, _, d1, ?_⟩
  have hx0 : Ext h h4 := (((Ext.new h B).trans (Ext.new _ _)).trans c2).trans d2
  simp [isStrV, e1, show Nat.testBit 7 2 = true from rfl, show Nat.testBit 63 2 = true from rfl, headB]
  have h3n := c2.1
  simp at h3n
  exact ⟨⟨Nat.le_trans hx0.1 e3.1, fun k hk => (e3.2 k (by omega)).trans (hx0.2 k hk)⟩, by simpa using e2.mono (by omega)⟩

theorem rhead_run {t s : Nat} (ht : t < 2 ^ 64) (hs : s < 2 ^ 64) {r : List UInt8} (hr : r.length = 32) {g : List AV} (hg : g.length = 64) (hg1 : ∀ x ∈ g, x.one = true) (h : H) :
    ∃ x h', Runs TF 37 [.agg (.int .u64 s :: .int .u64 t :: bytesAV r ++ g)] h x h' ∧ Ext h h' ∧ Ow h.n h' x (headB t s r) := by
  refine Runs.ofP f37 rfl ?_
  have o1 : ∀ k n, (AV.int k n).one = true := fun _ _ => rfl
  have hga : g.all AV.one = true := List.all_eq_true.2 hg1
  obtain ⟨B, hB⟩ : ∃ B, B = Blk.cells 0 65 (AV.int .u64 s :: AV.int .u64 t :: (bytesAV r ++ g)) 0 false := ⟨_, rfl⟩
  have LD : ∀ (k : H), k.get h.n = some B → k.ldg ⟨h.n, 0, 0⟩ none = some (.int .u64 s) ∧ k.ldg ⟨h.n, 0, 1⟩ none = some (.int .u64 t) := by
    intro k hk
    rw [hB] at hk
    simp [H.ldg, H.ld, H.row, hk]
  have G1 : ∀ C, ((h.new B).new C).get h.n = some B := fun C => by rw [H.get_new_ne _ _ _ (by simp), H.get_new]
  have L1 := fun C => (LD _ (G1 C)).2
  have w2 := Bs.two (h.new B) 0 1
  obtain ⟨x, h3, c1, c2, c3⟩ := rn8_run (h := ((h.new B).new (Blk.cells 0 5 [AV.int IntKind.u8 ↑(UInt8.toNat 0), AV.int IntKind.u8 ↑(UInt8.toNat 1)] 0 false))) (n := t) ht
  obtain ⟨y, h4, d1, d2, d3, d4⟩ := Ow.app (w2.ext c2) (Ow.bs c3) (by have := c2.1; simp at *; omega) (by simp [maxRow, digits_len])
  have G4 : h4.get h.n = some B := by rw [d3.2 _ (by simp), c2.2 _ (by simp; omega)]; exact G1 _
  have L4 := (LD _ G4).1
  obtain ⟨u, h5, e1, e2, e3⟩ := rn8_run (h := h4) (n := s) hs
  have l5 := e2.1
  have l4 := d3.1
  have l3 := c2.1
  simp at l3
  obtain ⟨z, h6, k1, k2, k3, k4⟩ := Ow.app (d2.ext e2) (Ow.bs e3) (by simp at *; omega) (by simp [maxRow, digits_len])
  have G6 : h6.get h.n = some B := by rw [k3.2 _ (by simp), e2.2 _ (by omega)]; exact G4
  have l6 := k3.1
  have hroot : Bs h6 (.sl ⟨h.n, 0, 2⟩ 32 (.ex 32)) r := by
    refine .inr ⟨⟨h.n, 0, 2⟩, .ex 32, by rw [hr], by simp at *; omega, ?_⟩
    rw [hB] at G6
    unfold H.ldn H.row
    simp only [G6, BEq.rfl, if_true]
    have hbl := bytes_len r
    simp [cut, List.take_append_of_le_length, hbl, hr]
  obtain ⟨v, h7, m1, m2, m3, m4⟩ := Ow.app k2 hroot (by simp at *; omega) (by simp [maxRow, digits_len, hr])
  simp [List.replicate, AV.cells, -List.all_eq_true, bytes_one, hga, o1, fillL, putAt, ← hB, L1]
  refine ⟨_, _, c1, ?_⟩
  have q1 := c3.bs.notStr
  have q2 := e3.bs.notStr
  simp at d1
  simp [q1, d1, L4]
  refine ⟨_, _, e1, ?_⟩
  simp [q2, k1, bounds]
  simp [isStrV, m1, headB]
  have hx0 : Ext h h3 := ((Ext.new h B).trans (Ext.new _ _)).trans c2
  have l7 := m3.1
  refine ⟨⟨by omega, fun k hk => ?_⟩, by simpa using m2.mono (by simp)⟩
  rw [m3.2 k (by simp; omega), k3.2 k (by simp; omega), e2.2 k (by omega), d3.2 k (by simp; omega)]
  exact hx0.2 k hk

theorem awake_run (h : H) : Runs TF 35 [] h (.bool true) h := Runs.known (by kernel_rfl) h

theorem law_heads {t s : Nat} (ht : t < 2 ^ 64) (hs : s < 2 ^ 64) {r : List UInt8} (hr : r.length = 32) {g : List AV} (hg : g.length = 64) (hg1 : ∀ x ∈ g, x.one = true) (h : H) :
    ∃ v h', Runs TF 8 [.agg (.int .u64 s :: .int .u64 t :: bytesAV r ++ g)] h v h' ∧ v = .bool true ∧ Ext h h' := by
  have o1 : ∀ k n, (AV.int k n).one = true := fun _ _ => rfl
  have hga : g.all AV.one = true := List.all_eq_true.2 hg1
  obtain ⟨A, hA⟩ : ∃ A, A = (.int .u64 s :: .int .u64 t :: (bytesAV r ++ g) : List AV) := ⟨_, rfl⟩
  have hl : A.length = 98 := by rw [hA]; simp [bytes_len, hr, hg]
  obtain ⟨B, hB⟩ : ∃ B, B = Blk.cells 0 65 A 0 false := ⟨_, rfl⟩
  have LD : ∀ (k : H), k.get h.n = some B → k.ldg ⟨h.n, 0, 0⟩ (some 98) = some (.agg A) := by
    intro k hk
    rw [hB] at hk
    simp [H.ldg, H.ldn, H.row, hk, cut, ← hl]
  have L1 := LD (h.new B) (h.get_new B)
  obtain ⟨x, h3, c1, c2, c3⟩ := head_run ht hs hr hg hg1 (h.new B)
  have L3 := LD h3 (by rw [c2.2 _ (by simp)]; exact h.get_new B)
  obtain ⟨y, h4, d1, d2, d3⟩ := rhead_run ht hs hr hg hg1 h3
  have eq := equal_run (c3.bs.ext d2) d3.bs
  rw [List.cons_append, List.cons_append, ← hA] at c1 d1
  have ha : A.all AV.one = true := by rw [hA]; simp [-List.all_eq_true, bytes_one, hga, o1]
  rw [List.cons_append, List.cons_append, ← hA]
  refine Runs.ofP f8 rfl ?_
  have AS : AV.same (.agg A) (.agg A) = true := same_refl _
  simp [List.replicate, AV.cells, -List.all_eq_true, ha, ← hB]
  refine ⟨_, _, awake_run _, ?_⟩
  simp [L1, Pend.add, rdOp, readsAs, AS]
  have b1 : Nat.testBit 7 4 = false := rfl
  have b2 : Nat.testBit 7 2 = true := rfl
  have b3 : Nat.testBit 31 4 = true := rfl
  have b4 : Nat.testBit 31 2 = true := rfl
  have b5 : Nat.testBit 63 4 = true := rfl
  refine ⟨_, _, c1, ?_⟩
  simp [L3, readsAs, AS, b1, b2, b3, b4, b5]
  refine ⟨_, _, d1, ?_⟩
  refine ⟨_, _, eq, ?_⟩
  simp
  exact ((Ext.new h B).trans c2).trans d2
end Go.Det
