/- The law WireLays: numbers and vectors are laid down as the document says; what is handed in stays. -/
import Derived.Test.YthahfhdibhgboaaSpoil
set_option linter.unusedVariables false
set_option linter.unusedSimpArgs false
set_option linter.unusedSectionVars false
namespace Go.Det
open Go.Proofs
attribute [local irreducible] Wp Wo Wd iop ev slots quiets wanted put

/-- A row of its own, to be spoiled. -/
theorem Ow.spoil {lo : Nat} {h h' : H} {x : AV} {l : List UInt8} (hx : Ow lo h x l) (hE : Ext h h') (far : Nat) : ∃ blk g, ((lo ≤ blk ∧ blk < h.n) ∨ blk = far) ∧ (l.length = 0 ∨ ((∃ cc, x = .sl ⟨blk, g, 0⟩ l.length cc) ∧ ∃ r : List UInt8, r.length = l.length ∧ h'.get blk = some (.cells g 5 (bytesAV r) 0 false))) := by
  rcases hx with ⟨rfl, rfl⟩ | ⟨b, g, h1, h2, h3, h4⟩
  · exact ⟨far, 0, .inr rfl, .inl rfl⟩
  · exact ⟨b, g, .inl ⟨h1, h2⟩, .inr ⟨by rcases h4 with rfl | rfl <;> exact ⟨_, rfl⟩, l, rfl, by rw [hE.2 _ h2]; exact h3⟩⟩

set_option maxHeartbeats 4000000 in
theorem lays_run {h : H} {xb xd : AV} {lb ld : List UInt8} (hb : Bs h xb lb) (hd : Bs h xd ld) (hlb : lb.length + 16777300 ≤ maxRow) (hld : ld.length + 16777300 ≤ maxRow) {n : Nat} (hn : n < 2 ^ 64) (size : Int) :
    ∃ r h', Runs TF 3 [.agg [xb, xd, .int .u64 n, .int .i64 size]] h r h' ∧ r = .bool true := by
  refine Runs.ofP f3 rfl ?_
  have hmx : maxRow < 2 ^ 62 := by decide
  have hall : ([xb, xd, .int .u64 n, .int .i64 size] : List AV).all AV.one = true := by
    have o1 := hb.parts.2.1
    have o2 := hd.parts.2.1
    have o3 : ∀ k i, (AV.int k i).one = true := fun _ _ => rfl
    simp [o1, o2, o3]
  obtain ⟨H1, hH1⟩ : ∃ H1, H1 = h.new (.cells 0 25 [xb, xd, .int .u64 n, .int .i64 size] 0 false) := ⟨_, rfl⟩
  have enew : ∀ {x : IX} {ρ : IX → AV}, ρ x = .agg [xb, xd, .int .u64 n, .int .i64 size] → iop (.new 25 x) ρ h = some (.val (.ptr ⟨h.n, 0, 0⟩) H1) := fun hx => by rw [hH1]; exact iop_new hx hall
  have E1 : Ext h H1 := by rw [hH1]; exact Ext.new h _
  have hg1 : H1.get h.n = some (.cells 0 25 [xb, xd, .int .u64 n, .int .i64 size] 0 false) := by rw [hH1]; exact h.get_new _
  have L0 : H1.ldg ⟨h.n, 0, 0⟩ none = some xb := by simp [H.ldg, H.ld, H.row, hg1, getL]
  have L1 : H1.ldg ⟨h.n, 0, 1⟩ none = some xd := by simp [H.ldg, H.ld, H.row, hg1, getL]
  have L2 : H1.ldg ⟨h.n, 0, 2⟩ none = some (.int .u64 n) := by simp [H.ldg, H.ld, H.row, hg1, getL]
  have L3 : H1.ldg ⟨h.n, 0, 3⟩ none = some (.int .i64 size) := by simp [H.ldg, H.ld, H.row, hg1, getL]
  have hb1 := hb.ext E1
  have hd1 := hd.ext E1
  obtain ⟨ow, H3, ea, oa, X3⟩ := copy_new hb1 (by omega)
  obtain ⟨gi, H5, eb, ob, X5⟩ := copy_new (hd1.ext X3) (by omega)
  have hb5 := (hb1.ext X3).ext X5
  have hd5 := (hd1.ext X3).ext X5
  obtain ⟨q, H7, ec, oc, X7⟩ := copy_new hb5 (by omega)
  obtain ⟨nine, hnine⟩ : ∃ l : List UInt8, l = [1, 2, 3, 4, 5, 6, 7, 8, 9] := ⟨_, rfl⟩
  have h9 : nine.length = 9 := by rw [hnine]; rfl
  obtain ⟨H8, hH8⟩ : ∃ H8, H8 = H7.new (.cells 0 5 (bytesAV nine) 0 false) := ⟨_, rfl⟩
  have X8 : Ext H7 H8 := by rw [hH8]; exact Ext.new _ _
  have hlit : Bs H8 (.sl ⟨H7.n, 0, 0⟩ 9 (.ex 9)) nine := by have := (Ow.lit H7 nine).bs; rw [hH8]; rw [h9] at this; exact this
  obtain ⟨room, H9, ed, od, Y9, _⟩ := Ow.app (oc.ext X8) hlit (Nat.le_trans X7.1 X8.1) (by omega)
  have X9 : Ext H5 H9 := (X7.trans X8).then2 Y9
  have hb9 := hb5.ext X9
  have hd9 := hd5.ext X9
  have hlr : (lb ++ nine).length = lb.length + 9 := by rw [List.length_append, h9]
  obtain ⟨rm, t1, t2, t3⟩ := od.bs.take od.cok (n := lb.length) (by omega)
  rw [List.take_left] at t2
  obtain ⟨r1, H10, c1, x, rfl, X10, ox⟩ := num_run t2 (by omega) hn size
  obtain ⟨r2, H11, c2, y, rfl, X11, oy⟩ := rnum_run (hb9.ext X10) (by omega) hn size
  have X911 := X10.trans X11
  have oo11 := ((oa.ext X5).ext X9).ext X911
  have og11 := (ob.ext X9).ext X911
  obtain ⟨r3, H12, c3, z, rfl, X12, oz⟩ := wvec_any oo11.bs og11.bs size (by omega) (by omega)
  have X912 := X911.trans X12
  obtain ⟨r4, H13, c4, w, rfl, X13, ow2⟩ := rvec_run (hb9.ext X912) (hd9.ext X912) size (by omega) (by omega)
  have X913 := X912.trans X13
  obtain ⟨LX, hLX⟩ : ∃ LX, LX = (if numE n size = 0 then lb ++ digits n size.toNat size.toNat else []) := ⟨_, rfl⟩
  obtain ⟨LZ, hLZ⟩ : ∃ LZ, LZ = (if vecE ld.length size = 0 then lb ++ digits ld.length size.toNat size.toNat ++ ld else []) := ⟨_, rfl⟩
  rw [← hLX] at ox oy
  rw [← hLZ] at oz ow2
  have q1 := equal_run (((ox.ext X11).ext X12).ext X13).bs ((oy.ext X12).ext X13).bs
  rw [show (LX == LX) = true by simp] at q1
  have q2 := equal_run (oz.ext X13).bs ow2.bs
  rw [show (LZ == LZ) = true by simp] at q2
  have or13 := od.ext X913
  obtain ⟨rest, s1, s2, _⟩ := or13.bs.drop or13.cok (n := lb.length) (by omega)
  rw [List.drop_left] at s2
  obtain ⟨H14, hH14⟩ : ∃ H14, H14 = H13.new (.cells 0 5 (bytesAV nine) 0 false) := ⟨_, rfl⟩
  have X14 : Ext H13 H14 := by rw [hH14]; exact Ext.new _ _
  have hlit2 : Bs H14 (.sl ⟨H13.n, 0, 0⟩ 9 (.ex 9)) nine := by have := (Ow.lit H13 nine).bs; rw [hH14]; rw [h9] at this; exact this
  have q3 := equal_run (s2.ext X14) hlit2
  rw [show (nine == nine) = true by simp] at q3
  subst hnine
  have e9 : ∀ ts, iop (.bsl 5 [.int .u8 0, .int .u8 0, .int .u8 0, .int .u8 0, .int .u8 0, .int .u8 0, .int .u8 0, .int .u8 0, .int .u8 0] 9 [(0, 1, .c (.int .u8 1)), (1, 1, .c (.int .u8 2)), (2, 1, .c (.int .u8 3)), (3, 1, .c (.int .u8 4)), (4, 1, .c (.int .u8 5)), (5, 1, .c (.int .u8 6)), (6, 1, .c (.int .u8 7)), (7, 1, .c (.int .u8 8)), (8, 1, .c (.int .u8 9))]) (ev ts) H7 = some (.val (.sl ⟨H7.n, 0, 0⟩ 9 (.ex 9)) H8) := fun ts => by rw [hH8]; kernel_rfl
  have e9' : ∀ ts, iop (.bsl 5 [.int .u8 0, .int .u8 0, .int .u8 0, .int .u8 0, .int .u8 0, .int .u8 0, .int .u8 0, .int .u8 0, .int .u8 0] 9 [(0, 1, .c (.int .u8 1)), (1, 1, .c (.int .u8 2)), (2, 1, .c (.int .u8 3)), (3, 1, .c (.int .u8 4)), (4, 1, .c (.int .u8 5)), (5, 1, .c (.int .u8 6)), (6, 1, .c (.int .u8 7)), (7, 1, .c (.int .u8 8)), (8, 1, .c (.int .u8 9))]) (ev ts) H13 = some (.val (.sl ⟨H13.n, 0, 0⟩ 9 (.ex 9)) H14) := fun ts => by rw [hH14]; kernel_rfl
  have hLXm : LX.length ≤ maxRow := by
    rw [hLX]
    split
    · rename_i he
      have : size.toNat ≤ 8 := by
        by_cases hs : 1 ≤ size ∧ size ≤ 4 ∨ size = 8
        · omega
        · simp [numE, hs] at he
      rw [List.length_append, digits_len]; omega
    · simp
  have hLZm : LZ.length ≤ maxRow := by
    rw [hLZ]
    split
    · rename_i he
      have hs : 1 ≤ size ∧ size ≤ 3 := by
        by_cases hs : 1 ≤ size ∧ size ≤ 3
        · exact hs
        · simp [vecE, hs] at he
      obtain ⟨m, rfl⟩ : ∃ m : Nat, size = m := ⟨size.toNat, by omega⟩
      have := numE_lt (size := m) (by omega) (by rw [← vecE_num (by omega)]; exact he)
      rw [List.length_append, List.length_append, digits_len]; omega
    · simp
  clear hLX hLZ
  refine Wp.seq ?_
  refine Wp.region ?_
  refine Wo.val _ _ (by kernel_rfl) (enew (by kernel_rfl)) ?_
  refine Wo.pre 1 (by kernel_rfl) ?_
  refine Wo.nil ?_
  refine Wp.seq ?_
  refine Wp.draw ?_
  refine Wd.pure (by kernel_rfl) (by kernel_rfl) ?_
  refine Wd.read (xb) (.ld none (.c (.ptr ⟨h.n, 0, 0⟩))) (by kernel_rfl) (by kernel_rfl) (iop_ld (a := ⟨h.n, 0, 0⟩) (by kernel_rfl) L0) ?_
  refine Wd.pure (by kernel_rfl) (by kernel_rfl) ?_
  refine Wd.read (xd) (.ld none (.c (.ptr ⟨h.n, 0, 1⟩))) (by kernel_rfl) (by kernel_rfl) (iop_ld (a := ⟨h.n, 0, 1⟩) (by kernel_rfl) L1) ?_
  refine Wd.pure (by kernel_rfl) (by kernel_rfl) ?_
  refine Wd.read (.int .u64 n) (.ld none (.c (.ptr ⟨h.n, 0, 2⟩))) (by kernel_rfl) (by kernel_rfl) (iop_ld (a := ⟨h.n, 0, 2⟩) (by kernel_rfl) L2) ?_
  refine Wd.pure (by kernel_rfl) (by kernel_rfl) ?_
  refine Wd.read (.int .i64 size) (.ld none (.c (.ptr ⟨h.n, 0, 3⟩))) (by kernel_rfl) (by kernel_rfl) (iop_ld (a := ⟨h.n, 0, 3⟩) (by kernel_rfl) L3) ?_
  refine Wd.pure (by kernel_rfl) (by kernel_rfl) ?_
  refine Wd.pure (by kernel_rfl) (by kernel_rfl) ?_
  refine Wd.pure (by kernel_rfl) (by kernel_rfl) ?_
  refine Wd.pure (by kernel_rfl) (by kernel_rfl) ?_
  refine Wd.done (holds_of [(.ld none (.c (.ptr ⟨h.n, 0, 3⟩)), .int .i64 size, 7), (.ld none (.c (.ptr ⟨h.n, 0, 2⟩)), .int .u64 n, 5), (.ld none (.c (.ptr ⟨h.n, 0, 1⟩)), xd, 3), (.ld none (.c (.ptr ⟨h.n, 0, 0⟩)), xb, 1)] (by kernel_rfl) (holds_and (rd_ld L3) (holds_and (rd_ld L2) (holds_and (rd_ld L1) (holds_and (rd_ld L0) rfl))))) ?_
  refine Wp.seq ?_
  refine Wp.region ?_
  refine Wo.val (.sl ⟨H1.n, 0, 0⟩ 0 (.ex 0)) (H1.new (.cells 0 5 [] 0 false)) (by kernel_rfl) (((by kernel_rfl))) ?_
  refine Wo.pre 1 (by kernel_rfl) ?_
  refine Wo.val ow H3 (by kernel_rfl) (iop_app (v := .sl ⟨H1.n, 0, 0⟩ 0 (.ex 0)) (w := xb) (by kernel_rfl) (by kernel_rfl) hb.parts.2.2 ea) ?_
  refine Wo.val (.sl ⟨H3.n, 0, 0⟩ 0 (.ex 0)) (H3.new (.cells 0 5 [] 0 false)) (by kernel_rfl) (((by kernel_rfl))) ?_
  refine Wo.pre 1 (by kernel_rfl) ?_
  refine Wo.val gi H5 (by kernel_rfl) (iop_app (v := .sl ⟨H3.n, 0, 0⟩ 0 (.ex 0)) (w := xd) (by kernel_rfl) (by kernel_rfl) hd.parts.2.2 eb) ?_
  refine Wo.pre 1 (by kernel_rfl) ?_
  refine Wo.pre 1 (by kernel_rfl) ?_
  refine Wo.nil ?_
  refine Wp.seq ?_
  refine Wp.region ?_
  refine Wo.val (.sl ⟨H5.n, 0, 0⟩ 0 (.ex 0)) (H5.new (.cells 0 5 [] 0 false)) (by kernel_rfl) (((by kernel_rfl))) ?_
  refine Wo.pre 1 (by kernel_rfl) ?_
  refine Wo.val q H7 (by kernel_rfl) (iop_app (v := .sl ⟨H5.n, 0, 0⟩ 0 (.ex 0)) (w := xb) (by kernel_rfl) (by kernel_rfl) hb.parts.2.2 ec) ?_
  refine Wo.val _ _ (by kernel_rfl) (e9 _) ?_
  refine Wo.val room H9 (by kernel_rfl) (iop_app (v := q) (w := .sl ⟨H7.n, 0, 0⟩ 9 (.ex 9)) (by kernel_rfl) (by kernel_rfl) rfl ed) ?_
  refine Wo.pre 1 (by kernel_rfl) ?_
  refine Wo.nil ?_
  refine Wp.seq ?_
  refine Wp.region ?_
  refine Wo.pre 1 (by kernel_rfl) ?_
  refine Wo.pre 1 (by kernel_rfl) ?_
  refine Wo.val (.int .i64 lb.length) H9 (by kernel_rfl) (hb9.len (by kernel_rfl)) ?_
  refine Wo.val rm H9 (by kernel_rfl) (t1 _ _ _ (by kernel_rfl) (by kernel_rfl)) ?_
  refine Wo.pre 1 (by kernel_rfl) ?_
  refine Wo.pre 1 (by kernel_rfl) ?_
  refine Wo.call (by kernel_rfl) (by kernel_rfl) (c1) ?_
  refine Wo.pre 1 (by kernel_rfl) ?_
  refine Wo.pre 1 (by kernel_rfl) ?_
  refine Wo.pre 1 (by kernel_rfl) ?_
  refine Wo.pre 1 (by kernel_rfl) ?_
  refine Wo.pre 1 (by kernel_rfl) ?_
  refine Wo.nil ?_
  refine Wp.seq ?_
  refine Wp.region ?_
  refine Wo.pre 1 (by kernel_rfl) ?_
  refine Wo.pre 1 (by kernel_rfl) ?_
  refine Wo.pre 1 (by kernel_rfl) ?_
  refine Wo.call (by kernel_rfl) (by kernel_rfl) (c2) ?_
  refine Wo.pre 1 (by kernel_rfl) ?_
  refine Wo.pre 1 (by kernel_rfl) ?_
  refine Wo.pre 1 (by kernel_rfl) ?_
  refine Wo.pre 1 (by kernel_rfl) ?_
  refine Wo.pre 1 (by kernel_rfl) ?_
  refine Wo.nil ?_
  refine Wp.seq ?_
  refine Wp.region ?_
  refine Wo.pre 1 (by kernel_rfl) ?_
  refine Wo.pre 1 (by kernel_rfl) ?_
  refine Wo.pre 1 (by kernel_rfl) ?_
  refine Wo.call (by kernel_rfl) (by kernel_rfl) (c3) ?_
  refine Wo.pre 1 (by kernel_rfl) ?_
  refine Wo.pre 1 (by kernel_rfl) ?_
  refine Wo.pre 1 (by kernel_rfl) ?_
  refine Wo.pre 1 (by kernel_rfl) ?_
  refine Wo.pre 1 (by kernel_rfl) ?_
  refine Wo.nil ?_
  refine Wp.seq ?_
  refine Wp.region ?_
  refine Wo.pre 1 (by kernel_rfl) ?_
  refine Wo.pre 1 (by kernel_rfl) ?_
  refine Wo.pre 1 (by kernel_rfl) ?_
  refine Wo.call (by kernel_rfl) (by kernel_rfl) (c4) ?_
  refine Wo.pre 1 (by kernel_rfl) ?_
  refine Wo.pre 1 (by kernel_rfl) ?_
  refine Wo.pre 1 (by kernel_rfl) ?_
  refine Wo.pre 1 (by kernel_rfl) ?_
  refine Wo.pre 1 (by kernel_rfl) ?_
  refine Wo.nil ?_
  refine Wp.seq ?_
  refine Wp.region ?_
  refine Wo.pre 1 (by kernel_rfl) ?_
  refine Wo.pre 1 (by kernel_rfl) ?_
  refine Wo.val (.bool true) H13 (by kernel_rfl) (iop_eqB (k := .i64) (a := numE n size) (b := numE n size) true (by kernel_rfl) (by kernel_rfl) (by simp)) ?_
  refine Wo.pre 1 (by kernel_rfl) ?_
  refine Wo.pre 1 (by kernel_rfl) ?_
  refine Wo.pre 1 (by kernel_rfl) ?_
  refine Wo.call (by kernel_rfl) (by kernel_rfl) (q1) ?_
  refine Wo.pre 1 (by kernel_rfl) ?_
  refine Wo.pre 1 (by kernel_rfl) ?_
  refine Wo.pre 1 (by kernel_rfl) ?_
  refine Wo.pre 1 (by kernel_rfl) ?_
  refine Wo.val (.bool true) H13 (by kernel_rfl) (iop_eqB (k := .i64) (a := vecE ld.length size) (b := vecE ld.length size) true (by kernel_rfl) (by kernel_rfl) (by simp)) ?_
  refine Wo.pre 1 (by kernel_rfl) ?_
  refine Wo.pre 1 (by kernel_rfl) ?_
  refine Wo.pre 1 (by kernel_rfl) ?_
  refine Wo.pre 1 (by kernel_rfl) ?_
  refine Wo.call (by kernel_rfl) (by kernel_rfl) (q2) ?_
  refine Wo.pre 1 (by kernel_rfl) ?_
  refine Wo.pre 1 (by kernel_rfl) ?_
  refine Wo.pre 1 (by kernel_rfl) ?_
  refine Wo.pre 1 (by kernel_rfl) ?_
  refine Wo.val (.int .i64 lb.length) H13 (by kernel_rfl) (((hb9.ext X913).len (by kernel_rfl))) ?_
  refine Wo.val rest H13 (by kernel_rfl) (s1 _ _ _ (by kernel_rfl) (by kernel_rfl)) ?_
  refine Wo.val _ _ (by kernel_rfl) (e9' _) ?_
  refine Wo.call (by kernel_rfl) (by kernel_rfl) (q3) ?_
  refine Wo.pre 1 (by kernel_rfl) ?_
  refine Wo.pre 1 (by kernel_rfl) ?_
  refine Wo.nil ?_
  refine Wp.seq ?_
  refine Wp.seq ?_
  refine Wp.region ?_
  refine Wo.pre 1 (by kernel_rfl) ?_
  refine Wo.val (.int .i64 LX.length) H14 (by kernel_rfl) ((((((ox.ext X11).ext X12).ext X13).ext X14).bs.len (by kernel_rfl))) ?_
  refine Wo.pre 1 (by kernel_rfl) ?_
  refine Wo.nil ?_
  refine Wp.block ?_
  have n1 := X10.1
  have n2 := X11.1
  have n3 := X12.1
  have n4 := X13.1
  have n5 := X14.1
  obtain ⟨bx, gx, hbx, hsx⟩ := ox.spoil (((X11.trans X12).trans X13).trans X14) H14.n
  refine spoil3_2 hLXm LX.length 0 (by omega) H14 _ x (by kernel_rfl) (by kernel_rfl) (by kernel_rfl) (by kernel_rfl) hsx _ ?_
  intro ts1 K1 g0 g1 g2 g3 g4
  clear hsx g4
  rw [laid_of g0 19 (fun j hj => g1 j (by omega) (by omega)) [(3, xb), (4, xd), (7, ow), (8, gi), (9, room), (14, z), (18, .bool true)] (by kernel_rfl) (by kernel_rfl)]
  have XK1 : ∀ b, b < H14.n → ¬ (H9.n ≤ b ∧ b < H10.n) → K1.get b = H14.get b := fun b hb hn => g3 b (by omega)
  have hz1 : Ow H11.n K1 z LZ := by
    rcases oz with h0 | ⟨b, g, w1, w2, w3, w4⟩
    · exact .inl h0
    · refine .inr ⟨b, g, w1, by omega, ?_, w4⟩
      rw [XK1 b (by omega) (by omega), X14.2 b (by omega), X13.2 b (by omega)]
      exact w3
  obtain ⟨bz, gz, hbz, hsz⟩ := hz1.spoil (Ext.refl K1) K1.n
  refine Wp.seq ?_
  refine Wp.seq ?_
  refine Wp.region ?_
  refine Wo.pre 1 (by kernel_rfl) ?_
  refine Wo.val (.int .i64 LZ.length) K1 (by kernel_rfl) ((hz1.bs.len (by kernel_rfl))) ?_
  refine Wo.pre 8 (by kernel_rfl) ?_
  refine Wo.nil ?_
  refine Wp.block ?_
  refine spoil3_1 hLZm LZ.length 0 (by omega) K1 _ z (by kernel_rfl) (by kernel_rfl) (by kernel_rfl) (by kernel_rfl) hsz _ ?_
  intro ts2 K2 k0 k1 k2 k3 k4
  clear hsz k4
  rw [laid_of k0 19 (fun j hj => k1 j (by omega) (by omega)) [(3, xb), (4, xd), (7, ow), (8, gi), (9, room), (18, .bool true)] (by kernel_rfl) (by kernel_rfl)]
  have XK : Ext H9 K2 := by
    refine ⟨by omega, fun b hb => ?_⟩
    rw [k3 b (by omega), XK1 b (by omega) (by omega), X14.2 b (by omega), X13.2 b (by omega), X12.2 b (by omega), X11.2 b (by omega), X10.2 b (by omega)]
  have p1 := equal_run (((oa.ext X5).ext X9).ext XK).bs (hb9.ext XK)
  rw [show (lb == lb) = true by simp] at p1
  have p2 := equal_run ((ob.ext X9).ext XK).bs (hd9.ext XK)
  rw [show (ld == ld) = true by simp] at p2
  have orK := od.ext XK
  obtain ⟨rk, u1, u2, _⟩ := orK.bs.take orK.cok (n := lb.length) (by omega)
  rw [List.take_left] at u2
  have p3 := equal_run u2 (hb9.ext XK)
  rw [show (lb == lb) = true by simp] at p3
  refine Wp.seq ?_
  refine Wp.region ?_
  refine Wo.call (by kernel_rfl) (by kernel_rfl) (awake24_run K2) ?_
  refine Wo.pre 3 (by kernel_rfl) ?_
  refine Wo.pre 3 (by kernel_rfl) ?_
  refine Wo.call (by kernel_rfl) (by kernel_rfl) (p1) ?_
  refine Wo.pre 3 (by kernel_rfl) ?_
  refine Wo.pre 1 (by kernel_rfl) ?_
  refine Wo.call (by kernel_rfl) (by kernel_rfl) (p2) ?_
  refine Wo.pre 3 (by kernel_rfl) ?_
  refine Wo.pre 1 (by kernel_rfl) ?_
  refine Wo.val (.int .i64 lb.length) K2 (by kernel_rfl) (((hb9.ext XK).len (by kernel_rfl))) ?_
  refine Wo.val rk K2 (by kernel_rfl) (u1 _ _ _ (by kernel_rfl) (by kernel_rfl)) ?_
  refine Wo.pre 1 (by kernel_rfl) ?_
  refine Wo.call (by kernel_rfl) (by kernel_rfl) (p3) ?_
  refine Wo.pre 8 (by kernel_rfl) ?_
  refine Wo.nil ?_
  exact Wp.ret ⟨.inr rfl, .bool true, (by kernel_rfl), rfl⟩
end Go.Det
