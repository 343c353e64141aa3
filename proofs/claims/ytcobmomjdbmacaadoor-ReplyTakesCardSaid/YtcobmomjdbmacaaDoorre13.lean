/- Reply: the document's Take: one head tried: the walks. -/
import Derived.Test.YtcobmomjdbmacaaDoorre12
set_option linter.unusedVariables false
set_option linter.unusedSimpArgs false
set_option linter.unusedSectionVars false
namespace Go.Det
open Go.Proofs
attribute [local irreducible] Wp Wo Wd iop ev slots quiets wanted put

theorem ret9 {h0 h : H} {l : List UInt8} {R : Re.Res} {ts : List AV} {p2 : Nat} {a b c : AV} {N E : AV} (g2 : getL ts 2 = some (.ptr ⟨p2, 0, 0⟩)) (p : Pt h p2 (.cells 0 28 [a, b, c] 0 false)) (g3 : getL ts 3 = some N) (g4 : getL ts 4 = some E) (hE : Ext h0 h) (hT : TakeIs h0 h l (.tup [.agg [a, b, c], N, E]) R) : After h0 l R .ret (ts, h) :=
  ⟨.inr rfl, _, ret_many (res_cell g2 (p.ld (a := ⟨p2, 0, 0⟩) (ag := some 3) rfl rfl) (res_tmp (by rw [g3]; rfl) (res_tmp (by rw [g4]; rfl) res_nil))) rfl, hE, hT⟩
theorem head_len {st n : Nat} (hn : n ≤ 1048576) (c : Bool) : (Re.head st n c).length ≤ 200 := by
  have d1 := dec_len20 st
  have d2 := dec_len20 n
  have d3 := words_len (st : Int)
  have hv : Re.ver.length = 9 := rfl
  have hk : Re.kind.length = 50 := rfl
  have he := Re.ending_len c
  simp only [Re.head, Re.line, List.length_append, List.length_cons, List.length_nil]
  omega

set_option maxHeartbeats 16000000 in
/-- One head is tried. -/
theorem try0 {h0 h : H} {x : AV} {l f : List UInt8} {A5 A9 : AA} {n5 n9 i j st n p2 : Nat} {q5 q9 : Cp} {may : Bool} {R : Re.Res} {L : List (Nat × Nat × Bool)} (hf : f = l.take 200) (hx : Bs h0 x l) (cx : Cok x) (hl : l.length ≤ 140737488351232) (hE : Ext h0 h) (P2 : Pt h p2 (.cells 0 28 [.int .i64 0, .nils, .bool false] 0 false)) (hp2 : h0.n ≤ p2) (a5 : AtN h A5.b A5.g (A5.o + i * 1) (.int .i64 st)) (a9 : AtN h A9.b A9.g (A9.o + j * 1) (.int .i64 n)) (h5 : A5.b ≠ p2) (h9 : A9.b ≠ p2) (hi : i < n5) (hj : j < n9) (hst : st ≤ 1000) (hn8 : n < 1000000000) (hS : Re.scan l ((st, n, false) :: L) may = R)
    {ts : List AV} (t0 : ts.length = 110) (g0 : getL ts 0 = some x) (g2 : getL ts 2 = some (.ptr ⟨p2, 0, 0⟩)) (g5 : getL ts 5 = some (.sl A5 n5 q5)) (g6 : getL ts 6 = some (.str f)) (g7 : getL ts 7 = some (.bool may)) (g8 : getL ts 8 = some (.int .i64 i)) (g9 : getL ts 9 = some (.sl A9 n9 q9)) (g10 : getL ts 10 = some (.int .i64 j)) (g11 : getL ts 11 = some (.int .i64 0)) {Q : Ex → St → Prop} (hret : ∀ ts' h', After h0 l R .ret (ts', h') → Q .ret (ts', h'))
    (hN : ∀ ts' h' may', ts'.length = 110 → getL ts' 0 = some x → getL ts' 2 = some (.ptr ⟨p2, 0, 0⟩) → getL ts' 5 = some (.sl A5 n5 q5) → getL ts' 6 = some (.str f) → getL ts' 7 = some (.bool may') → getL ts' 8 = some (.int .i64 i) → getL ts' 9 = some (.sl A9 n9 q9) → getL ts' 10 = some (.int .i64 j) → getL ts' 11 = some (.int .i64 1) → Ext h0 h' → Ext h h' → Pt h' p2 (.cells 0 28 [.int .i64 0, .nils, .bool false] 0 false) → AtN h' A5.b A5.g (A5.o + i * 1) (.int .i64 st) → AtN h' A9.b A9.g (A9.o + j * 1) (.int .i64 n) → Re.scan l L may' = R → Wp TF (.loop l9_1) (ts', h') Q) : Wp TF (.loop l9_1) (ts, h) Q := by
  have hmx : 200000000000000 = maxRow := rfl
  have hEn := hE.1
  rw [Re.scan, ← hf] at hS
  refine Wp.loop ?_
  rw [laid_eq t0 [(0, x), (2, .ptr ⟨p2, 0, 0⟩), (5, .sl A5 n5 q5), (6, .str f), (7, .bool may), (8, .int .i64 i), (9, .sl A9 n9 q9), (10, .int .i64 j), (11, .int .i64 0)] (by simp [g0, g2, g5, g6, g7, g8, g9, g10, g11])]
  by_cases hb : n > 1048576
  · rw [if_pos (show n > Re.most from hb)] at hS
    have m1 := hx.bq
    have k2 := hx.parts
    have m3 := P2.1
    have m4 := a5.1
    have m5 := a9.1
    have m6 := hE.1
    refine Wp.seq ?_
    refine Wp.seq ?_
    refine Wp.region ?_
    refine Wo.pre 1 (by kernel_rfl) ?_
    refine Wo.pre 1 (by kernel_rfl) ?_
    refine Wo.nil ?_
    refine Wp.cond true (by kernel_rfl) ?_
    refine Wp.skip ?_
    refine Wp.seq ?_
    refine Wp.block ?_
    refine Wp.seq ?_
    refine Wp.seq ?_
    refine Wp.region ?_
    refine Wo.pre 2 (by kernel_rfl) ?_
    refine Wo.val (.ptr ⟨(A9 : AA).b, (A9 : AA).g, (A9 : AA).o + (j) * 1⟩) h (by kernel_rfl) (iop_iaN (a := A9) (n := n9) (c := q9) (ie := (↑j : Int)) (i := (j)) (by kernel_rfl) (by kernel_rfl) rfl (by first | omega | (simp; omega))) ?_
    refine Wo.val (AV.int IntKind.i64 ↑n) h (by kernel_rfl) (iop_ld (a := ⟨A9.b, A9.g, A9.o + j * 1⟩) (by kernel_rfl) a9.2) ?_
    refine Wo.cmp (op := .gtr) (x := IX.t 43) (y := IX.c (AV.int IntKind.i64 1048576)) (k := IntKind.i64) (a := ↑n) (b := 1048576) ((↑n : Int) > (1048576 : Int)) (by kernel_rfl) (by kernel_rfl) (by kernel_rfl) (by kernel_rfl) (by simp) (by kernel_rfl) (fun q7 => ?_) (fun q7 => ?_)
    rotate_left
    · (exfalso; omega)
    refine Wo.nil ?_
    refine Wp.cond true (by kernel_rfl) ?_
    refine Wp.exit ?_
    refine Wp.region ?_
    refine Wo.pre 1 (by kernel_rfl) ?_
    refine Wo.pre 2 (by kernel_rfl) ?_
    refine Wo.nil ?_
    exact hN _ _ may (by kernel_rfl) (by kernel_rfl) (by kernel_rfl) (by kernel_rfl) (by kernel_rfl) (by kernel_rfl) (by kernel_rfl) (by kernel_rfl) (by kernel_rfl) (by kernel_rfl) (hE.fr.ext0) (Ext.refl _) P2 a5 a9 hS
  · rw [if_neg (show ¬ n > Re.most from hb)] at hS
    have hhl := head_len (st := st) (n := n) (by omega) false
    obtain ⟨hd, hhd⟩ : ∃ hd, hd = Re.head st n false := ⟨_, rfl⟩
    rw [← hhd] at hS hhl
    have hrun : ∀ hh, ∃ r h', Runs TF 25 [.int .i64 ((st : Nat) : Int), .int .i64 ((n : Nat) : Int), .bool false] hh r h' ∧ r = .str hd ∧ Ext hh h' := fun hh => by rw [hhd]; exact head_run hh hst (by omega) false
    obtain ⟨rr, hh1, c25, rfl, x25⟩ := hrun h
    clear hrun
    cases hpre : hd.isPrefixOf f with
    | true =>
      rw [hpre, if_pos rfl] at hS
      by_cases hsh : l.length < hd.length + n
      · rw [if_pos hsh] at hS
        have m1 := hx.bq
        have k2 := hx.parts
        have m3 := P2.1
        have m4 := a5.1
        have m5 := a9.1
        have m6 := hE.1
        have m7 := x25.1
        refine Wp.seq ?_
        refine Wp.seq ?_
        refine Wp.region ?_
        refine Wo.pre 1 (by kernel_rfl) ?_
        refine Wo.pre 1 (by kernel_rfl) ?_
        refine Wo.nil ?_
        refine Wp.cond true (by kernel_rfl) ?_
        refine Wp.skip ?_
        refine Wp.seq ?_
        refine Wp.block ?_
        refine Wp.seq ?_
        refine Wp.seq ?_
        refine Wp.region ?_
        refine Wo.pre 2 (by kernel_rfl) ?_
        refine Wo.val (.ptr ⟨(A9 : AA).b, (A9 : AA).g, (A9 : AA).o + (j) * 1⟩) h (by kernel_rfl) (iop_iaN (a := A9) (n := n9) (c := q9) (ie := (↑j : Int)) (i := (j)) (by kernel_rfl) (by kernel_rfl) rfl (by first | omega | (simp; omega))) ?_
        refine Wo.val (AV.int IntKind.i64 ↑n) h (by kernel_rfl) (iop_ld (a := ⟨A9.b, A9.g, A9.o + j * 1⟩) (by kernel_rfl) a9.2) ?_
        refine Wo.cmp (op := .gtr) (x := IX.t 43) (y := IX.c (AV.int IntKind.i64 1048576)) (k := IntKind.i64) (a := ↑n) (b := 1048576) ((↑n : Int) > (1048576 : Int)) (by kernel_rfl) (by kernel_rfl) (by kernel_rfl) (by kernel_rfl) (by simp) (by kernel_rfl) (fun q8 => ?_) (fun q8 => ?_)
        · (exfalso; omega)
        refine Wo.nil ?_
        refine Wp.cond false (by kernel_rfl) ?_
        refine Wp.skip ?_
        refine Wp.seq ?_
        refine Wp.draw ?_
        refine Wd.pure (by kernel_rfl) (by kernel_rfl) ?_
        refine Wd.pure (by kernel_rfl) (by kernel_rfl) ?_
        refine Wd.make (.ptr ⟨(A5 : AA).b, (A5 : AA).g, (A5 : AA).o + (i) * 1⟩) h (by kernel_rfl) (by kernel_rfl) (iop_iaN (a := A5) (n := n5) (c := q5) (ie := (↑i : Int)) (i := (i)) (by kernel_rfl) (by kernel_rfl) rfl (by first | omega | (simp; omega))) ?_
        refine Wd.read (AV.int IntKind.i64 ↑st) (.ld none (.c (.ptr ⟨A5.b, A5.g, A5.o + i * 1⟩))) (by kernel_rfl) (by kernel_rfl) (iop_ld (a := ⟨A5.b, A5.g, A5.o + i * 1⟩) (by kernel_rfl) a5.2) ?_
        refine Wd.pure (by kernel_rfl) (by kernel_rfl) ?_
        refine Wd.pure (by kernel_rfl) (by kernel_rfl) ?_
        refine Wd.make (.ptr ⟨(A9 : AA).b, (A9 : AA).g, (A9 : AA).o + (j) * 1⟩) h (by kernel_rfl) (by kernel_rfl) (iop_iaN (a := A9) (n := n9) (c := q9) (ie := (↑j : Int)) (i := (j)) (by kernel_rfl) (by kernel_rfl) rfl (by first | omega | (simp; omega))) ?_
        refine Wd.read (AV.int IntKind.i64 ↑n) (.ld none (.c (.ptr ⟨A9.b, A9.g, A9.o + j * 1⟩))) (by kernel_rfl) (by kernel_rfl) (iop_ld (a := ⟨A9.b, A9.g, A9.o + j * 1⟩) (by kernel_rfl) a9.2) ?_
        refine Wd.pure (by kernel_rfl) (by kernel_rfl) ?_
        refine Wd.pure (by kernel_rfl) (by kernel_rfl) ?_
        refine Wd.call (by kernel_rfl) (by kernel_rfl) c25 (holds_of [(IOp.ld none (IX.c (AV.ptr { b := A9.b, g := A9.g, o := A9.o + j * 1 })), AV.int IntKind.i64 ↑n, 7), (IOp.ld none (IX.c (AV.ptr { b := A5.b, g := A5.g, o := A5.o + i * 1 })), AV.int IntKind.i64 ↑st, 3)] (by kernel_rfl) (holds_and (rd_ld a9.2) (holds_and (rd_ld a5.2) rfl))) ?_
        clear c25
        refine Wd.pure (by kernel_rfl) (by kernel_rfl) ?_
        refine Wd.done (holds_of [] (by kernel_rfl) rfl) ?_
        refine Wp.seq ?_
        refine Wp.seq ?_
        refine Wp.region ?_
        refine Wo.pre 2 (by kernel_rfl) ?_
        have c9 := begs_run (hh1) (f) (hd)
        refine Wo.call (by kernel_rfl) (by kernel_rfl) c9 ?_
        clear c9
        refine Wo.boolS (fun q10 => ?_) (fun q10 => ?_)
        rotate_left
        · exact absurd (hpre.symm.trans (by with_reducible assumption)) (by decide)
        refine Wo.nil ?_
        refine Wp.cond true (by kernel_rfl) ?_
        refine Wp.seq ?_
        refine Wp.seq ?_
        refine Wp.region ?_
        refine Wo.pre 1 (by kernel_rfl) ?_
        have F11 := (hx.fr (hE.fr.trans0 x25.fr) (.inr id))
        refine Wo.val (.int .i64 (List.length (l) : Nat)) hh1 (by kernel_rfl) (Bs.len F11 (by kernel_rfl)) ?_
        refine Wo.pre 4 (by kernel_rfl) ?_
        refine Wo.val (.ptr ⟨(A9 : AA).b, (A9 : AA).g, (A9 : AA).o + (j) * 1⟩) hh1 (by kernel_rfl) (iop_iaN (a := A9) (n := n9) (c := q9) (ie := (↑j : Int)) (i := (j)) (by kernel_rfl) (by kernel_rfl) rfl (by first | omega | (simp; omega))) ?_
        have F12 := (a9.fr x25.fr id)
        refine Wo.val (AV.int IntKind.i64 ↑n) hh1 (by kernel_rfl) (iop_ld (a := ⟨A9.b, A9.g, A9.o + j * 1⟩) (by kernel_rfl) F12.2) ?_
        refine Wo.val (.int IntKind.i64 ((↑hd.length : Int) + (↑n : Int))) hh1 (by kernel_rfl) (iop_arith (op := .add) (a := ↑hd.length) (b := ↑n) (by kernel_rfl) (by kernel_rfl) (by simp) (bin_add IntKind.i64 (by simp only [min_i64]; omega) (by simp only [max_i64]; omega))) ?_
        refine Wo.cmp (op := .lss) (x := IX.t 60) (y := IX.t 67) (k := IntKind.i64) (a := ↑l.length) (b := ↑hd.length + ↑n) ((↑l.length : Int) < (↑hd.length + ↑n : Int)) (by kernel_rfl) (by kernel_rfl) (by kernel_rfl) (by kernel_rfl) (by simp) (by kernel_rfl) (fun q13 => ?_) (fun q13 => ?_)
        rotate_left
        · (exfalso; omega)
        have m14 := F11.bq
        have k15 := F11.parts
        have m16 := F12.1
        refine Wo.nil ?_
        refine Wp.cond true (by kernel_rfl) ?_
        refine Wp.seq ?_
        refine Wp.region ?_
        refine Wo.val (.agg [AV.int IntKind.i64 0, AV.nils, AV.bool false]) hh1 (by kernel_rfl) (iop_buildP rfl) ?_
        have F17 := (P2.fr x25.fr id)
        obtain ⟨H18, e18, P18, X18, n18⟩ := F17.st 0 [AV.int IntKind.i64 0, AV.nils, AV.bool false] (by simp) (ones_cons rfl (ones_cons rfl (ones_cons rfl ones_nil)))
        refine Wo.val .undef H18 (by kernel_rfl) (iop_stP (a := { b := p2, g := 0, o := 0 }) (v := AV.agg [AV.int IntKind.i64 0, AV.nils, AV.bool false]) (vs := [AV.int IntKind.i64 0, AV.nils, AV.bool false]) (by kernel_rfl) (by kernel_rfl) rfl rfl e18) ?_
        have m19 := X18.1
        replace P18 : Pt H18 p2 (Blk.cells 0 28 [AV.int IntKind.i64 0, AV.nils, AV.bool false] 0 false) := P18
        refine Wo.pre 2 (by kernel_rfl) ?_
        refine Wo.nil ?_
        refine Wp.ret ?_
        exact hret _ _ (ret9 (p2 := p2) (a := .int .i64 0) (b := .nils) (c := .bool false) (N := .int .i64 0) (E := .int .i64 44) (by kernel_rfl) P18 (by kernel_rfl) (by kernel_rfl) (((hE.fr.trans0 x25.fr).transL X18).ext (by intro s hs; first | omega | (dsimp only at hs; omega) | (simp only [blk_nils, blk_sl] at hs ⊢; omega))) (by rw [← hS]; rfl))
      · rw [if_neg hsh] at hS
        subst hS
        have m1 := hx.bq
        have k2 := hx.parts
        have m3 := P2.1
        have m4 := a5.1
        have m5 := a9.1
        have m6 := hE.1
        have m7 := x25.1
        refine Wp.seq ?_
        refine Wp.seq ?_
        refine Wp.region ?_
        refine Wo.pre 1 (by kernel_rfl) ?_
        refine Wo.pre 1 (by kernel_rfl) ?_
        refine Wo.nil ?_
        refine Wp.cond true (by kernel_rfl) ?_
        refine Wp.skip ?_
        refine Wp.seq ?_
        refine Wp.block ?_
        refine Wp.seq ?_
        refine Wp.seq ?_
        refine Wp.region ?_
        refine Wo.pre 2 (by kernel_rfl) ?_
        refine Wo.val (.ptr ⟨(A9 : AA).b, (A9 : AA).g, (A9 : AA).o + (j) * 1⟩) h (by kernel_rfl) (iop_iaN (a := A9) (n := n9) (c := q9) (ie := (↑j : Int)) (i := (j)) (by kernel_rfl) (by kernel_rfl) rfl (by first | omega | (simp; omega))) ?_
        refine Wo.val (AV.int IntKind.i64 ↑n) h (by kernel_rfl) (iop_ld (a := ⟨A9.b, A9.g, A9.o + j * 1⟩) (by kernel_rfl) a9.2) ?_
        refine Wo.cmp (op := .gtr) (x := IX.t 43) (y := IX.c (AV.int IntKind.i64 1048576)) (k := IntKind.i64) (a := ↑n) (b := 1048576) ((↑n : Int) > (1048576 : Int)) (by kernel_rfl) (by kernel_rfl) (by kernel_rfl) (by kernel_rfl) (by simp) (by kernel_rfl) (fun q8 => ?_) (fun q8 => ?_)
        · (exfalso; omega)
        refine Wo.nil ?_
        refine Wp.cond false (by kernel_rfl) ?_
        refine Wp.skip ?_
        refine Wp.seq ?_
        refine Wp.draw ?_
        refine Wd.pure (by kernel_rfl) (by kernel_rfl) ?_
        refine Wd.pure (by kernel_rfl) (by kernel_rfl) ?_
        refine Wd.make (.ptr ⟨(A5 : AA).b, (A5 : AA).g, (A5 : AA).o + (i) * 1⟩) h (by kernel_rfl) (by kernel_rfl) (iop_iaN (a := A5) (n := n5) (c := q5) (ie := (↑i : Int)) (i := (i)) (by kernel_rfl) (by kernel_rfl) rfl (by first | omega | (simp; omega))) ?_
        refine Wd.read (AV.int IntKind.i64 ↑st) (.ld none (.c (.ptr ⟨A5.b, A5.g, A5.o + i * 1⟩))) (by kernel_rfl) (by kernel_rfl) (iop_ld (a := ⟨A5.b, A5.g, A5.o + i * 1⟩) (by kernel_rfl) a5.2) ?_
        refine Wd.pure (by kernel_rfl) (by kernel_rfl) ?_
        refine Wd.pure (by kernel_rfl) (by kernel_rfl) ?_
        refine Wd.make (.ptr ⟨(A9 : AA).b, (A9 : AA).g, (A9 : AA).o + (j) * 1⟩) h (by kernel_rfl) (by kernel_rfl) (iop_iaN (a := A9) (n := n9) (c := q9) (ie := (↑j : Int)) (i := (j)) (by kernel_rfl) (by kernel_rfl) rfl (by first | omega | (simp; omega))) ?_
        refine Wd.read (AV.int IntKind.i64 ↑n) (.ld none (.c (.ptr ⟨A9.b, A9.g, A9.o + j * 1⟩))) (by kernel_rfl) (by kernel_rfl) (iop_ld (a := ⟨A9.b, A9.g, A9.o + j * 1⟩) (by kernel_rfl) a9.2) ?_
        refine Wd.pure (by kernel_rfl) (by kernel_rfl) ?_
        refine Wd.pure (by kernel_rfl) (by kernel_rfl) ?_
        refine Wd.call (by kernel_rfl) (by kernel_rfl) c25 (holds_of [(IOp.ld none (IX.c (AV.ptr { b := A9.b, g := A9.g, o := A9.o + j * 1 })), AV.int IntKind.i64 ↑n, 7), (IOp.ld none (IX.c (AV.ptr { b := A5.b, g := A5.g, o := A5.o + i * 1 })), AV.int IntKind.i64 ↑st, 3)] (by kernel_rfl) (holds_and (rd_ld a9.2) (holds_and (rd_ld a5.2) rfl))) ?_
        clear c25
        refine Wd.pure (by kernel_rfl) (by kernel_rfl) ?_
        refine Wd.done (holds_of [] (by kernel_rfl) rfl) ?_
        refine Wp.seq ?_
        refine Wp.seq ?_
        refine Wp.region ?_
        refine Wo.pre 2 (by kernel_rfl) ?_
        have c9 := begs_run (hh1) (f) (hd)
        refine Wo.call (by kernel_rfl) (by kernel_rfl) c9 ?_
        clear c9
        refine Wo.boolS (fun q10 => ?_) (fun q10 => ?_)
        rotate_left
        · exact absurd (hpre.symm.trans (by with_reducible assumption)) (by decide)
        refine Wo.nil ?_
        refine Wp.cond true (by kernel_rfl) ?_
        refine Wp.seq ?_
        refine Wp.seq ?_
        refine Wp.region ?_
        refine Wo.pre 1 (by kernel_rfl) ?_
        have F11 := (hx.fr (hE.fr.trans0 x25.fr) (.inr id))
        refine Wo.val (.int .i64 (List.length (l) : Nat)) hh1 (by kernel_rfl) (Bs.len F11 (by kernel_rfl)) ?_
        refine Wo.pre 4 (by kernel_rfl) ?_
        refine Wo.val (.ptr ⟨(A9 : AA).b, (A9 : AA).g, (A9 : AA).o + (j) * 1⟩) hh1 (by kernel_rfl) (iop_iaN (a := A9) (n := n9) (c := q9) (ie := (↑j : Int)) (i := (j)) (by kernel_rfl) (by kernel_rfl) rfl (by first | omega | (simp; omega))) ?_
        have F12 := (a9.fr x25.fr id)
        refine Wo.val (AV.int IntKind.i64 ↑n) hh1 (by kernel_rfl) (iop_ld (a := ⟨A9.b, A9.g, A9.o + j * 1⟩) (by kernel_rfl) F12.2) ?_
        refine Wo.val (.int IntKind.i64 ((↑hd.length : Int) + (↑n : Int))) hh1 (by kernel_rfl) (iop_arith (op := .add) (a := ↑hd.length) (b := ↑n) (by kernel_rfl) (by kernel_rfl) (by simp) (bin_add IntKind.i64 (by simp only [min_i64]; omega) (by simp only [max_i64]; omega))) ?_
        refine Wo.cmp (op := .lss) (x := IX.t 60) (y := IX.t 67) (k := IntKind.i64) (a := ↑l.length) (b := ↑hd.length + ↑n) ((↑l.length : Int) < (↑hd.length + ↑n : Int)) (by kernel_rfl) (by kernel_rfl) (by kernel_rfl) (by kernel_rfl) (by simp) (by kernel_rfl) (fun q13 => ?_) (fun q13 => ?_)
        · (exfalso; omega)
        have m14 := F11.bq
        have k15 := F11.parts
        have m16 := F12.1
        refine Wo.nil ?_
        refine Wp.cond false (by kernel_rfl) ?_
        refine Wp.skip ?_
        refine Wp.seq ?_
        refine Wp.region ?_
        refine Wo.pre 2 (by kernel_rfl) ?_
        refine Wo.val (.ptr ⟨(A5 : AA).b, (A5 : AA).g, (A5 : AA).o + (i) * 1⟩) hh1 (by kernel_rfl) (iop_iaN (a := A5) (n := n5) (c := q5) (ie := (↑i : Int)) (i := (i)) (by kernel_rfl) (by kernel_rfl) rfl (by first | omega | (simp; omega))) ?_
        have F17 := (a5.fr x25.fr id)
        refine Wo.val (AV.int IntKind.i64 ↑st) hh1 (by kernel_rfl) (iop_ld (a := ⟨A5.b, A5.g, A5.o + i * 1⟩) (by kernel_rfl) F17.2) ?_
        refine Wo.pre 1 (by kernel_rfl) ?_
        refine Wo.pre 2 (by kernel_rfl) ?_
        obtain ⟨H18, e18, P18, X18, n18⟩ := pt_new hh1 28 [AV.int IntKind.i64 0, AV.nils, AV.bool false] (ones_cons rfl (ones_cons rfl (ones_cons rfl ones_nil)))
        refine Wo.val (.ptr ⟨H.n hh1, 0, 0⟩) H18 (by kernel_rfl) (e18 (v := AV.agg [AV.int IntKind.i64 0, AV.nils, AV.bool false]) (by kernel_rfl) rfl) ?_
        clear e18
        have m19 := X18.1
        obtain ⟨H20, e20, P20, X20, n20⟩ := P18.st 0 [AV.int IntKind.i64 ↑st, AV.nils, AV.bool false] (by simp) (ones_cons rfl (ones_cons rfl (ones_cons rfl ones_nil)))
        refine Wo.val .undef H20 (by kernel_rfl) (iop_stP (a := { b := hh1.n, g := 0, o := 0 }) (v := AV.agg [AV.int IntKind.i64 ↑st, AV.nils, AV.bool false]) (vs := [AV.int IntKind.i64 ↑st, AV.nils, AV.bool false]) (by kernel_rfl) (by kernel_rfl) rfl rfl e20) ?_
        have m21 := X20.1
        replace P20 : Pt H20 hh1.n (Blk.cells 0 28 [AV.int IntKind.i64 ↑st, AV.nils, AV.bool false] 0 false) := P20
        refine Wo.nil ?_
        refine Wp.seq ?_
        refine Wp.draw ?_
        refine Wd.pure (by kernel_rfl) (by kernel_rfl) ?_
        refine Wd.read (AV.nils) (.ld (none) (.c (.ptr { b := hh1.n, g := 0, o := 1 }))) (by kernel_rfl) (by kernel_rfl) (iop_ldP P20 (a := { b := hh1.n, g := 0, o := 1 }) (by kernel_rfl) rfl (by kernel_rfl)) ?_
        refine Wd.pure (by kernel_rfl) (by kernel_rfl) ?_
        refine Wd.pure (by kernel_rfl) (by kernel_rfl) ?_
        refine Wd.pure (by kernel_rfl) (by kernel_rfl) ?_
        refine Wd.pure (by kernel_rfl) (by kernel_rfl) ?_
        refine Wd.pure (by kernel_rfl) (by kernel_rfl) ?_
        refine Wd.pure (by kernel_rfl) (by kernel_rfl) ?_
        refine Wd.pure (by kernel_rfl) (by kernel_rfl) ?_
        refine Wd.make (.ptr ⟨(A9 : AA).b, (A9 : AA).g, (A9 : AA).o + (j) * 1⟩) H20 (by kernel_rfl) (by kernel_rfl) (iop_iaN (a := A9) (n := n9) (c := q9) (ie := (↑j : Int)) (i := (j)) (by kernel_rfl) (by kernel_rfl) rfl (by first | omega | (simp; omega))) ?_
        have F22 := (F12.fr (X18.transL X20) (by (first | omega | (intro s hs; omega) | (dsimp only; omega) | (intro s hs; dsimp only at hs; omega) | (simp only [blk_nils, blk_sl]; omega) | (intro s hs; simp only [blk_nils, blk_sl] at hs ⊢; omega) | (simp; done))))
        refine Wd.read (AV.int IntKind.i64 ↑n) (.ld none (.c (.ptr ⟨A9.b, A9.g, A9.o + j * 1⟩))) (by kernel_rfl) (by kernel_rfl) (iop_ld (a := ⟨A9.b, A9.g, A9.o + j * 1⟩) (by kernel_rfl) F22.2) ?_
        refine Wd.make (.int IntKind.i64 ((↑hd.length : Int) + (↑n : Int))) H20 (by kernel_rfl) (by kernel_rfl) (iop_arith (op := .add) (a := ↑hd.length) (b := ↑n) (by kernel_rfl) (by kernel_rfl) (by simp) (bin_add IntKind.i64 (by simp only [min_i64]; omega) (by simp only [max_i64]; omega))) ?_
        have F23 := (F11.fr (X18.transL X20) (by (first | omega | (intro s hs; omega) | (dsimp only; omega) | (intro s hs; dsimp only at hs; omega) | (simp only [blk_nils, blk_sl]; omega) | (intro s hs; simp only [blk_nils, blk_sl] at hs ⊢; omega) | (simp; done))))
        obtain ⟨z24, e24, b24, o24⟩ := F23.subN cx (ei := (↑hd.length : Int)) (ej := (↑hd.length + ↑n : Int)) (hd.length) ((hd.length) + (n)) rfl (by omega) (by first | omega | simp; omega) (by first | omega | simp; omega)
        refine Wd.make z24 H20 (by kernel_rfl) (by kernel_rfl) (e24 (by kernel_rfl) (by kernel_rfl) (by kernel_rfl)) ?_
        clear e24
        have m25 := b24.bq
        have k26 := b24.parts
        obtain ⟨v27, H28, a29, q30, X31, q32⟩ := Ow.appF (Ow.nil0 (lo := H20.n)) b24 (by first | omega | (simp; omega) | (simp; done) | assumption) (by first | omega | (simp; omega) | (simp; done) | assumption)
        refine Wd.act _ _ (by kernel_rfl) (iop_appG (v := AV.nils) (w := z24) (by kernel_rfl) (by kernel_rfl) k26.2.2 a29) (holds_of [(IOp.ld none (IX.c (AV.ptr { b := A9.b, g := A9.g, o := A9.o + j * 1 })), AV.int IntKind.i64 ↑n, 10), (IOp.ld none (IX.c (AV.ptr { b := hh1.n, g := 0, o := 1 })), AV.nils, 1)] (by kernel_rfl) (holds_and (rd_ld F22.2) (holds_and (rd_ldP P20 rfl (by kernel_rfl)) rfl))) ?_
        have m33 := q30.bq
        have k34 := q30.parts
        have m35 := X31.1
        refine Wd.pure (by kernel_rfl) (by kernel_rfl) ?_
        have F36 := (P20.fr X31 (by (first | omega | (intro s hs; omega) | (dsimp only; omega) | (intro s hs; dsimp only at hs; omega) | (simp only [blk_nils, blk_sl]; omega) | (intro s hs; simp only [blk_nils, blk_sl] at hs ⊢; omega) | (simp; done))))
        obtain ⟨H37, e37, P37, X37, n37⟩ := F36.st 1 [v27] (by simp) (ones_cons k34.2.1 ones_nil)
        refine Wd.act .undef H37 (by kernel_rfl) (iop_stP (a := { b := hh1.n, g := 0, o := 1 }) (v := v27) (vs := [v27]) (by kernel_rfl) (by kernel_rfl) k34.1 rfl e37) (holds_of [] (by kernel_rfl) rfl) ?_
        have m38 := X37.1
        replace P37 : Pt H37 hh1.n (Blk.cells 0 28 [AV.int IntKind.i64 ↑st, v27, AV.bool false] 0 false) := P37
        refine Wd.done (holds_of [] (by kernel_rfl) rfl) ?_
        refine Wp.seq ?_
        refine Wp.draw ?_
        refine Wd.read (AV.agg [AV.int IntKind.i64 ↑st, v27, AV.bool false]) (.ld (some 3) (.c (.ptr { b := hh1.n, g := 0, o := 0 }))) (by kernel_rfl) (by kernel_rfl) (iop_ldP P37 (a := { b := hh1.n, g := 0, o := 0 }) (by kernel_rfl) rfl (by kernel_rfl)) ?_
        refine Wd.pure (by kernel_rfl) (by kernel_rfl) ?_
        refine Wd.pure (by kernel_rfl) (by kernel_rfl) ?_
        refine Wd.pure (by kernel_rfl) (by kernel_rfl) ?_
        refine Wd.pure (by kernel_rfl) (by kernel_rfl) ?_
        refine Wd.make (.ptr ⟨(A9 : AA).b, (A9 : AA).g, (A9 : AA).o + (j) * 1⟩) H37 (by kernel_rfl) (by kernel_rfl) (iop_iaN (a := A9) (n := n9) (c := q9) (ie := (↑j : Int)) (i := (j)) (by kernel_rfl) (by kernel_rfl) rfl (by first | omega | (simp; omega))) ?_
        have F39 := (F22.fr (X31.trans X37) (by (first | omega | (intro s hs; omega) | (dsimp only; omega) | (intro s hs; dsimp only at hs; omega) | (simp only [blk_nils, blk_sl]; omega) | (intro s hs; simp only [blk_nils, blk_sl] at hs ⊢; omega) | (simp; done))))
        refine Wd.read (AV.int IntKind.i64 ↑n) (.ld none (.c (.ptr ⟨A9.b, A9.g, A9.o + j * 1⟩))) (by kernel_rfl) (by kernel_rfl) (iop_ld (a := ⟨A9.b, A9.g, A9.o + j * 1⟩) (by kernel_rfl) F39.2) ?_
        refine Wd.make (.int IntKind.i64 ((↑hd.length : Int) + (↑n : Int))) H37 (by kernel_rfl) (by kernel_rfl) (iop_arith (op := .add) (a := ↑hd.length) (b := ↑n) (by kernel_rfl) (by kernel_rfl) (by simp) (bin_add IntKind.i64 (by simp only [min_i64]; omega) (by simp only [max_i64]; omega))) ?_
        have F40 := (P2.fr ((((x25.fr.trans0 X18).transL X20).trans X31).trans X37) (by (first | omega | (intro s hs; omega) | (dsimp only; omega) | (intro s hs; dsimp only at hs; omega) | (simp only [blk_nils, blk_sl]; omega) | (intro s hs; simp only [blk_nils, blk_sl] at hs ⊢; omega) | (simp; done))))
        obtain ⟨H41, e41, P41, X41, n41⟩ := F40.st 0 [AV.int IntKind.i64 ↑st, v27, AV.bool false] (by simp) (ones_cons rfl (ones_cons k34.2.1 (ones_cons rfl ones_nil)))
        refine Wd.act .undef H41 (by kernel_rfl) (iop_stP (a := { b := p2, g := 0, o := 0 }) (v := AV.agg [AV.int IntKind.i64 ↑st, v27, AV.bool false]) (vs := [AV.int IntKind.i64 ↑st, v27, AV.bool false]) (by kernel_rfl) (by kernel_rfl) rfl rfl e41) (holds_of [(IOp.ld none (IX.c (AV.ptr { b := A9.b, g := A9.g, o := A9.o + j * 1 })), AV.int IntKind.i64 ↑n, 6), (IOp.ld (some 3) (IX.c (AV.ptr { b := hh1.n, g := 0, o := 0 })), AV.agg [AV.int IntKind.i64 ↑st, v27, AV.bool false], 0)] (by kernel_rfl) (holds_and (rd_ld F39.2) (holds_and (rd_ldP P37 rfl (by kernel_rfl)) rfl))) ?_
        have m42 := X41.1
        replace P41 : Pt H41 p2 (Blk.cells 0 28 [AV.int IntKind.i64 ↑st, v27, AV.bool false] 0 false) := P41
        refine Wd.pure (by kernel_rfl) (by kernel_rfl) ?_
        refine Wd.pure (by kernel_rfl) (by kernel_rfl) ?_
        have F43 := (F39.fr X41 (by (first | omega | (intro s hs; omega) | (dsimp only; omega) | (intro s hs; dsimp only at hs; omega) | (simp only [blk_nils, blk_sl]; omega) | (intro s hs; simp only [blk_nils, blk_sl] at hs ⊢; omega) | (simp; done))))
        refine Wd.done (holds_of [(IOp.ld none (IX.c (AV.ptr { b := A9.b, g := A9.g, o := A9.o + j * 1 })), AV.int IntKind.i64 ↑n, 6)] (by kernel_rfl) (holds_and (rd_ld F43.2) rfl)) ?_
        refine Wp.ret ?_
        exact hret _ _ (ret9 (p2 := p2) (a := .int .i64 st) (c := .bool false) (N := .int .i64 ((hd.length : Int) + (n : Int))) (E := .int .i64 0) (by kernel_rfl) P41 (by kernel_rfl) (by kernel_rfl) (((((((hE.fr.trans0 x25.fr).trans0 X18).transL X20).trans X31).trans X37).trans X41).ext (by intro s hs; first | omega | (dsimp only at hs; omega) | (simp only [blk_nils, blk_sl] at hs ⊢; omega))) ⟨_, _, _, rfl, (by rw [← hhd]; exact (Int.natCast_add _ _).symm), ((q30.fr (X37.trans X41) (by have d0 := m33.1.e; (first | omega | (intro s hs; omega) | (dsimp only; omega) | (intro s hs; dsimp only at hs; omega) | (simp only [blk_nils, blk_sl]; omega) | (intro s hs; simp only [blk_nils, blk_sl] at hs ⊢; omega) | (simp; done)))).mono (by omega)), (by (rw [← hhd]; exact cut_eq rfl))⟩)
    | false =>
      rw [hpre, if_neg (by simp)] at hS
      cases may
      · rw [Bool.false_or] at hS
        cases hm : l.isPrefixOf hd with
        | true =>
          rw [hm] at hS
          have m1 := hx.bq
          have k2 := hx.parts
          have m3 := P2.1
          have m4 := a5.1
          have m5 := a9.1
          have m6 := hE.1
          have m7 := x25.1
          refine Wp.seq ?_
          refine Wp.seq ?_
          refine Wp.region ?_
          refine Wo.pre 1 (by kernel_rfl) ?_
          refine Wo.pre 1 (by kernel_rfl) ?_
          refine Wo.nil ?_
          refine Wp.cond true (by kernel_rfl) ?_
          refine Wp.skip ?_
          refine Wp.seq ?_
          refine Wp.block ?_
          refine Wp.seq ?_
          refine Wp.seq ?_
          refine Wp.region ?_
          refine Wo.pre 2 (by kernel_rfl) ?_
          refine Wo.val (.ptr ⟨(A9 : AA).b, (A9 : AA).g, (A9 : AA).o + (j) * 1⟩) h (by kernel_rfl) (iop_iaN (a := A9) (n := n9) (c := q9) (ie := (↑j : Int)) (i := (j)) (by kernel_rfl) (by kernel_rfl) rfl (by first | omega | (simp; omega))) ?_
          refine Wo.val (AV.int IntKind.i64 ↑n) h (by kernel_rfl) (iop_ld (a := ⟨A9.b, A9.g, A9.o + j * 1⟩) (by kernel_rfl) a9.2) ?_
          refine Wo.cmp (op := .gtr) (x := IX.t 43) (y := IX.c (AV.int IntKind.i64 1048576)) (k := IntKind.i64) (a := ↑n) (b := 1048576) ((↑n : Int) > (1048576 : Int)) (by kernel_rfl) (by kernel_rfl) (by kernel_rfl) (by kernel_rfl) (by simp) (by kernel_rfl) (fun q8 => ?_) (fun q8 => ?_)
          · (exfalso; omega)
          refine Wo.nil ?_
          refine Wp.cond false (by kernel_rfl) ?_
          refine Wp.skip ?_
          refine Wp.seq ?_
          refine Wp.draw ?_
          refine Wd.pure (by kernel_rfl) (by kernel_rfl) ?_
          refine Wd.pure (by kernel_rfl) (by kernel_rfl) ?_
          refine Wd.make (.ptr ⟨(A5 : AA).b, (A5 : AA).g, (A5 : AA).o + (i) * 1⟩) h (by kernel_rfl) (by kernel_rfl) (iop_iaN (a := A5) (n := n5) (c := q5) (ie := (↑i : Int)) (i := (i)) (by kernel_rfl) (by kernel_rfl) rfl (by first | omega | (simp; omega))) ?_
          refine Wd.read (AV.int IntKind.i64 ↑st) (.ld none (.c (.ptr ⟨A5.b, A5.g, A5.o + i * 1⟩))) (by kernel_rfl) (by kernel_rfl) (iop_ld (a := ⟨A5.b, A5.g, A5.o + i * 1⟩) (by kernel_rfl) a5.2) ?_
          refine Wd.pure (by kernel_rfl) (by kernel_rfl) ?_
          refine Wd.pure (by kernel_rfl) (by kernel_rfl) ?_
          refine Wd.make (.ptr ⟨(A9 : AA).b, (A9 : AA).g, (A9 : AA).o + (j) * 1⟩) h (by kernel_rfl) (by kernel_rfl) (iop_iaN (a := A9) (n := n9) (c := q9) (ie := (↑j : Int)) (i := (j)) (by kernel_rfl) (by kernel_rfl) rfl (by first | omega | (simp; omega))) ?_
          refine Wd.read (AV.int IntKind.i64 ↑n) (.ld none (.c (.ptr ⟨A9.b, A9.g, A9.o + j * 1⟩))) (by kernel_rfl) (by kernel_rfl) (iop_ld (a := ⟨A9.b, A9.g, A9.o + j * 1⟩) (by kernel_rfl) a9.2) ?_
          refine Wd.pure (by kernel_rfl) (by kernel_rfl) ?_
          refine Wd.pure (by kernel_rfl) (by kernel_rfl) ?_
          refine Wd.call (by kernel_rfl) (by kernel_rfl) c25 (holds_of [(IOp.ld none (IX.c (AV.ptr { b := A9.b, g := A9.g, o := A9.o + j * 1 })), AV.int IntKind.i64 ↑n, 7), (IOp.ld none (IX.c (AV.ptr { b := A5.b, g := A5.g, o := A5.o + i * 1 })), AV.int IntKind.i64 ↑st, 3)] (by kernel_rfl) (holds_and (rd_ld a9.2) (holds_and (rd_ld a5.2) rfl))) ?_
          clear c25
          refine Wd.pure (by kernel_rfl) (by kernel_rfl) ?_
          refine Wd.done (holds_of [] (by kernel_rfl) rfl) ?_
          refine Wp.seq ?_
          refine Wp.seq ?_
          refine Wp.region ?_
          refine Wo.pre 2 (by kernel_rfl) ?_
          have c9 := begs_run (hh1) (f) (hd)
          refine Wo.call (by kernel_rfl) (by kernel_rfl) c9 ?_
          clear c9
          refine Wo.boolS (fun q10 => ?_) (fun q10 => ?_)
          · exact absurd (hpre.symm.trans (by with_reducible assumption)) (by decide)
          refine Wo.nil ?_
          refine Wp.cond false (by kernel_rfl) ?_
          refine Wp.skip ?_
          refine Wp.region ?_
          refine Wo.pre 4 (by kernel_rfl) ?_
          have F11 := (hx.fr (hE.fr.trans0 x25.fr) (.inr id))
          refine Wo.val (.str (l)) hh1 (by kernel_rfl) (iop_cvBS (v := x) (by kernel_rfl) F11) ?_
          have c12 := begs_run (hh1) (hd) (l)
          refine Wo.call (by kernel_rfl) (by kernel_rfl) c12 ?_
          clear c12
          refine Wo.boolS (fun q13 => ?_) (fun q13 => ?_)
          rotate_left
          · exact absurd (hm.symm.trans (by with_reducible assumption)) (by decide)
          have m14 := F11.bq
          have k15 := F11.parts
          refine Wo.pre 2 (by kernel_rfl) ?_
          refine Wo.nil ?_
          refine Wp.region ?_
          refine Wo.pre 1 (by kernel_rfl) ?_
          refine Wo.pre 2 (by kernel_rfl) ?_
          refine Wo.nil ?_
          exact hN _ _ true (by kernel_rfl) (by kernel_rfl) (by kernel_rfl) (by kernel_rfl) (by kernel_rfl) (by kernel_rfl) (by kernel_rfl) (by kernel_rfl) (by kernel_rfl) (by kernel_rfl) ((hE.fr.trans0 x25.fr).ext0) (x25.fr.ext0) (P2.fr x25.fr id) (a5.fr x25.fr id) (a9.fr x25.fr id) hS
        | false =>
          rw [hm] at hS
          have m1 := hx.bq
          have k2 := hx.parts
          have m3 := P2.1
          have m4 := a5.1
          have m5 := a9.1
          have m6 := hE.1
          have m7 := x25.1
          refine Wp.seq ?_
          refine Wp.seq ?_
          refine Wp.region ?_
          refine Wo.pre 1 (by kernel_rfl) ?_
          refine Wo.pre 1 (by kernel_rfl) ?_
          refine Wo.nil ?_
          refine Wp.cond true (by kernel_rfl) ?_
          refine Wp.skip ?_
          refine Wp.seq ?_
          refine Wp.block ?_
          refine Wp.seq ?_
          refine Wp.seq ?_
          refine Wp.region ?_
          refine Wo.pre 2 (by kernel_rfl) ?_
          refine Wo.val (.ptr ⟨(A9 : AA).b, (A9 : AA).g, (A9 : AA).o + (j) * 1⟩) h (by kernel_rfl) (iop_iaN (a := A9) (n := n9) (c := q9) (ie := (↑j : Int)) (i := (j)) (by kernel_rfl) (by kernel_rfl) rfl (by first | omega | (simp; omega))) ?_
          refine Wo.val (AV.int IntKind.i64 ↑n) h (by kernel_rfl) (iop_ld (a := ⟨A9.b, A9.g, A9.o + j * 1⟩) (by kernel_rfl) a9.2) ?_
          refine Wo.cmp (op := .gtr) (x := IX.t 43) (y := IX.c (AV.int IntKind.i64 1048576)) (k := IntKind.i64) (a := ↑n) (b := 1048576) ((↑n : Int) > (1048576 : Int)) (by kernel_rfl) (by kernel_rfl) (by kernel_rfl) (by kernel_rfl) (by simp) (by kernel_rfl) (fun q8 => ?_) (fun q8 => ?_)
          · (exfalso; omega)
          refine Wo.nil ?_
          refine Wp.cond false (by kernel_rfl) ?_
          refine Wp.skip ?_
          refine Wp.seq ?_
          refine Wp.draw ?_
          refine Wd.pure (by kernel_rfl) (by kernel_rfl) ?_
          refine Wd.pure (by kernel_rfl) (by kernel_rfl) ?_
          refine Wd.make (.ptr ⟨(A5 : AA).b, (A5 : AA).g, (A5 : AA).o + (i) * 1⟩) h (by kernel_rfl) (by kernel_rfl) (iop_iaN (a := A5) (n := n5) (c := q5) (ie := (↑i : Int)) (i := (i)) (by kernel_rfl) (by kernel_rfl) rfl (by first | omega | (simp; omega))) ?_
          refine Wd.read (AV.int IntKind.i64 ↑st) (.ld none (.c (.ptr ⟨A5.b, A5.g, A5.o + i * 1⟩))) (by kernel_rfl) (by kernel_rfl) (iop_ld (a := ⟨A5.b, A5.g, A5.o + i * 1⟩) (by kernel_rfl) a5.2) ?_
          refine Wd.pure (by kernel_rfl) (by kernel_rfl) ?_
          refine Wd.pure (by kernel_rfl) (by kernel_rfl) ?_
          refine Wd.make (.ptr ⟨(A9 : AA).b, (A9 : AA).g, (A9 : AA).o + (j) * 1⟩) h (by kernel_rfl) (by kernel_rfl) (iop_iaN (a := A9) (n := n9) (c := q9) (ie := (↑j : Int)) (i := (j)) (by kernel_rfl) (by kernel_rfl) rfl (by first | omega | (simp; omega))) ?_
          refine Wd.read (AV.int IntKind.i64 ↑n) (.ld none (.c (.ptr ⟨A9.b, A9.g, A9.o + j * 1⟩))) (by kernel_rfl) (by kernel_rfl) (iop_ld (a := ⟨A9.b, A9.g, A9.o + j * 1⟩) (by kernel_rfl) a9.2) ?_
          refine Wd.pure (by kernel_rfl) (by kernel_rfl) ?_
          refine Wd.pure (by kernel_rfl) (by kernel_rfl) ?_
          refine Wd.call (by kernel_rfl) (by kernel_rfl) c25 (holds_of [(IOp.ld none (IX.c (AV.ptr { b := A9.b, g := A9.g, o := A9.o + j * 1 })), AV.int IntKind.i64 ↑n, 7), (IOp.ld none (IX.c (AV.ptr { b := A5.b, g := A5.g, o := A5.o + i * 1 })), AV.int IntKind.i64 ↑st, 3)] (by kernel_rfl) (holds_and (rd_ld a9.2) (holds_and (rd_ld a5.2) rfl))) ?_
          clear c25
          refine Wd.pure (by kernel_rfl) (by kernel_rfl) ?_
          refine Wd.done (holds_of [] (by kernel_rfl) rfl) ?_
          refine Wp.seq ?_
          refine Wp.seq ?_
          refine Wp.region ?_
          refine Wo.pre 2 (by kernel_rfl) ?_
          have c9 := begs_run (hh1) (f) (hd)
          refine Wo.call (by kernel_rfl) (by kernel_rfl) c9 ?_
          clear c9
          refine Wo.boolS (fun q10 => ?_) (fun q10 => ?_)
          · exact absurd (hpre.symm.trans (by with_reducible assumption)) (by decide)
          refine Wo.nil ?_
          refine Wp.cond false (by kernel_rfl) ?_
          refine Wp.skip ?_
          refine Wp.region ?_
          refine Wo.pre 4 (by kernel_rfl) ?_
          have F11 := (hx.fr (hE.fr.trans0 x25.fr) (.inr id))
          refine Wo.val (.str (l)) hh1 (by kernel_rfl) (iop_cvBS (v := x) (by kernel_rfl) F11) ?_
          have c12 := begs_run (hh1) (hd) (l)
          refine Wo.call (by kernel_rfl) (by kernel_rfl) c12 ?_
          clear c12
          refine Wo.boolS (fun q13 => ?_) (fun q13 => ?_)
          · exact absurd (hm.symm.trans (by with_reducible assumption)) (by decide)
          have m14 := F11.bq
          have k15 := F11.parts
          refine Wo.pre 2 (by kernel_rfl) ?_
          refine Wo.nil ?_
          refine Wp.region ?_
          refine Wo.pre 1 (by kernel_rfl) ?_
          refine Wo.pre 2 (by kernel_rfl) ?_
          refine Wo.nil ?_
          exact hN _ _ false (by kernel_rfl) (by kernel_rfl) (by kernel_rfl) (by kernel_rfl) (by kernel_rfl) (by kernel_rfl) (by kernel_rfl) (by kernel_rfl) (by kernel_rfl) (by kernel_rfl) ((hE.fr.trans0 x25.fr).ext0) (x25.fr.ext0) (P2.fr x25.fr id) (a5.fr x25.fr id) (a9.fr x25.fr id) hS
      · rw [Bool.true_or] at hS
        have m1 := hx.bq
        have k2 := hx.parts
        have m3 := P2.1
        have m4 := a5.1
        have m5 := a9.1
        have m6 := hE.1
        have m7 := x25.1
        refine Wp.seq ?_
        refine Wp.seq ?_
        refine Wp.region ?_
        refine Wo.pre 1 (by kernel_rfl) ?_
        refine Wo.pre 1 (by kernel_rfl) ?_
        refine Wo.nil ?_
        refine Wp.cond true (by kernel_rfl) ?_
        refine Wp.skip ?_
        refine Wp.seq ?_
        refine Wp.block ?_
        refine Wp.seq ?_
        refine Wp.seq ?_
        refine Wp.region ?_
        refine Wo.pre 2 (by kernel_rfl) ?_
        refine Wo.val (.ptr ⟨(A9 : AA).b, (A9 : AA).g, (A9 : AA).o + (j) * 1⟩) h (by kernel_rfl) (iop_iaN (a := A9) (n := n9) (c := q9) (ie := (↑j : Int)) (i := (j)) (by kernel_rfl) (by kernel_rfl) rfl (by first | omega | (simp; omega))) ?_
        refine Wo.val (AV.int IntKind.i64 ↑n) h (by kernel_rfl) (iop_ld (a := ⟨A9.b, A9.g, A9.o + j * 1⟩) (by kernel_rfl) a9.2) ?_
        refine Wo.cmp (op := .gtr) (x := IX.t 43) (y := IX.c (AV.int IntKind.i64 1048576)) (k := IntKind.i64) (a := ↑n) (b := 1048576) ((↑n : Int) > (1048576 : Int)) (by kernel_rfl) (by kernel_rfl) (by kernel_rfl) (by kernel_rfl) (by simp) (by kernel_rfl) (fun q8 => ?_) (fun q8 => ?_)
        · (exfalso; omega)
        refine Wo.nil ?_
        refine Wp.cond false (by kernel_rfl) ?_
        refine Wp.skip ?_
        refine Wp.seq ?_
        refine Wp.draw ?_
        refine Wd.pure (by kernel_rfl) (by kernel_rfl) ?_
        refine Wd.pure (by kernel_rfl) (by kernel_rfl) ?_
        refine Wd.make (.ptr ⟨(A5 : AA).b, (A5 : AA).g, (A5 : AA).o + (i) * 1⟩) h (by kernel_rfl) (by kernel_rfl) (iop_iaN (a := A5) (n := n5) (c := q5) (ie := (↑i : Int)) (i := (i)) (by kernel_rfl) (by kernel_rfl) rfl (by first | omega | (simp; omega))) ?_
        refine Wd.read (AV.int IntKind.i64 ↑st) (.ld none (.c (.ptr ⟨A5.b, A5.g, A5.o + i * 1⟩))) (by kernel_rfl) (by kernel_rfl) (iop_ld (a := ⟨A5.b, A5.g, A5.o + i * 1⟩) (by kernel_rfl) a5.2) ?_
        refine Wd.pure (by kernel_rfl) (by kernel_rfl) ?_
        refine Wd.pure (by kernel_rfl) (by kernel_rfl) ?_
        refine Wd.make (.ptr ⟨(A9 : AA).b, (A9 : AA).g, (A9 : AA).o + (j) * 1⟩) h (by kernel_rfl) (by kernel_rfl) (iop_iaN (a := A9) (n := n9) (c := q9) (ie := (↑j : Int)) (i := (j)) (by kernel_rfl) (by kernel_rfl) rfl (by first | omega | (simp; omega))) ?_
        refine Wd.read (AV.int IntKind.i64 ↑n) (.ld none (.c (.ptr ⟨A9.b, A9.g, A9.o + j * 1⟩))) (by kernel_rfl) (by kernel_rfl) (iop_ld (a := ⟨A9.b, A9.g, A9.o + j * 1⟩) (by kernel_rfl) a9.2) ?_
        refine Wd.pure (by kernel_rfl) (by kernel_rfl) ?_
        refine Wd.pure (by kernel_rfl) (by kernel_rfl) ?_
        refine Wd.call (by kernel_rfl) (by kernel_rfl) c25 (holds_of [(IOp.ld none (IX.c (AV.ptr { b := A9.b, g := A9.g, o := A9.o + j * 1 })), AV.int IntKind.i64 ↑n, 7), (IOp.ld none (IX.c (AV.ptr { b := A5.b, g := A5.g, o := A5.o + i * 1 })), AV.int IntKind.i64 ↑st, 3)] (by kernel_rfl) (holds_and (rd_ld a9.2) (holds_and (rd_ld a5.2) rfl))) ?_
        clear c25
        refine Wd.pure (by kernel_rfl) (by kernel_rfl) ?_
        refine Wd.done (holds_of [] (by kernel_rfl) rfl) ?_
        refine Wp.seq ?_
        refine Wp.seq ?_
        refine Wp.region ?_
        refine Wo.pre 2 (by kernel_rfl) ?_
        have c9 := begs_run (hh1) (f) (hd)
        refine Wo.call (by kernel_rfl) (by kernel_rfl) c9 ?_
        clear c9
        refine Wo.boolS (fun q10 => ?_) (fun q10 => ?_)
        · exact absurd (hpre.symm.trans (by with_reducible assumption)) (by decide)
        refine Wo.nil ?_
        refine Wp.cond false (by kernel_rfl) ?_
        refine Wp.skip ?_
        refine Wp.region ?_
        refine Wo.pre 5 (by kernel_rfl) ?_
        refine Wo.pre 1 (by kernel_rfl) ?_
        refine Wo.pre 2 (by kernel_rfl) ?_
        refine Wo.nil ?_
        refine Wp.region ?_
        refine Wo.pre 1 (by kernel_rfl) ?_
        refine Wo.pre 2 (by kernel_rfl) ?_
        refine Wo.nil ?_
        exact hN _ _ true (by kernel_rfl) (by kernel_rfl) (by kernel_rfl) (by kernel_rfl) (by kernel_rfl) (by kernel_rfl) (by kernel_rfl) (by kernel_rfl) (by kernel_rfl) (by kernel_rfl) ((hE.fr.trans0 x25.fr).ext0) (x25.fr.ext0) (P2.fr x25.fr id) (a5.fr x25.fr id) (a9.fr x25.fr id) hS

set_option maxHeartbeats 16000000 in
/-- One head is tried. -/
theorem try1 {h0 h : H} {x : AV} {l f : List UInt8} {A5 A9 : AA} {n5 n9 i j st n p2 : Nat} {q5 q9 : Cp} {may : Bool} {R : Re.Res} {L : List (Nat × Nat × Bool)} (hf : f = l.take 200) (hx : Bs h0 x l) (cx : Cok x) (hl : l.length ≤ 140737488351232) (hE : Ext h0 h) (P2 : Pt h p2 (.cells 0 28 [.int .i64 0, .nils, .bool false] 0 false)) (hp2 : h0.n ≤ p2) (a5 : AtN h A5.b A5.g (A5.o + i * 1) (.int .i64 st)) (a9 : AtN h A9.b A9.g (A9.o + j * 1) (.int .i64 n)) (h5 : A5.b ≠ p2) (h9 : A9.b ≠ p2) (hi : i < n5) (hj : j < n9) (hst : st ≤ 1000) (hn8 : n < 1000000000) (hS : Re.scan l ((st, n, true) :: L) may = R)
    {ts : List AV} (t0 : ts.length = 110) (g0 : getL ts 0 = some x) (g2 : getL ts 2 = some (.ptr ⟨p2, 0, 0⟩)) (g5 : getL ts 5 = some (.sl A5 n5 q5)) (g6 : getL ts 6 = some (.str f)) (g7 : getL ts 7 = some (.bool may)) (g8 : getL ts 8 = some (.int .i64 i)) (g9 : getL ts 9 = some (.sl A9 n9 q9)) (g10 : getL ts 10 = some (.int .i64 j)) (g11 : getL ts 11 = some (.int .i64 1)) {Q : Ex → St → Prop} (hret : ∀ ts' h', After h0 l R .ret (ts', h') → Q .ret (ts', h'))
    (hN : ∀ ts' h' may', ts'.length = 110 → getL ts' 0 = some x → getL ts' 2 = some (.ptr ⟨p2, 0, 0⟩) → getL ts' 5 = some (.sl A5 n5 q5) → getL ts' 6 = some (.str f) → getL ts' 7 = some (.bool may') → getL ts' 8 = some (.int .i64 i) → getL ts' 9 = some (.sl A9 n9 q9) → getL ts' 10 = some (.int .i64 j) → getL ts' 11 = some (.int .i64 2) → Ext h0 h' → Ext h h' → Pt h' p2 (.cells 0 28 [.int .i64 0, .nils, .bool false] 0 false) → AtN h' A5.b A5.g (A5.o + i * 1) (.int .i64 st) → AtN h' A9.b A9.g (A9.o + j * 1) (.int .i64 n) → Re.scan l L may' = R → Wp TF (.loop l9_1) (ts', h') Q) : Wp TF (.loop l9_1) (ts, h) Q := by
  have hmx : 200000000000000 = maxRow := rfl
  have hEn := hE.1
  rw [Re.scan, ← hf] at hS
  refine Wp.loop ?_
  rw [laid_eq t0 [(0, x), (2, .ptr ⟨p2, 0, 0⟩), (5, .sl A5 n5 q5), (6, .str f), (7, .bool may), (8, .int .i64 i), (9, .sl A9 n9 q9), (10, .int .i64 j), (11, .int .i64 1)] (by simp [g0, g2, g5, g6, g7, g8, g9, g10, g11])]
  by_cases hb : n > 1048576
  · rw [if_pos (show n > Re.most from hb)] at hS
    have m1 := hx.bq
    have k2 := hx.parts
    have m3 := P2.1
    have m4 := a5.1
    have m5 := a9.1
    have m6 := hE.1
    refine Wp.seq ?_
    refine Wp.seq ?_
    refine Wp.region ?_
    refine Wo.pre 1 (by kernel_rfl) ?_
    refine Wo.pre 1 (by kernel_rfl) ?_
    refine Wo.nil ?_
    refine Wp.cond true (by kernel_rfl) ?_
    refine Wp.skip ?_
    refine Wp.seq ?_
    refine Wp.block ?_
    refine Wp.seq ?_
    refine Wp.seq ?_
    refine Wp.region ?_
    refine Wo.pre 2 (by kernel_rfl) ?_
    refine Wo.val (.ptr ⟨(A9 : AA).b, (A9 : AA).g, (A9 : AA).o + (j) * 1⟩) h (by kernel_rfl) (iop_iaN (a := A9) (n := n9) (c := q9) (ie := (↑j : Int)) (i := (j)) (by kernel_rfl) (by kernel_rfl) rfl (by first | omega | (simp; omega))) ?_
    refine Wo.val (AV.int IntKind.i64 ↑n) h (by kernel_rfl) (iop_ld (a := ⟨A9.b, A9.g, A9.o + j * 1⟩) (by kernel_rfl) a9.2) ?_
    refine Wo.cmp (op := .gtr) (x := IX.t 43) (y := IX.c (AV.int IntKind.i64 1048576)) (k := IntKind.i64) (a := ↑n) (b := 1048576) ((↑n : Int) > (1048576 : Int)) (by kernel_rfl) (by kernel_rfl) (by kernel_rfl) (by kernel_rfl) (by simp) (by kernel_rfl) (fun q7 => ?_) (fun q7 => ?_)
    rotate_left
    · (exfalso; omega)
    refine Wo.nil ?_
    refine Wp.cond true (by kernel_rfl) ?_
    refine Wp.exit ?_
    refine Wp.region ?_
    refine Wo.pre 1 (by kernel_rfl) ?_
    refine Wo.pre 2 (by kernel_rfl) ?_
    refine Wo.nil ?_
    exact hN _ _ may (by kernel_rfl) (by kernel_rfl) (by kernel_rfl) (by kernel_rfl) (by kernel_rfl) (by kernel_rfl) (by kernel_rfl) (by kernel_rfl) (by kernel_rfl) (by kernel_rfl) (hE.fr.ext0) (Ext.refl _) P2 a5 a9 hS
  · rw [if_neg (show ¬ n > Re.most from hb)] at hS
    have hhl := head_len (st := st) (n := n) (by omega) true
    obtain ⟨hd, hhd⟩ : ∃ hd, hd = Re.head st n true := ⟨_, rfl⟩
    rw [← hhd] at hS hhl
    have hrun : ∀ hh, ∃ r h', Runs TF 25 [.int .i64 ((st : Nat) : Int), .int .i64 ((n : Nat) : Int), .bool true] hh r h' ∧ r = .str hd ∧ Ext hh h' := fun hh => by rw [hhd]; exact head_run hh hst (by omega) true
    obtain ⟨rr, hh1, c25, rfl, x25⟩ := hrun h
    clear hrun
    cases hpre : hd.isPrefixOf f with
    | true =>
      rw [hpre, if_pos rfl] at hS
      by_cases hsh : l.length < hd.length + n
      · rw [if_pos hsh] at hS
        have m1 := hx.bq
        have k2 := hx.parts
        have m3 := P2.1
        have m4 := a5.1
        have m5 := a9.1
        have m6 := hE.1
        have m7 := x25.1
        refine Wp.seq ?_
        refine Wp.seq ?_
        refine Wp.region ?_
        refine Wo.pre 1 (by kernel_rfl) ?_
        refine Wo.pre 1 (by kernel_rfl) ?_
        refine Wo.nil ?_
        refine Wp.cond true (by kernel_rfl) ?_
        refine Wp.skip ?_
        refine Wp.seq ?_
        refine Wp.block ?_
        refine Wp.seq ?_
        refine Wp.seq ?_
        refine Wp.region ?_
        refine Wo.pre 2 (by kernel_rfl) ?_
        refine Wo.val (.ptr ⟨(A9 : AA).b, (A9 : AA).g, (A9 : AA).o + (j) * 1⟩) h (by kernel_rfl) (iop_iaN (a := A9) (n := n9) (c := q9) (ie := (↑j : Int)) (i := (j)) (by kernel_rfl) (by kernel_rfl) rfl (by first | omega | (simp; omega))) ?_
        refine Wo.val (AV.int IntKind.i64 ↑n) h (by kernel_rfl) (iop_ld (a := ⟨A9.b, A9.g, A9.o + j * 1⟩) (by kernel_rfl) a9.2) ?_
        refine Wo.cmp (op := .gtr) (x := IX.t 43) (y := IX.c (AV.int IntKind.i64 1048576)) (k := IntKind.i64) (a := ↑n) (b := 1048576) ((↑n : Int) > (1048576 : Int)) (by kernel_rfl) (by kernel_rfl) (by kernel_rfl) (by kernel_rfl) (by simp) (by kernel_rfl) (fun q8 => ?_) (fun q8 => ?_)
        · (exfalso; omega)
        refine Wo.nil ?_
        refine Wp.cond false (by kernel_rfl) ?_
        refine Wp.skip ?_
        refine Wp.seq ?_
        refine Wp.draw ?_
        refine Wd.pure (by kernel_rfl) (by kernel_rfl) ?_
        refine Wd.pure (by kernel_rfl) (by kernel_rfl) ?_
        refine Wd.make (.ptr ⟨(A5 : AA).b, (A5 : AA).g, (A5 : AA).o + (i) * 1⟩) h (by kernel_rfl) (by kernel_rfl) (iop_iaN (a := A5) (n := n5) (c := q5) (ie := (↑i : Int)) (i := (i)) (by kernel_rfl) (by kernel_rfl) rfl (by first | omega | (simp; omega))) ?_
        refine Wd.read (AV.int IntKind.i64 ↑st) (.ld none (.c (.ptr ⟨A5.b, A5.g, A5.o + i * 1⟩))) (by kernel_rfl) (by kernel_rfl) (iop_ld (a := ⟨A5.b, A5.g, A5.o + i * 1⟩) (by kernel_rfl) a5.2) ?_
        refine Wd.pure (by kernel_rfl) (by kernel_rfl) ?_
        refine Wd.pure (by kernel_rfl) (by kernel_rfl) ?_
        refine Wd.make (.ptr ⟨(A9 : AA).b, (A9 : AA).g, (A9 : AA).o + (j) * 1⟩) h (by kernel_rfl) (by kernel_rfl) (iop_iaN (a := A9) (n := n9) (c := q9) (ie := (↑j : Int)) (i := (j)) (by kernel_rfl) (by kernel_rfl) rfl (by first | omega | (simp; omega))) ?_
        refine Wd.read (AV.int IntKind.i64 ↑n) (.ld none (.c (.ptr ⟨A9.b, A9.g, A9.o + j * 1⟩))) (by kernel_rfl) (by kernel_rfl) (iop_ld (a := ⟨A9.b, A9.g, A9.o + j * 1⟩) (by kernel_rfl) a9.2) ?_
        refine Wd.pure (by kernel_rfl) (by kernel_rfl) ?_
        refine Wd.pure (by kernel_rfl) (by kernel_rfl) ?_
        refine Wd.call (by kernel_rfl) (by kernel_rfl) c25 (holds_of [(IOp.ld none (IX.c (AV.ptr { b := A9.b, g := A9.g, o := A9.o + j * 1 })), AV.int IntKind.i64 ↑n, 7), (IOp.ld none (IX.c (AV.ptr { b := A5.b, g := A5.g, o := A5.o + i * 1 })), AV.int IntKind.i64 ↑st, 3)] (by kernel_rfl) (holds_and (rd_ld a9.2) (holds_and (rd_ld a5.2) rfl))) ?_
        clear c25
        refine Wd.pure (by kernel_rfl) (by kernel_rfl) ?_
        refine Wd.done (holds_of [] (by kernel_rfl) rfl) ?_
        refine Wp.seq ?_
        refine Wp.seq ?_
        refine Wp.region ?_
        refine Wo.pre 2 (by kernel_rfl) ?_
        have c9 := begs_run (hh1) (f) (hd)
        refine Wo.call (by kernel_rfl) (by kernel_rfl) c9 ?_
        clear c9
        refine Wo.boolS (fun q10 => ?_) (fun q10 => ?_)
        rotate_left
        · exact absurd (hpre.symm.trans (by with_reducible assumption)) (by decide)
        refine Wo.nil ?_
        refine Wp.cond true (by kernel_rfl) ?_
        refine Wp.seq ?_
        refine Wp.seq ?_
        refine Wp.region ?_
        refine Wo.pre 1 (by kernel_rfl) ?_
        have F11 := (hx.fr (hE.fr.trans0 x25.fr) (.inr id))
        refine Wo.val (.int .i64 (List.length (l) : Nat)) hh1 (by kernel_rfl) (Bs.len F11 (by kernel_rfl)) ?_
        refine Wo.pre 4 (by kernel_rfl) ?_
        refine Wo.val (.ptr ⟨(A9 : AA).b, (A9 : AA).g, (A9 : AA).o + (j) * 1⟩) hh1 (by kernel_rfl) (iop_iaN (a := A9) (n := n9) (c := q9) (ie := (↑j : Int)) (i := (j)) (by kernel_rfl) (by kernel_rfl) rfl (by first | omega | (simp; omega))) ?_
        have F12 := (a9.fr x25.fr id)
        refine Wo.val (AV.int IntKind.i64 ↑n) hh1 (by kernel_rfl) (iop_ld (a := ⟨A9.b, A9.g, A9.o + j * 1⟩) (by kernel_rfl) F12.2) ?_
        refine Wo.val (.int IntKind.i64 ((↑hd.length : Int) + (↑n : Int))) hh1 (by kernel_rfl) (iop_arith (op := .add) (a := ↑hd.length) (b := ↑n) (by kernel_rfl) (by kernel_rfl) (by simp) (bin_add IntKind.i64 (by simp only [min_i64]; omega) (by simp only [max_i64]; omega))) ?_
        refine Wo.cmp (op := .lss) (x := IX.t 60) (y := IX.t 67) (k := IntKind.i64) (a := ↑l.length) (b := ↑hd.length + ↑n) ((↑l.length : Int) < (↑hd.length + ↑n : Int)) (by kernel_rfl) (by kernel_rfl) (by kernel_rfl) (by kernel_rfl) (by simp) (by kernel_rfl) (fun q13 => ?_) (fun q13 => ?_)
        rotate_left
        · (exfalso; omega)
        have m14 := F11.bq
        have k15 := F11.parts
        have m16 := F12.1
        refine Wo.nil ?_
        refine Wp.cond true (by kernel_rfl) ?_
        refine Wp.seq ?_
        refine Wp.region ?_
        refine Wo.val (.agg [AV.int IntKind.i64 0, AV.nils, AV.bool false]) hh1 (by kernel_rfl) (iop_buildP rfl) ?_
        have F17 := (P2.fr x25.fr id)
        obtain ⟨H18, e18, P18, X18, n18⟩ := F17.st 0 [AV.int IntKind.i64 0, AV.nils, AV.bool false] (by simp) (ones_cons rfl (ones_cons rfl (ones_cons rfl ones_nil)))
        refine Wo.val .undef H18 (by kernel_rfl) (iop_stP (a := { b := p2, g := 0, o := 0 }) (v := AV.agg [AV.int IntKind.i64 0, AV.nils, AV.bool false]) (vs := [AV.int IntKind.i64 0, AV.nils, AV.bool false]) (by kernel_rfl) (by kernel_rfl) rfl rfl e18) ?_
        have m19 := X18.1
        replace P18 : Pt H18 p2 (Blk.cells 0 28 [AV.int IntKind.i64 0, AV.nils, AV.bool false] 0 false) := P18
        refine Wo.pre 2 (by kernel_rfl) ?_
        refine Wo.nil ?_
        refine Wp.ret ?_
        exact hret _ _ (ret9 (p2 := p2) (a := .int .i64 0) (b := .nils) (c := .bool false) (N := .int .i64 0) (E := .int .i64 44) (by kernel_rfl) P18 (by kernel_rfl) (by kernel_rfl) (((hE.fr.trans0 x25.fr).transL X18).ext (by intro s hs; first | omega | (dsimp only at hs; omega) | (simp only [blk_nils, blk_sl] at hs ⊢; omega))) (by rw [← hS]; rfl))
      · rw [if_neg hsh] at hS
        subst hS
        have m1 := hx.bq
        have k2 := hx.parts
        have m3 := P2.1
        have m4 := a5.1
        have m5 := a9.1
        have m6 := hE.1
        have m7 := x25.1
        refine Wp.seq ?_
        refine Wp.seq ?_
        refine Wp.region ?_
        refine Wo.pre 1 (by kernel_rfl) ?_
        refine Wo.pre 1 (by kernel_rfl) ?_
        refine Wo.nil ?_
        refine Wp.cond true (by kernel_rfl) ?_
        refine Wp.skip ?_
        refine Wp.seq ?_
        refine Wp.block ?_
        refine Wp.seq ?_
        refine Wp.seq ?_
        refine Wp.region ?_
        refine Wo.pre 2 (by kernel_rfl) ?_
        refine Wo.val (.ptr ⟨(A9 : AA).b, (A9 : AA).g, (A9 : AA).o + (j) * 1⟩) h (by kernel_rfl) (iop_iaN (a := A9) (n := n9) (c := q9) (ie := (↑j : Int)) (i := (j)) (by kernel_rfl) (by kernel_rfl) rfl (by first | omega | (simp; omega))) ?_
        refine Wo.val (AV.int IntKind.i64 ↑n) h (by kernel_rfl) (iop_ld (a := ⟨A9.b, A9.g, A9.o + j * 1⟩) (by kernel_rfl) a9.2) ?_
        refine Wo.cmp (op := .gtr) (x := IX.t 43) (y := IX.c (AV.int IntKind.i64 1048576)) (k := IntKind.i64) (a := ↑n) (b := 1048576) ((↑n : Int) > (1048576 : Int)) (by kernel_rfl) (by kernel_rfl) (by kernel_rfl) (by kernel_rfl) (by simp) (by kernel_rfl) (fun q8 => ?_) (fun q8 => ?_)
        · (exfalso; omega)
        refine Wo.nil ?_
        refine Wp.cond false (by kernel_rfl) ?_
        refine Wp.skip ?_
        refine Wp.seq ?_
        refine Wp.draw ?_
        refine Wd.pure (by kernel_rfl) (by kernel_rfl) ?_
        refine Wd.pure (by kernel_rfl) (by kernel_rfl) ?_
        refine Wd.make (.ptr ⟨(A5 : AA).b, (A5 : AA).g, (A5 : AA).o + (i) * 1⟩) h (by kernel_rfl) (by kernel_rfl) (iop_iaN (a := A5) (n := n5) (c := q5) (ie := (↑i : Int)) (i := (i)) (by kernel_rfl) (by kernel_rfl) rfl (by first | omega | (simp; omega))) ?_
        refine Wd.read (AV.int IntKind.i64 ↑st) (.ld none (.c (.ptr ⟨A5.b, A5.g, A5.o + i * 1⟩))) (by kernel_rfl) (by kernel_rfl) (iop_ld (a := ⟨A5.b, A5.g, A5.o + i * 1⟩) (by kernel_rfl) a5.2) ?_
        refine Wd.pure (by kernel_rfl) (by kernel_rfl) ?_
        refine Wd.pure (by kernel_rfl) (by kernel_rfl) ?_
        refine Wd.make (.ptr ⟨(A9 : AA).b, (A9 : AA).g, (A9 : AA).o + (j) * 1⟩) h (by kernel_rfl) (by kernel_rfl) (iop_iaN (a := A9) (n := n9) (c := q9) (ie := (↑j : Int)) (i := (j)) (by kernel_rfl) (by kernel_rfl) rfl (by first | omega | (simp; omega))) ?_
        refine Wd.read (AV.int IntKind.i64 ↑n) (.ld none (.c (.ptr ⟨A9.b, A9.g, A9.o + j * 1⟩))) (by kernel_rfl) (by kernel_rfl) (iop_ld (a := ⟨A9.b, A9.g, A9.o + j * 1⟩) (by kernel_rfl) a9.2) ?_
        refine Wd.pure (by kernel_rfl) (by kernel_rfl) ?_
        refine Wd.pure (by kernel_rfl) (by kernel_rfl) ?_
        refine Wd.call (by kernel_rfl) (by kernel_rfl) c25 (holds_of [(IOp.ld none (IX.c (AV.ptr { b := A9.b, g := A9.g, o := A9.o + j * 1 })), AV.int IntKind.i64 ↑n, 7), (IOp.ld none (IX.c (AV.ptr { b := A5.b, g := A5.g, o := A5.o + i * 1 })), AV.int IntKind.i64 ↑st, 3)] (by kernel_rfl) (holds_and (rd_ld a9.2) (holds_and (rd_ld a5.2) rfl))) ?_
        clear c25
        refine Wd.pure (by kernel_rfl) (by kernel_rfl) ?_
        refine Wd.done (holds_of [] (by kernel_rfl) rfl) ?_
        refine Wp.seq ?_
        refine Wp.seq ?_
        refine Wp.region ?_
        refine Wo.pre 2 (by kernel_rfl) ?_
        have c9 := begs_run (hh1) (f) (hd)
        refine Wo.call (by kernel_rfl) (by kernel_rfl) c9 ?_
        clear c9
        refine Wo.boolS (fun q10 => ?_) (fun q10 => ?_)
        rotate_left
        · exact absurd (hpre.symm.trans (by with_reducible assumption)) (by decide)
        refine Wo.nil ?_
        refine Wp.cond true (by kernel_rfl) ?_
        refine Wp.seq ?_
        refine Wp.seq ?_
        refine Wp.region ?_
        refine Wo.pre 1 (by kernel_rfl) ?_
        have F11 := (hx.fr (hE.fr.trans0 x25.fr) (.inr id))
        refine Wo.val (.int .i64 (List.length (l) : Nat)) hh1 (by kernel_rfl) (Bs.len F11 (by kernel_rfl)) ?_
        refine Wo.pre 4 (by kernel_rfl) ?_
        refine Wo.val (.ptr ⟨(A9 : AA).b, (A9 : AA).g, (A9 : AA).o + (j) * 1⟩) hh1 (by kernel_rfl) (iop_iaN (a := A9) (n := n9) (c := q9) (ie := (↑j : Int)) (i := (j)) (by kernel_rfl) (by kernel_rfl) rfl (by first | omega | (simp; omega))) ?_
        have F12 := (a9.fr x25.fr id)
        refine Wo.val (AV.int IntKind.i64 ↑n) hh1 (by kernel_rfl) (iop_ld (a := ⟨A9.b, A9.g, A9.o + j * 1⟩) (by kernel_rfl) F12.2) ?_
        refine Wo.val (.int IntKind.i64 ((↑hd.length : Int) + (↑n : Int))) hh1 (by kernel_rfl) (iop_arith (op := .add) (a := ↑hd.length) (b := ↑n) (by kernel_rfl) (by kernel_rfl) (by simp) (bin_add IntKind.i64 (by simp only [min_i64]; omega) (by simp only [max_i64]; omega))) ?_
        refine Wo.cmp (op := .lss) (x := IX.t 60) (y := IX.t 67) (k := IntKind.i64) (a := ↑l.length) (b := ↑hd.length + ↑n) ((↑l.length : Int) < (↑hd.length + ↑n : Int)) (by kernel_rfl) (by kernel_rfl) (by kernel_rfl) (by kernel_rfl) (by simp) (by kernel_rfl) (fun q13 => ?_) (fun q13 => ?_)
        · (exfalso; omega)
        have m14 := F11.bq
        have k15 := F11.parts
        have m16 := F12.1
        refine Wo.nil ?_
        refine Wp.cond false (by kernel_rfl) ?_
        refine Wp.skip ?_
        refine Wp.seq ?_
        refine Wp.region ?_
        refine Wo.pre 2 (by kernel_rfl) ?_
        refine Wo.val (.ptr ⟨(A5 : AA).b, (A5 : AA).g, (A5 : AA).o + (i) * 1⟩) hh1 (by kernel_rfl) (iop_iaN (a := A5) (n := n5) (c := q5) (ie := (↑i : Int)) (i := (i)) (by kernel_rfl) (by kernel_rfl) rfl (by first | omega | (simp; omega))) ?_
        have F17 := (a5.fr x25.fr id)
        refine Wo.val (AV.int IntKind.i64 ↑st) hh1 (by kernel_rfl) (iop_ld (a := ⟨A5.b, A5.g, A5.o + i * 1⟩) (by kernel_rfl) F17.2) ?_
        refine Wo.pre 1 (by kernel_rfl) ?_
        refine Wo.pre 2 (by kernel_rfl) ?_
        obtain ⟨H18, e18, P18, X18, n18⟩ := pt_new hh1 28 [AV.int IntKind.i64 0, AV.nils, AV.bool false] (ones_cons rfl (ones_cons rfl (ones_cons rfl ones_nil)))
        refine Wo.val (.ptr ⟨H.n hh1, 0, 0⟩) H18 (by kernel_rfl) (e18 (v := AV.agg [AV.int IntKind.i64 0, AV.nils, AV.bool false]) (by kernel_rfl) rfl) ?_
        clear e18
        have m19 := X18.1
        obtain ⟨H20, e20, P20, X20, n20⟩ := P18.st 0 [AV.int IntKind.i64 ↑st, AV.nils, AV.bool true] (by simp) (ones_cons rfl (ones_cons rfl (ones_cons rfl ones_nil)))
        refine Wo.val .undef H20 (by kernel_rfl) (iop_stP (a := { b := hh1.n, g := 0, o := 0 }) (v := AV.agg [AV.int IntKind.i64 ↑st, AV.nils, AV.bool true]) (vs := [AV.int IntKind.i64 ↑st, AV.nils, AV.bool true]) (by kernel_rfl) (by kernel_rfl) rfl rfl e20) ?_
        have m21 := X20.1
        replace P20 : Pt H20 hh1.n (Blk.cells 0 28 [AV.int IntKind.i64 ↑st, AV.nils, AV.bool true] 0 false) := P20
        refine Wo.nil ?_
        refine Wp.seq ?_
        refine Wp.draw ?_
        refine Wd.pure (by kernel_rfl) (by kernel_rfl) ?_
        refine Wd.read (AV.nils) (.ld (none) (.c (.ptr { b := hh1.n, g := 0, o := 1 }))) (by kernel_rfl) (by kernel_rfl) (iop_ldP P20 (a := { b := hh1.n, g := 0, o := 1 }) (by kernel_rfl) rfl (by kernel_rfl)) ?_
        refine Wd.pure (by kernel_rfl) (by kernel_rfl) ?_
        refine Wd.pure (by kernel_rfl) (by kernel_rfl) ?_
        refine Wd.pure (by kernel_rfl) (by kernel_rfl) ?_
        refine Wd.pure (by kernel_rfl) (by kernel_rfl) ?_
        refine Wd.pure (by kernel_rfl) (by kernel_rfl) ?_
        refine Wd.pure (by kernel_rfl) (by kernel_rfl) ?_
        refine Wd.pure (by kernel_rfl) (by kernel_rfl) ?_
        refine Wd.make (.ptr ⟨(A9 : AA).b, (A9 : AA).g, (A9 : AA).o + (j) * 1⟩) H20 (by kernel_rfl) (by kernel_rfl) (iop_iaN (a := A9) (n := n9) (c := q9) (ie := (↑j : Int)) (i := (j)) (by kernel_rfl) (by kernel_rfl) rfl (by first | omega | (simp; omega))) ?_
        have F22 := (F12.fr (X18.transL X20) (by (first | omega | (intro s hs; omega) | (dsimp only; omega) | (intro s hs; dsimp only at hs; omega) | (simp only [blk_nils, blk_sl]; omega) | (intro s hs; simp only [blk_nils, blk_sl] at hs ⊢; omega) | (simp; done))))
        refine Wd.read (AV.int IntKind.i64 ↑n) (.ld none (.c (.ptr ⟨A9.b, A9.g, A9.o + j * 1⟩))) (by kernel_rfl) (by kernel_rfl) (iop_ld (a := ⟨A9.b, A9.g, A9.o + j * 1⟩) (by kernel_rfl) F22.2) ?_
        refine Wd.make (.int IntKind.i64 ((↑hd.length : Int) + (↑n : Int))) H20 (by kernel_rfl) (by kernel_rfl) (iop_arith (op := .add) (a := ↑hd.length) (b := ↑n) (by kernel_rfl) (by kernel_rfl) (by simp) (bin_add IntKind.i64 (by simp only [min_i64]; omega) (by simp only [max_i64]; omega))) ?_
        have F23 := (F11.fr (X18.transL X20) (by (first | omega | (intro s hs; omega) | (dsimp only; omega) | (intro s hs; dsimp only at hs; omega) | (simp only [blk_nils, blk_sl]; omega) | (intro s hs; simp only [blk_nils, blk_sl] at hs ⊢; omega) | (simp; done))))
        obtain ⟨z24, e24, b24, o24⟩ := F23.subN cx (ei := (↑hd.length : Int)) (ej := (↑hd.length + ↑n : Int)) (hd.length) ((hd.length) + (n)) rfl (by omega) (by first | omega | simp; omega) (by first | omega | simp; omega)
        refine Wd.make z24 H20 (by kernel_rfl) (by kernel_rfl) (e24 (by kernel_rfl) (by kernel_rfl) (by kernel_rfl)) ?_
        clear e24
        have m25 := b24.bq
        have k26 := b24.parts
        obtain ⟨v27, H28, a29, q30, X31, q32⟩ := Ow.appF (Ow.nil0 (lo := H20.n)) b24 (by first | omega | (simp; omega) | (simp; done) | assumption) (by first | omega | (simp; omega) | (simp; done) | assumption)
        refine Wd.act _ _ (by kernel_rfl) (iop_appG (v := AV.nils) (w := z24) (by kernel_rfl) (by kernel_rfl) k26.2.2 a29) (holds_of [(IOp.ld none (IX.c (AV.ptr { b := A9.b, g := A9.g, o := A9.o + j * 1 })), AV.int IntKind.i64 ↑n, 10), (IOp.ld none (IX.c (AV.ptr { b := hh1.n, g := 0, o := 1 })), AV.nils, 1)] (by kernel_rfl) (holds_and (rd_ld F22.2) (holds_and (rd_ldP P20 rfl (by kernel_rfl)) rfl))) ?_
        have m33 := q30.bq
        have k34 := q30.parts
        have m35 := X31.1
        refine Wd.pure (by kernel_rfl) (by kernel_rfl) ?_
        have F36 := (P20.fr X31 (by (first | omega | (intro s hs; omega) | (dsimp only; omega) | (intro s hs; dsimp only at hs; omega) | (simp only [blk_nils, blk_sl]; omega) | (intro s hs; simp only [blk_nils, blk_sl] at hs ⊢; omega) | (simp; done))))
        obtain ⟨H37, e37, P37, X37, n37⟩ := F36.st 1 [v27] (by simp) (ones_cons k34.2.1 ones_nil)
        refine Wd.act .undef H37 (by kernel_rfl) (iop_stP (a := { b := hh1.n, g := 0, o := 1 }) (v := v27) (vs := [v27]) (by kernel_rfl) (by kernel_rfl) k34.1 rfl e37) (holds_of [] (by kernel_rfl) rfl) ?_
        have m38 := X37.1
        replace P37 : Pt H37 hh1.n (Blk.cells 0 28 [AV.int IntKind.i64 ↑st, v27, AV.bool true] 0 false) := P37
        refine Wd.done (holds_of [] (by kernel_rfl) rfl) ?_
        refine Wp.seq ?_
        refine Wp.draw ?_
        refine Wd.read (AV.agg [AV.int IntKind.i64 ↑st, v27, AV.bool true]) (.ld (some 3) (.c (.ptr { b := hh1.n, g := 0, o := 0 }))) (by kernel_rfl) (by kernel_rfl) (iop_ldP P37 (a := { b := hh1.n, g := 0, o := 0 }) (by kernel_rfl) rfl (by kernel_rfl)) ?_
        refine Wd.pure (by kernel_rfl) (by kernel_rfl) ?_
        refine Wd.pure (by kernel_rfl) (by kernel_rfl) ?_
        refine Wd.pure (by kernel_rfl) (by kernel_rfl) ?_
        refine Wd.pure (by kernel_rfl) (by kernel_rfl) ?_
        refine Wd.make (.ptr ⟨(A9 : AA).b, (A9 : AA).g, (A9 : AA).o + (j) * 1⟩) H37 (by kernel_rfl) (by kernel_rfl) (iop_iaN (a := A9) (n := n9) (c := q9) (ie := (↑j : Int)) (i := (j)) (by kernel_rfl) (by kernel_rfl) rfl (by first | omega | (simp; omega))) ?_
        have F39 := (F22.fr (X31.trans X37) (by (first | omega | (intro s hs; omega) | (dsimp only; omega) | (intro s hs; dsimp only at hs; omega) | (simp only [blk_nils, blk_sl]; omega) | (intro s hs; simp only [blk_nils, blk_sl] at hs ⊢; omega) | (simp; done))))
        refine Wd.read (AV.int IntKind.i64 ↑n) (.ld none (.c (.ptr ⟨A9.b, A9.g, A9.o + j * 1⟩))) (by kernel_rfl) (by kernel_rfl) (iop_ld (a := ⟨A9.b, A9.g, A9.o + j * 1⟩) (by kernel_rfl) F39.2) ?_
        refine Wd.make (.int IntKind.i64 ((↑hd.length : Int) + (↑n : Int))) H37 (by kernel_rfl) (by kernel_rfl) (iop_arith (op := .add) (a := ↑hd.length) (b := ↑n) (by kernel_rfl) (by kernel_rfl) (by simp) (bin_add IntKind.i64 (by simp only [min_i64]; omega) (by simp only [max_i64]; omega))) ?_
        have F40 := (P2.fr ((((x25.fr.trans0 X18).transL X20).trans X31).trans X37) (by (first | omega | (intro s hs; omega) | (dsimp only; omega) | (intro s hs; dsimp only at hs; omega) | (simp only [blk_nils, blk_sl]; omega) | (intro s hs; simp only [blk_nils, blk_sl] at hs ⊢; omega) | (simp; done))))
        obtain ⟨H41, e41, P41, X41, n41⟩ := F40.st 0 [AV.int IntKind.i64 ↑st, v27, AV.bool true] (by simp) (ones_cons rfl (ones_cons k34.2.1 (ones_cons rfl ones_nil)))
        refine Wd.act .undef H41 (by kernel_rfl) (iop_stP (a := { b := p2, g := 0, o := 0 }) (v := AV.agg [AV.int IntKind.i64 ↑st, v27, AV.bool true]) (vs := [AV.int IntKind.i64 ↑st, v27, AV.bool true]) (by kernel_rfl) (by kernel_rfl) rfl rfl e41) (holds_of [(IOp.ld none (IX.c (AV.ptr { b := A9.b, g := A9.g, o := A9.o + j * 1 })), AV.int IntKind.i64 ↑n, 6), (IOp.ld (some 3) (IX.c (AV.ptr { b := hh1.n, g := 0, o := 0 })), AV.agg [AV.int IntKind.i64 ↑st, v27, AV.bool true], 0)] (by kernel_rfl) (holds_and (rd_ld F39.2) (holds_and (rd_ldP P37 rfl (by kernel_rfl)) rfl))) ?_
        have m42 := X41.1
        replace P41 : Pt H41 p2 (Blk.cells 0 28 [AV.int IntKind.i64 ↑st, v27, AV.bool true] 0 false) := P41
        refine Wd.pure (by kernel_rfl) (by kernel_rfl) ?_
        refine Wd.pure (by kernel_rfl) (by kernel_rfl) ?_
        have F43 := (F39.fr X41 (by (first | omega | (intro s hs; omega) | (dsimp only; omega) | (intro s hs; dsimp only at hs; omega) | (simp only [blk_nils, blk_sl]; omega) | (intro s hs; simp only [blk_nils, blk_sl] at hs ⊢; omega) | (simp; done))))
        refine Wd.done (holds_of [(IOp.ld none (IX.c (AV.ptr { b := A9.b, g := A9.g, o := A9.o + j * 1 })), AV.int IntKind.i64 ↑n, 6)] (by kernel_rfl) (holds_and (rd_ld F43.2) rfl)) ?_
        refine Wp.ret ?_
        exact hret _ _ (ret9 (p2 := p2) (a := .int .i64 st) (c := .bool true) (N := .int .i64 ((hd.length : Int) + (n : Int))) (E := .int .i64 0) (by kernel_rfl) P41 (by kernel_rfl) (by kernel_rfl) (((((((hE.fr.trans0 x25.fr).trans0 X18).transL X20).trans X31).trans X37).trans X41).ext (by intro s hs; first | omega | (dsimp only at hs; omega) | (simp only [blk_nils, blk_sl] at hs ⊢; omega))) ⟨_, _, _, rfl, (by rw [← hhd]; exact (Int.natCast_add _ _).symm), ((q30.fr (X37.trans X41) (by have d0 := m33.1.e; (first | omega | (intro s hs; omega) | (dsimp only; omega) | (intro s hs; dsimp only at hs; omega) | (simp only [blk_nils, blk_sl]; omega) | (intro s hs; simp only [blk_nils, blk_sl] at hs ⊢; omega) | (simp; done)))).mono (by omega)), (by (rw [← hhd]; exact cut_eq rfl))⟩)
    | false =>
      rw [hpre, if_neg (by simp)] at hS
      cases may
      · rw [Bool.false_or] at hS
        cases hm : l.isPrefixOf hd with
        | true =>
          rw [hm] at hS
          have m1 := hx.bq
          have k2 := hx.parts
          have m3 := P2.1
          have m4 := a5.1
          have m5 := a9.1
          have m6 := hE.1
          have m7 := x25.1
          refine Wp.seq ?_
          refine Wp.seq ?_
          refine Wp.region ?_
          refine Wo.pre 1 (by kernel_rfl) ?_
          refine Wo.pre 1 (by kernel_rfl) ?_
          refine Wo.nil ?_
          refine Wp.cond true (by kernel_rfl) ?_
          refine Wp.skip ?_
          refine Wp.seq ?_
          refine Wp.block ?_
          refine Wp.seq ?_
          refine Wp.seq ?_
          refine Wp.region ?_
          refine Wo.pre 2 (by kernel_rfl) ?_
          refine Wo.val (.ptr ⟨(A9 : AA).b, (A9 : AA).g, (A9 : AA).o + (j) * 1⟩) h (by kernel_rfl) (iop_iaN (a := A9) (n := n9) (c := q9) (ie := (↑j : Int)) (i := (j)) (by kernel_rfl) (by kernel_rfl) rfl (by first | omega | (simp; omega))) ?_
          refine Wo.val (AV.int IntKind.i64 ↑n) h (by kernel_rfl) (iop_ld (a := ⟨A9.b, A9.g, A9.o + j * 1⟩) (by kernel_rfl) a9.2) ?_
          refine Wo.cmp (op := .gtr) (x := IX.t 43) (y := IX.c (AV.int IntKind.i64 1048576)) (k := IntKind.i64) (a := ↑n) (b := 1048576) ((↑n : Int) > (1048576 : Int)) (by kernel_rfl) (by kernel_rfl) (by kernel_rfl) (by kernel_rfl) (by simp) (by kernel_rfl) (fun q8 => ?_) (fun q8 => ?_)
          · (exfalso; omega)
          refine Wo.nil ?_
          refine Wp.cond false (by kernel_rfl) ?_
          refine Wp.skip ?_
          refine Wp.seq ?_
          refine Wp.draw ?_
          refine Wd.pure (by kernel_rfl) (by kernel_rfl) ?_
          refine Wd.pure (by kernel_rfl) (by kernel_rfl) ?_
          refine Wd.make (.ptr ⟨(A5 : AA).b, (A5 : AA).g, (A5 : AA).o + (i) * 1⟩) h (by kernel_rfl) (by kernel_rfl) (iop_iaN (a := A5) (n := n5) (c := q5) (ie := (↑i : Int)) (i := (i)) (by kernel_rfl) (by kernel_rfl) rfl (by first | omega | (simp; omega))) ?_
          refine Wd.read (AV.int IntKind.i64 ↑st) (.ld none (.c (.ptr ⟨A5.b, A5.g, A5.o + i * 1⟩))) (by kernel_rfl) (by kernel_rfl) (iop_ld (a := ⟨A5.b, A5.g, A5.o + i * 1⟩) (by kernel_rfl) a5.2) ?_
          refine Wd.pure (by kernel_rfl) (by kernel_rfl) ?_
          refine Wd.pure (by kernel_rfl) (by kernel_rfl) ?_
          refine Wd.make (.ptr ⟨(A9 : AA).b, (A9 : AA).g, (A9 : AA).o + (j) * 1⟩) h (by kernel_rfl) (by kernel_rfl) (iop_iaN (a := A9) (n := n9) (c := q9) (ie := (↑j : Int)) (i := (j)) (by kernel_rfl) (by kernel_rfl) rfl (by first | omega | (simp; omega))) ?_
          refine Wd.read (AV.int IntKind.i64 ↑n) (.ld none (.c (.ptr ⟨A9.b, A9.g, A9.o + j * 1⟩))) (by kernel_rfl) (by kernel_rfl) (iop_ld (a := ⟨A9.b, A9.g, A9.o + j * 1⟩) (by kernel_rfl) a9.2) ?_
          refine Wd.pure (by kernel_rfl) (by kernel_rfl) ?_
          refine Wd.pure (by kernel_rfl) (by kernel_rfl) ?_
          refine Wd.call (by kernel_rfl) (by kernel_rfl) c25 (holds_of [(IOp.ld none (IX.c (AV.ptr { b := A9.b, g := A9.g, o := A9.o + j * 1 })), AV.int IntKind.i64 ↑n, 7), (IOp.ld none (IX.c (AV.ptr { b := A5.b, g := A5.g, o := A5.o + i * 1 })), AV.int IntKind.i64 ↑st, 3)] (by kernel_rfl) (holds_and (rd_ld a9.2) (holds_and (rd_ld a5.2) rfl))) ?_
          clear c25
          refine Wd.pure (by kernel_rfl) (by kernel_rfl) ?_
          refine Wd.done (holds_of [] (by kernel_rfl) rfl) ?_
          refine Wp.seq ?_
          refine Wp.seq ?_
          refine Wp.region ?_
          refine Wo.pre 2 (by kernel_rfl) ?_
          have c9 := begs_run (hh1) (f) (hd)
          refine Wo.call (by kernel_rfl) (by kernel_rfl) c9 ?_
          clear c9
          refine Wo.boolS (fun q10 => ?_) (fun q10 => ?_)
          · exact absurd (hpre.symm.trans (by with_reducible assumption)) (by decide)
          refine Wo.nil ?_
          refine Wp.cond false (by kernel_rfl) ?_
          refine Wp.skip ?_
          refine Wp.region ?_
          refine Wo.pre 4 (by kernel_rfl) ?_
          have F11 := (hx.fr (hE.fr.trans0 x25.fr) (.inr id))
          refine Wo.val (.str (l)) hh1 (by kernel_rfl) (iop_cvBS (v := x) (by kernel_rfl) F11) ?_
          have c12 := begs_run (hh1) (hd) (l)
          refine Wo.call (by kernel_rfl) (by kernel_rfl) c12 ?_
          clear c12
          refine Wo.boolS (fun q13 => ?_) (fun q13 => ?_)
          rotate_left
          · exact absurd (hm.symm.trans (by with_reducible assumption)) (by decide)
          have m14 := F11.bq
          have k15 := F11.parts
          refine Wo.pre 2 (by kernel_rfl) ?_
          refine Wo.nil ?_
          refine Wp.region ?_
          refine Wo.pre 1 (by kernel_rfl) ?_
          refine Wo.pre 2 (by kernel_rfl) ?_
          refine Wo.nil ?_
          exact hN _ _ true (by kernel_rfl) (by kernel_rfl) (by kernel_rfl) (by kernel_rfl) (by kernel_rfl) (by kernel_rfl) (by kernel_rfl) (by kernel_rfl) (by kernel_rfl) (by kernel_rfl) ((hE.fr.trans0 x25.fr).ext0) (x25.fr.ext0) (P2.fr x25.fr id) (a5.fr x25.fr id) (a9.fr x25.fr id) hS
        | false =>
          rw [hm] at hS
          have m1 := hx.bq
          have k2 := hx.parts
          have m3 := P2.1
          have m4 := a5.1
          have m5 := a9.1
          have m6 := hE.1
          have m7 := x25.1
          refine Wp.seq ?_
          refine Wp.seq ?_
          refine Wp.region ?_
          refine Wo.pre 1 (by kernel_rfl) ?_
          refine Wo.pre 1 (by kernel_rfl) ?_
          refine Wo.nil ?_
          refine Wp.cond true (by kernel_rfl) ?_
          refine Wp.skip ?_
          refine Wp.seq ?_
          refine Wp.block ?_
          refine Wp.seq ?_
          refine Wp.seq ?_
          refine Wp.region ?_
          refine Wo.pre 2 (by kernel_rfl) ?_
          refine Wo.val (.ptr ⟨(A9 : AA).b, (A9 : AA).g, (A9 : AA).o + (j) * 1⟩) h (by kernel_rfl) (iop_iaN (a := A9) (n := n9) (c := q9) (ie := (↑j : Int)) (i := (j)) (by kernel_rfl) (by kernel_rfl) rfl (by first | omega | (simp; omega))) ?_
          refine Wo.val (AV.int IntKind.i64 ↑n) h (by kernel_rfl) (iop_ld (a := ⟨A9.b, A9.g, A9.o + j * 1⟩) (by kernel_rfl) a9.2) ?_
          refine Wo.cmp (op := .gtr) (x := IX.t 43) (y := IX.c (AV.int IntKind.i64 1048576)) (k := IntKind.i64) (a := ↑n) (b := 1048576) ((↑n : Int) > (1048576 : Int)) (by kernel_rfl) (by kernel_rfl) (by kernel_rfl) (by kernel_rfl) (by simp) (by kernel_rfl) (fun q8 => ?_) (fun q8 => ?_)
          · (exfalso; omega)
          refine Wo.nil ?_
          refine Wp.cond false (by kernel_rfl) ?_
          refine Wp.skip ?_
          refine Wp.seq ?_
          refine Wp.draw ?_
          refine Wd.pure (by kernel_rfl) (by kernel_rfl) ?_
          refine Wd.pure (by kernel_rfl) (by kernel_rfl) ?_
          refine Wd.make (.ptr ⟨(A5 : AA).b, (A5 : AA).g, (A5 : AA).o + (i) * 1⟩) h (by kernel_rfl) (by kernel_rfl) (iop_iaN (a := A5) (n := n5) (c := q5) (ie := (↑i : Int)) (i := (i)) (by kernel_rfl) (by kernel_rfl) rfl (by first | omega | (simp; omega))) ?_
          refine Wd.read (AV.int IntKind.i64 ↑st) (.ld none (.c (.ptr ⟨A5.b, A5.g, A5.o + i * 1⟩))) (by kernel_rfl) (by kernel_rfl) (iop_ld (a := ⟨A5.b, A5.g, A5.o + i * 1⟩) (by kernel_rfl) a5.2) ?_
          refine Wd.pure (by kernel_rfl) (by kernel_rfl) ?_
          refine Wd.pure (by kernel_rfl) (by kernel_rfl) ?_
          refine Wd.make (.ptr ⟨(A9 : AA).b, (A9 : AA).g, (A9 : AA).o + (j) * 1⟩) h (by kernel_rfl) (by kernel_rfl) (iop_iaN (a := A9) (n := n9) (c := q9) (ie := (↑j : Int)) (i := (j)) (by kernel_rfl) (by kernel_rfl) rfl (by first | omega | (simp; omega))) ?_
          refine Wd.read (AV.int IntKind.i64 ↑n) (.ld none (.c (.ptr ⟨A9.b, A9.g, A9.o + j * 1⟩))) (by kernel_rfl) (by kernel_rfl) (iop_ld (a := ⟨A9.b, A9.g, A9.o + j * 1⟩) (by kernel_rfl) a9.2) ?_
          refine Wd.pure (by kernel_rfl) (by kernel_rfl) ?_
          refine Wd.pure (by kernel_rfl) (by kernel_rfl) ?_
          refine Wd.call (by kernel_rfl) (by kernel_rfl) c25 (holds_of [(IOp.ld none (IX.c (AV.ptr { b := A9.b, g := A9.g, o := A9.o + j * 1 })), AV.int IntKind.i64 ↑n, 7), (IOp.ld none (IX.c (AV.ptr { b := A5.b, g := A5.g, o := A5.o + i * 1 })), AV.int IntKind.i64 ↑st, 3)] (by kernel_rfl) (holds_and (rd_ld a9.2) (holds_and (rd_ld a5.2) rfl))) ?_
          clear c25
          refine Wd.pure (by kernel_rfl) (by kernel_rfl) ?_
          refine Wd.done (holds_of [] (by kernel_rfl) rfl) ?_
          refine Wp.seq ?_
          refine Wp.seq ?_
          refine Wp.region ?_
          refine Wo.pre 2 (by kernel_rfl) ?_
          have c9 := begs_run (hh1) (f) (hd)
          refine Wo.call (by kernel_rfl) (by kernel_rfl) c9 ?_
          clear c9
          refine Wo.boolS (fun q10 => ?_) (fun q10 => ?_)
          · exact absurd (hpre.symm.trans (by with_reducible assumption)) (by decide)
          refine Wo.nil ?_
          refine Wp.cond false (by kernel_rfl) ?_
          refine Wp.skip ?_
          refine Wp.region ?_
          refine Wo.pre 4 (by kernel_rfl) ?_
          have F11 := (hx.fr (hE.fr.trans0 x25.fr) (.inr id))
          refine Wo.val (.str (l)) hh1 (by kernel_rfl) (iop_cvBS (v := x) (by kernel_rfl) F11) ?_
          have c12 := begs_run (hh1) (hd) (l)
          refine Wo.call (by kernel_rfl) (by kernel_rfl) c12 ?_
          clear c12
          refine Wo.boolS (fun q13 => ?_) (fun q13 => ?_)
          · exact absurd (hm.symm.trans (by with_reducible assumption)) (by decide)
          have m14 := F11.bq
          have k15 := F11.parts
          refine Wo.pre 2 (by kernel_rfl) ?_
          refine Wo.nil ?_
          refine Wp.region ?_
          refine Wo.pre 1 (by kernel_rfl) ?_
          refine Wo.pre 2 (by kernel_rfl) ?_
          refine Wo.nil ?_
          exact hN _ _ false (by kernel_rfl) (by kernel_rfl) (by kernel_rfl) (by kernel_rfl) (by kernel_rfl) (by kernel_rfl) (by kernel_rfl) (by kernel_rfl) (by kernel_rfl) (by kernel_rfl) ((hE.fr.trans0 x25.fr).ext0) (x25.fr.ext0) (P2.fr x25.fr id) (a5.fr x25.fr id) (a9.fr x25.fr id) hS
      · rw [Bool.true_or] at hS
        have m1 := hx.bq
        have k2 := hx.parts
        have m3 := P2.1
        have m4 := a5.1
        have m5 := a9.1
        have m6 := hE.1
        have m7 := x25.1
        refine Wp.seq ?_
        refine Wp.seq ?_
        refine Wp.region ?_
        refine Wo.pre 1 (by kernel_rfl) ?_
        refine Wo.pre 1 (by kernel_rfl) ?_
        refine Wo.nil ?_
        refine Wp.cond true (by kernel_rfl) ?_
        refine Wp.skip ?_
        refine Wp.seq ?_
        refine Wp.block ?_
        refine Wp.seq ?_
        refine Wp.seq ?_
        refine Wp.region ?_
        refine Wo.pre 2 (by kernel_rfl) ?_
        refine Wo.val (.ptr ⟨(A9 : AA).b, (A9 : AA).g, (A9 : AA).o + (j) * 1⟩) h (by kernel_rfl) (iop_iaN (a := A9) (n := n9) (c := q9) (ie := (↑j : Int)) (i := (j)) (by kernel_rfl) (by kernel_rfl) rfl (by first | omega | (simp; omega))) ?_
        refine Wo.val (AV.int IntKind.i64 ↑n) h (by kernel_rfl) (iop_ld (a := ⟨A9.b, A9.g, A9.o + j * 1⟩) (by kernel_rfl) a9.2) ?_
        refine Wo.cmp (op := .gtr) (x := IX.t 43) (y := IX.c (AV.int IntKind.i64 1048576)) (k := IntKind.i64) (a := ↑n) (b := 1048576) ((↑n : Int) > (1048576 : Int)) (by kernel_rfl) (by kernel_rfl) (by kernel_rfl) (by kernel_rfl) (by simp) (by kernel_rfl) (fun q8 => ?_) (fun q8 => ?_)
        · (exfalso; omega)
        refine Wo.nil ?_
        refine Wp.cond false (by kernel_rfl) ?_
        refine Wp.skip ?_
        refine Wp.seq ?_
        refine Wp.draw ?_
        refine Wd.pure (by kernel_rfl) (by kernel_rfl) ?_
        refine Wd.pure (by kernel_rfl) (by kernel_rfl) ?_
        refine Wd.make (.ptr ⟨(A5 : AA).b, (A5 : AA).g, (A5 : AA).o + (i) * 1⟩) h (by kernel_rfl) (by kernel_rfl) (iop_iaN (a := A5) (n := n5) (c := q5) (ie := (↑i : Int)) (i := (i)) (by kernel_rfl) (by kernel_rfl) rfl (by first | omega | (simp; omega))) ?_
        refine Wd.read (AV.int IntKind.i64 ↑st) (.ld none (.c (.ptr ⟨A5.b, A5.g, A5.o + i * 1⟩))) (by kernel_rfl) (by kernel_rfl) (iop_ld (a := ⟨A5.b, A5.g, A5.o + i * 1⟩) (by kernel_rfl) a5.2) ?_
        refine Wd.pure (by kernel_rfl) (by kernel_rfl) ?_
        refine Wd.pure (by kernel_rfl) (by kernel_rfl) ?_
        refine Wd.make (.ptr ⟨(A9 : AA).b, (A9 : AA).g, (A9 : AA).o + (j) * 1⟩) h (by kernel_rfl) (by kernel_rfl) (iop_iaN (a := A9) (n := n9) (c := q9) (ie := (↑j : Int)) (i := (j)) (by kernel_rfl) (by kernel_rfl) rfl (by first | omega | (simp; omega))) ?_
        refine Wd.read (AV.int IntKind.i64 ↑n) (.ld none (.c (.ptr ⟨A9.b, A9.g, A9.o + j * 1⟩))) (by kernel_rfl) (by kernel_rfl) (iop_ld (a := ⟨A9.b, A9.g, A9.o + j * 1⟩) (by kernel_rfl) a9.2) ?_
        refine Wd.pure (by kernel_rfl) (by kernel_rfl) ?_
        refine Wd.pure (by kernel_rfl) (by kernel_rfl) ?_
        refine Wd.call (by kernel_rfl) (by kernel_rfl) c25 (holds_of [(IOp.ld none (IX.c (AV.ptr { b := A9.b, g := A9.g, o := A9.o + j * 1 })), AV.int IntKind.i64 ↑n, 7), (IOp.ld none (IX.c (AV.ptr { b := A5.b, g := A5.g, o := A5.o + i * 1 })), AV.int IntKind.i64 ↑st, 3)] (by kernel_rfl) (holds_and (rd_ld a9.2) (holds_and (rd_ld a5.2) rfl))) ?_
        clear c25
        refine Wd.pure (by kernel_rfl) (by kernel_rfl) ?_
        refine Wd.done (holds_of [] (by kernel_rfl) rfl) ?_
        refine Wp.seq ?_
        refine Wp.seq ?_
        refine Wp.region ?_
        refine Wo.pre 2 (by kernel_rfl) ?_
        have c9 := begs_run (hh1) (f) (hd)
        refine Wo.call (by kernel_rfl) (by kernel_rfl) c9 ?_
        clear c9
        refine Wo.boolS (fun q10 => ?_) (fun q10 => ?_)
        · exact absurd (hpre.symm.trans (by with_reducible assumption)) (by decide)
        refine Wo.nil ?_
        refine Wp.cond false (by kernel_rfl) ?_
        refine Wp.skip ?_
        refine Wp.region ?_
        refine Wo.pre 5 (by kernel_rfl) ?_
        refine Wo.pre 1 (by kernel_rfl) ?_
        refine Wo.pre 2 (by kernel_rfl) ?_
        refine Wo.nil ?_
        refine Wp.region ?_
        refine Wo.pre 1 (by kernel_rfl) ?_
        refine Wo.pre 2 (by kernel_rfl) ?_
        refine Wo.nil ?_
        exact hN _ _ true (by kernel_rfl) (by kernel_rfl) (by kernel_rfl) (by kernel_rfl) (by kernel_rfl) (by kernel_rfl) (by kernel_rfl) (by kernel_rfl) (by kernel_rfl) (by kernel_rfl) ((hE.fr.trans0 x25.fr).ext0) (x25.fr.ext0) (P2.fr x25.fr id) (a5.fr x25.fr id) (a9.fr x25.fr id) hS
end Go.Det
