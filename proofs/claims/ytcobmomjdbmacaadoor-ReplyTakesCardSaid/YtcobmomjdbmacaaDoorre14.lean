/- Reply: the document's Take, whole: the walks. -/
import Derived.Test.YtcobmomjdbmacaaDoorre13
set_option linter.unusedVariables false
set_option linter.unusedSimpArgs false
set_option linter.unusedSectionVars false
namespace Go.Det
open Go.Proofs
attribute [local irreducible] Wp Wo Wd iop ev slots quiets wanted put

theorem tries_cons (n : Nat) (u : List Nat) (st : Nat) : Re.tries (n :: u) st = (st, n, false) :: (st, n, true) :: Re.tries u st := rfl

set_option maxHeartbeats 8000000 in
theorem pair_end {h : H} {ts : List AV} (t0 : ts.length = 110) (g11 : getL ts 11 = some (.int .i64 2)) {x : AV} {p2 : Nat} {A5 A9 : AA} {n5 n9 : Nat} {q5 q9 : Cp} {f : List UInt8} {may : Bool} {i j : Nat} (g0 : getL ts 0 = some x) (g2 : getL ts 2 = some (.ptr ⟨p2, 0, 0⟩)) (g5 : getL ts 5 = some (.sl A5 n5 q5)) (g6 : getL ts 6 = some (.str f)) (g7 : getL ts 7 = some (.bool may)) (g8 : getL ts 8 = some (.int .i64 i)) (g9 : getL ts 9 = some (.sl A9 n9 q9)) (g10 : getL ts 10 = some (.int .i64 j))
    {Q : Ex → St → Prop} (hQ : ∀ ts', ts'.length = 110 → getL ts' 0 = some x → getL ts' 2 = some (.ptr ⟨p2, 0, 0⟩) → getL ts' 5 = some (.sl A5 n5 q5) → getL ts' 6 = some (.str f) → getL ts' 7 = some (.bool may) → getL ts' 8 = some (.int .i64 i) → getL ts' 9 = some (.sl A9 n9 q9) → getL ts' 10 = some (.int .i64 j) → Q (.exit 4) (ts', h)) : Wp TF (.loop l9_1) (ts, h) Q := by
  refine Wp.loop ?_
  rw [laid_eq t0 [(0, x), (2, .ptr ⟨p2, 0, 0⟩), (5, .sl A5 n5 q5), (6, .str f), (7, .bool may), (8, .int .i64 i), (9, .sl A9 n9 q9), (10, .int .i64 j), (11, .int .i64 2)] (by simp [g0, g2, g5, g6, g7, g8, g9, g10, g11])]
  refine Wp.seq ?_
  refine Wp.seq ?_
  refine Wp.region ?_
  refine Wo.pre 1 (by kernel_rfl) ?_
  refine Wo.pre 1 (by kernel_rfl) ?_
  refine Wo.nil ?_
  refine Wp.cond false (by kernel_rfl) ?_
  refine Wp.exit ?_
  exact hQ _ (by kernel_rfl) (by kernel_rfl) (by kernel_rfl) (by kernel_rfl) (by kernel_rfl) (by kernel_rfl) (by kernel_rfl) (by kernel_rfl) (by kernel_rfl)

set_option maxHeartbeats 8000000 in
/-- The numbers, one after the other. -/
theorem mid_loop {h0 : H} {x : AV} {l f : List UInt8} {b5 b9 p2 i st : Nat} {ns : List Nat} {q5 q9 : Cp} {R : Re.Res} {L : List (Nat × Nat × Bool)} (hf : f = l.take 200) (hx : Bs h0 x l) (cx : Cok x) (hl : l.length ≤ 140737488351232) (hp2 : h0.n ≤ p2) (h5 : b5 ≠ p2) (h9 : b9 ≠ p2) (hi : i < 6) (hst : st ≤ 1000) (hci : Re.codes[i]? = some st) (hns : ∀ n ∈ ns, n < 100000000) (hnl : ns.length ≤ 1000) :
    ∀ (u : List Nat) (j : Nat), ns.drop j = u → j ≤ ns.length → ∀ (h : H) (may : Bool) (ts : List AV), Ext h0 h → Pt h p2 (.cells 0 28 [.int .i64 0, .nils, .bool false] 0 false) → Pt h b5 (.cells 0 3 (numAV Re.codes) 0 false) → Pt h b9 (.cells 0 3 (numAV ns) 0 false) → Re.scan l (Re.tries u st ++ L) may = R → ts.length = 110 → getL ts 0 = some x → getL ts 2 = some (.ptr ⟨p2, 0, 0⟩) → getL ts 5 = some (.sl ⟨b5, 0, 0⟩ 6 q5) → getL ts 6 = some (.str f) → getL ts 7 = some (.bool may) → getL ts 8 = some (.int .i64 i) → getL ts 9 = some (.sl ⟨b9, 0, 0⟩ ns.length q9) → getL ts 10 = some (.int .i64 j) →
      ∀ (Q : Ex → St → Prop), (∀ ts' h', After h0 l R .ret (ts', h') → Q .ret (ts', h')) → (∀ ts' h' may', Ext h0 h' → Pt h' p2 (.cells 0 28 [.int .i64 0, .nils, .bool false] 0 false) → Pt h' b5 (.cells 0 3 (numAV Re.codes) 0 false) → Re.scan l L may' = R → ts'.length = 110 → getL ts' 0 = some x → getL ts' 2 = some (.ptr ⟨p2, 0, 0⟩) → getL ts' 5 = some (.sl ⟨b5, 0, 0⟩ 6 q5) → getL ts' 6 = some (.str f) → getL ts' 7 = some (.bool may') → getL ts' 8 = some (.int .i64 i) → Q (.exit 2) (ts', h')) → Wp TF (.loop l9_2) (ts, h) Q := by
  intro u
  induction u with
  | nil =>
    intro j hu hle h may ts hE P2 P5 P9 hS t0 g0 g2 g5 g6 g7 g8 g9 g10 Q hret hQ
    have hlen : ns.length ≤ j := by
      have := congrArg List.length hu
      simp only [List.length_drop, List.length_nil] at this
      omega
    refine Wp.loop ?_
    rw [laid_eq t0 [(0, x), (2, .ptr ⟨p2, 0, 0⟩), (5, .sl ⟨b5, 0, 0⟩ 6 q5), (6, .str f), (7, .bool may), (8, .int .i64 i), (9, .sl ⟨b9, 0, 0⟩ ns.length q9), (10, .int .i64 j)] (by simp [g0, g2, g5, g6, g7, g8, g9, g10])]
    have m1 := hx.bq
    have k2 := hx.parts
    have m3 := P2.1
    have m4 := P5.1
    have m5 := P9.1
    have m6 := hE.1
    refine Wp.seq ?_
    refine Wp.seq ?_
    refine Wp.region ?_
    refine Wo.pre 3 (by kernel_rfl) ?_
    refine Wo.cmp (op := .lss) (x := IX.t 30) (y := IX.t 32) (k := IntKind.i64) (a := ↑j) (b := ↑ns.length) ((↑j : Int) < (↑ns.length : Int)) (by kernel_rfl) (by kernel_rfl) (by kernel_rfl) (by kernel_rfl) (by simp) (by kernel_rfl) (fun q7 => ?_) (fun q7 => ?_)
    · (exfalso; omega)
    refine Wo.nil ?_
    refine Wp.cond false (by kernel_rfl) ?_
    refine Wp.exit ?_
    exact hQ _ _ may hE P2 P5 hS (by kernel_rfl) (by kernel_rfl) (by kernel_rfl) (by kernel_rfl) (by kernel_rfl) (by kernel_rfl) (by kernel_rfl)
  | cons n u ih =>
    intro j hu hle h may ts hE P2 P5 P9 hS t0 g0 g2 g5 g6 g7 g8 g9 g10 Q hret hQ
    have hlt : j < ns.length := by
      have := congrArg List.length hu
      simp only [List.length_drop, List.length_cons] at this
      omega
    have hnj : ns[j]? = some n := by
      have e := congrArg (fun z => z[0]?) hu
      simp only [List.getElem?_drop, Nat.add_zero, List.getElem?_cons_zero] at e
      exact e
    have hu2 : ns.drop (j + 1) = u := by
      rw [← List.drop_drop, hu]
      rfl
    have hn8 := hns n (List.mem_of_getElem? hnj)
    rw [tries_cons] at hS
    refine Wp.loop ?_
    rw [laid_eq t0 [(0, x), (2, .ptr ⟨p2, 0, 0⟩), (5, .sl ⟨b5, 0, 0⟩ 6 q5), (6, .str f), (7, .bool may), (8, .int .i64 i), (9, .sl ⟨b9, 0, 0⟩ ns.length q9), (10, .int .i64 j)] (by simp [g0, g2, g5, g6, g7, g8, g9, g10])]
    have m1 := hx.bq
    have k2 := hx.parts
    have m3 := P2.1
    have m4 := P5.1
    have m5 := P9.1
    have m6 := hE.1
    refine Wp.seq ?_
    refine Wp.seq ?_
    refine Wp.region ?_
    refine Wo.pre 3 (by kernel_rfl) ?_
    refine Wo.cmp (op := .lss) (x := IX.t 30) (y := IX.t 32) (k := IntKind.i64) (a := ↑j) (b := ↑ns.length) ((↑j : Int) < (↑ns.length : Int)) (by kernel_rfl) (by kernel_rfl) (by kernel_rfl) (by kernel_rfl) (by simp) (by kernel_rfl) (fun q7 => ?_) (fun q7 => ?_)
    rotate_left
    · (exfalso; omega)
    refine Wo.nil ?_
    refine Wp.cond true (by kernel_rfl) ?_
    refine Wp.skip ?_
    refine Wp.seq ?_
    refine Wp.block ?_
    refine Wp.seq ?_
    refine Wp.region ?_
    refine Wo.pre 1 (by kernel_rfl) ?_
    refine Wo.nil ?_
    refine Wp.block ?_
    refine try0 (A5 := ⟨b5, 0, 0⟩) (A9 := ⟨b9, 0, 0⟩) (i := i) (j := j) (st := st) (n := n) (may := may) (x := x) (n5 := 6) (n9 := ns.length) (q5 := q5) (q9 := q9) (p2 := p2) (f := f) hf hx cx hl hE P2 hp2 (AtN.of P5 hci) (AtN.of P9 hnj) h5 h9 hi hlt hst (by omega) hS (by kernel_rfl) (by kernel_rfl) (by kernel_rfl) (by kernel_rfl) (by kernel_rfl) (by kernel_rfl) (by kernel_rfl) (by kernel_rfl) (by kernel_rfl) (by kernel_rfl) hret ?_
    intro ts1 h1 may1 u0 v0 v2 v5 v6 v7 v8 v9 v10 v11 E1 X1 Q2 A5' A9' hS1
    refine try1 (A5 := ⟨b5, 0, 0⟩) (A9 := ⟨b9, 0, 0⟩) (i := i) (j := j) (st := st) (n := n) (may := may1) (x := x) (n5 := 6) (n9 := ns.length) (q5 := q5) (q9 := q9) (p2 := p2) (f := f) hf hx cx hl E1 Q2 hp2 A5' A9' h5 h9 hi hlt hst (by omega) hS1 u0 v0 v2 v5 v6 v7 v8 v9 v10 v11 hret ?_
    intro ts2 h2 may2 w0 z0 z2 z5 z6 z7 z8 z9 z10 z11 E2 X2 Q3 A5'' A9'' hS2
    refine pair_end w0 z11 z0 z2 z5 z6 z7 z8 z9 z10 ?_
    intro ts3 y y0 y2 y5 y6 y7 y8 y9 y10
    have P5' := (P5.fr X1.fr id).fr X2.fr id
    have P9' := (P9.fr X1.fr id).fr X2.fr id
    show Wp TF _ _ _
    rw [laid_eq y [(0, x), (2, .ptr ⟨p2, 0, 0⟩), (5, .sl ⟨b5, 0, 0⟩ 6 q5), (6, .str f), (7, .bool may2), (8, .int .i64 i), (9, .sl ⟨b9, 0, 0⟩ ns.length q9), (10, .int .i64 j)] (by simp [y0, y2, y5, y6, y7, y8, y9, y10])]
    have m1 := hx.bq
    have k2 := hx.parts
    have m3 := P2.1
    have m4 := P5.1
    have m5 := P9.1
    have m6 := Q2.1
    have m7 := A5'.1
    have m8 := A9'.1
    have m9 := Q3.1
    have m10 := A5''.1
    have m11 := A9''.1
    have m12 := P5'.1
    have m13 := P9'.1
    have m14 := hE.1
    have m15 := E1.1
    have m16 := X1.1
    have m17 := E2.1
    have m18 := X2.1
    refine Wp.region ?_
    refine Wo.pre 1 (by kernel_rfl) ?_
    refine Wo.val (.int IntKind.i64 ((↑j : Int) + (1 : Int))) h2 (by kernel_rfl) (iop_arith (op := .add) (a := ↑j) (b := 1) (by kernel_rfl) (by kernel_rfl) (by simp) (bin_add IntKind.i64 (by simp only [min_i64]; omega) (by simp only [max_i64]; omega))) ?_
    refine Wo.pre 1 (by kernel_rfl) ?_
    refine Wo.nil ?_
    exact ih (j + 1) hu2 (by omega) h2 may2 _ E2 Q3 P5' P9' hS2 (by kernel_rfl) (by kernel_rfl) (by kernel_rfl) (by kernel_rfl) (by kernel_rfl) (by kernel_rfl) (by kernel_rfl) (by kernel_rfl) (by kernel_rfl) Q hret hQ

set_option maxHeartbeats 8000000 in
/-- The statuses, one after the other. -/
theorem out9_loop {h0 : H} {x : AV} {l f : List UInt8} {b5 p2 : Nat} {q5 : Cp} {R : Re.Res} (hf : f = l.take 200) (hx : Bs h0 x l) (cx : Cok x) (hl : l.length ≤ 140737488351232) (hp2 : h0.n ≤ p2) (h5 : b5 ≠ p2) (hnl : (Re.nums f).length ≤ 2) :
    ∀ (cs : List Nat) (i : Nat), Re.codes.drop i = cs → i ≤ 6 → ∀ (h : H) (may : Bool) (ts : List AV), Ext h0 h → Pt h p2 (.cells 0 28 [.int .i64 0, .nils, .bool false] 0 false) → Pt h b5 (.cells 0 3 (numAV Re.codes) 0 false) → Re.scan l (cs.flatMap (Re.tries (Re.nums f))) may = R → ts.length = 110 → getL ts 0 = some x → getL ts 2 = some (.ptr ⟨p2, 0, 0⟩) → getL ts 5 = some (.sl ⟨b5, 0, 0⟩ 6 q5) → getL ts 6 = some (.str f) → getL ts 7 = some (.bool may) → getL ts 8 = some (.int .i64 i) →
      ∀ (Q : Ex → St → Prop), (∀ ts' h', After h0 l R .ret (ts', h') → Q .ret (ts', h')) → (∀ ts' h' may', Ext h0 h' → Pt h' p2 (.cells 0 28 [.int .i64 0, .nils, .bool false] 0 false) → Re.scan l [] may' = R → ts'.length = 110 → getL ts' 2 = some (.ptr ⟨p2, 0, 0⟩) → getL ts' 7 = some (.bool may') → Q (.exit 0) (ts', h')) → Wp TF (.loop l9_3) (ts, h) Q := by
  intro cs
  induction cs with
  | nil =>
    intro i hu hle h may ts hE P2 P5 hS t0 g0 g2 g5 g6 g7 g8 Q hret hQ
    have hlen : 6 ≤ i := by
      have := congrArg List.length hu
      simp only [List.length_drop, List.length_nil] at this
      have e6 : Re.codes.length = 6 := rfl
      omega
    refine Wp.loop ?_
    rw [laid_eq t0 [(0, x), (2, .ptr ⟨p2, 0, 0⟩), (5, .sl ⟨b5, 0, 0⟩ 6 q5), (6, .str f), (7, .bool may), (8, .int .i64 i)] (by simp [g0, g2, g5, g6, g7, g8])]
    have m1 := hx.bq
    have k2 := hx.parts
    have m3 := P2.1
    have m4 := P5.1
    have m5 := hE.1
    refine Wp.seq ?_
    refine Wp.seq ?_
    refine Wp.region ?_
    refine Wo.pre 3 (by kernel_rfl) ?_
    refine Wo.cmp (op := .lss) (x := IX.t 22) (y := IX.t 24) (k := IntKind.i64) (a := ↑i) (b := 6) ((↑i : Int) < (6 : Int)) (by kernel_rfl) (by kernel_rfl) (by kernel_rfl) (by kernel_rfl) (by simp) (by kernel_rfl) (fun q6 => ?_) (fun q6 => ?_)
    · (exfalso; omega)
    refine Wo.nil ?_
    refine Wp.cond false (by kernel_rfl) ?_
    refine Wp.exit ?_
    exact hQ _ _ may hE P2 hS (by kernel_rfl) (by kernel_rfl) (by kernel_rfl)
  | cons st cs ih =>
    intro i hu hle h may ts hE P2 P5 hS t0 g0 g2 g5 g6 g7 g8 Q hret hQ
    have hlt : i < 6 := by
      have := congrArg List.length hu
      simp only [List.length_drop, List.length_cons] at this
      have e6 : Re.codes.length = 6 := rfl
      omega
    have hci : Re.codes[i]? = some st := by
      have e := congrArg (fun z => z[0]?) hu
      simp only [List.getElem?_drop, Nat.add_zero, List.getElem?_cons_zero] at e
      exact e
    have hu2 : Re.codes.drop (i + 1) = cs := by
      rw [← List.drop_drop, hu]
      rfl
    have hst := Re.code_big (List.mem_of_getElem? hci)
    rw [List.flatMap_cons] at hS
    have hfl : f.length ≤ 1000000 := by rw [hf, List.length_take]; omega
    obtain ⟨r9, h1, c24, x1, ⟨b9, q9, rfl, P9, hb9⟩, hall⟩ := nums_run (h := h) hfl
    have P2' := P2.fr x1.fr id
    have P5' := P5.fr x1.fr id
    have hp2n := P2.1
    have hE1 : Ext h0 h1 := hE.trans x1
    refine Wp.loop ?_
    rw [laid_eq t0 [(0, x), (2, .ptr ⟨p2, 0, 0⟩), (5, .sl ⟨b5, 0, 0⟩ 6 q5), (6, .str f), (7, .bool may), (8, .int .i64 i)] (by simp [g0, g2, g5, g6, g7, g8])]
    have m1 := hx.bq
    have k2 := hx.parts
    have m3 := P2.1
    have m4 := P5.1
    have m5 := P9.1
    have m6 := P2'.1
    have m7 := P5'.1
    have m8 := hE.1
    have m9 := x1.1
    have m10 := hE1.1
    refine Wp.seq ?_
    refine Wp.seq ?_
    refine Wp.region ?_
    refine Wo.pre 3 (by kernel_rfl) ?_
    refine Wo.cmp (op := .lss) (x := IX.t 22) (y := IX.t 24) (k := IntKind.i64) (a := ↑i) (b := 6) ((↑i : Int) < (6 : Int)) (by kernel_rfl) (by kernel_rfl) (by kernel_rfl) (by kernel_rfl) (by simp) (by kernel_rfl) (fun q11 => ?_) (fun q11 => ?_)
    rotate_left
    · (exfalso; omega)
    refine Wo.nil ?_
    refine Wp.cond true (by kernel_rfl) ?_
    refine Wp.skip ?_
    refine Wp.seq ?_
    refine Wp.block ?_
    refine Wp.seq ?_
    refine Wp.region ?_
    refine Wo.pre 1 (by kernel_rfl) ?_
    refine Wo.call (by kernel_rfl) (by kernel_rfl) c24 ?_
    clear c24
    refine Wo.pre 1 (by kernel_rfl) ?_
    refine Wo.nil ?_
    refine Wp.seq ?_
    refine Wp.region ?_
    refine Wo.pre 1 (by kernel_rfl) ?_
    refine Wo.nil ?_
    refine Wp.block ?_
    refine mid_loop (b9 := b9) (q9 := q9) (st := st) (i := i) (p2 := p2) (b5 := b5) (q5 := q5) (f := f) (x := x) hf hx cx hl hp2 h5 (by omega) hlt (by omega) hci hall (by omega) (Re.nums f) 0 rfl (Nat.zero_le _) h1 may _ hE1 P2' P5' P9 hS (by kernel_rfl) (by kernel_rfl) (by kernel_rfl) (by kernel_rfl) (by kernel_rfl) (by kernel_rfl) (by kernel_rfl) (by kernel_rfl) (by kernel_rfl) _ hret ?_
    intro ts2 h2 may2 E2 Q2 Q5 hS2 y y0 y2 y5 y6 y7 y8
    show Wp TF _ _ _
    rw [laid_eq y [(0, x), (2, .ptr ⟨p2, 0, 0⟩), (5, .sl ⟨b5, 0, 0⟩ 6 q5), (6, .str f), (7, .bool may2), (8, .int .i64 i)] (by simp [y0, y2, y5, y6, y7, y8])]
    have m1 := hx.bq
    have k2 := hx.parts
    have m3 := P2.1
    have m4 := P5.1
    have m5 := P9.1
    have m6 := P2'.1
    have m7 := P5'.1
    have m8 := Q2.1
    have m9 := Q5.1
    have m10 := hE.1
    have m11 := x1.1
    have m12 := hE1.1
    have m13 := E2.1
    refine Wp.region ?_
    refine Wo.pre 1 (by kernel_rfl) ?_
    refine Wo.val (.int IntKind.i64 ((↑i : Int) + (1 : Int))) h2 (by kernel_rfl) (iop_arith (op := .add) (a := ↑i) (b := 1) (by kernel_rfl) (by kernel_rfl) (by simp) (bin_add IntKind.i64 (by simp only [min_i64]; omega) (by simp only [max_i64]; omega))) ?_
    refine Wo.pre 1 (by kernel_rfl) ?_
    refine Wo.nil ?_
    exact ih (i + 1) hu2 (by omega) h2 may2 _ E2 Q2 Q5 hS2 (by kernel_rfl) (by kernel_rfl) (by kernel_rfl) (by kernel_rfl) (by kernel_rfl) (by kernel_rfl) (by kernel_rfl) Q hret hQ

theorem nums_two : ∀ (u : List UInt8), (Re.nums u).length ≤ 2
  | [] => by simp [Re.nums]
  | c :: u => by
    rw [Re.nums]
    split
    · simp
    · exact nums_two u

set_option maxHeartbeats 8000000 in
theorem takeR_run {h : H} {x : AV} {l : List UInt8} (hx : Bs h x l) (cx : Cok x) (hl : l.length ≤ 140737488351232) : ∃ r h', Runs TF 9 [x] h r h' ∧ Ext h h' ∧ TakeIs h h' l r (Re.takeR l) := by
  refine Runs.ofP f9 rfl ?_
  have hcodes : numAV Re.codes = [.int .i64 200, .int .i64 400, .int .i64 404, .int .i64 405, .int .i64 500, .int .i64 503] := rfl
  have two := nums_two (l.take 200)
  have go : ∀ {h1 : H} {b5 p2 : Nat} {q5 : Cp} {ts : List AV} {Q : Ex → St → Prop}, Ext h h1 → h.n ≤ p2 → b5 ≠ p2 → Pt h1 p2 (.cells 0 28 [.int .i64 0, .nils, .bool false] 0 false) → Pt h1 b5 (.cells 0 3 (numAV Re.codes) 0 false) → ts.length = 110 → getL ts 0 = some x → getL ts 2 = some (.ptr ⟨p2, 0, 0⟩) → getL ts 5 = some (.sl ⟨b5, 0, 0⟩ 6 q5) → getL ts 6 = some (.str (l.take 200)) → getL ts 7 = some (.bool false) → getL ts 8 = some (.int .i64 0) → (∀ ts' h', After h l (Re.takeR l) .ret (ts', h') → Q .ret (ts', h')) → (∀ ts' h' may', Ext h h' → Pt h' p2 (.cells 0 28 [.int .i64 0, .nils, .bool false] 0 false) → Re.scan l [] may' = Re.takeR l → ts'.length = 110 → getL ts' 2 = some (.ptr ⟨p2, 0, 0⟩) → getL ts' 7 = some (.bool may') → Q (.exit 0) (ts', h')) → Wp TF (.loop l9_3) (ts, h1) Q := by
    intro h1 b5 p2 q5 ts Q e1 e2 e3 e4 e5 e6 e7 e8 e9 e10 e11 e12 e13 e14
    exact out9_loop (f := l.take 200) rfl hx cx hl e2 e3 two Re.codes 0 rfl (by omega) h1 false ts e1 e4 e5 rfl e6 e7 e8 e9 e10 e11 e12 Q e13 e14
  by_cases hlong : 200 < l.length
  · have m1 := hx.bq
    have k2 := hx.parts
    refine Wp.seq ?_
    refine Wp.region ?_
    obtain ⟨H3, e3, P3, X3, n3⟩ := pt_new h 28 [AV.int IntKind.i64 0, AV.nils, AV.bool false] (ones_cons rfl (ones_cons rfl (ones_cons rfl ones_nil)))
    refine Wo.val (.ptr ⟨H.n h, 0, 0⟩) H3 (by kernel_rfl) (e3 (v := AV.agg [AV.int IntKind.i64 0, AV.nils, AV.bool false]) (by kernel_rfl) rfl) ?_
    clear e3
    have m4 := X3.1
    refine Wo.pre 2 (by kernel_rfl) ?_
    refine Wo.nil ?_
    refine Wp.seq ?_
    refine Wp.region ?_
    obtain ⟨H5, e5, P5, X5, n5⟩ := bsl_new H3 3 [AV.int IntKind.i64 200, AV.int IntKind.i64 400, AV.int IntKind.i64 404, AV.int IntKind.i64 405, AV.int IntKind.i64 500, AV.int IntKind.i64 503] (ones_cons rfl (ones_cons rfl (ones_cons rfl (ones_cons rfl (ones_cons rfl (ones_cons rfl ones_nil))))))
    refine Wo.val (.sl ⟨H.n H3, 0, 0⟩ 6 (.ex 6)) H5 (by kernel_rfl) (e5 (fill_cons (v := AV.int IntKind.i64 200) (vs := [AV.int IntKind.i64 200]) (by kernel_rfl) rfl (by kernel_rfl) (fill_cons (v := AV.int IntKind.i64 400) (vs := [AV.int IntKind.i64 400]) (by kernel_rfl) rfl (by kernel_rfl) (fill_cons (v := AV.int IntKind.i64 404) (vs := [AV.int IntKind.i64 404]) (by kernel_rfl) rfl (by kernel_rfl) (fill_cons (v := AV.int IntKind.i64 405) (vs := [AV.int IntKind.i64 405]) (by kernel_rfl) rfl (by kernel_rfl) (fill_cons (v := AV.int IntKind.i64 500) (vs := [AV.int IntKind.i64 500]) (by kernel_rfl) rfl (by kernel_rfl) (fill_cons (v := AV.int IntKind.i64 503) (vs := [AV.int IntKind.i64 503]) (by kernel_rfl) rfl (by kernel_rfl) rfl))))))) ?_
    clear e5
    have m6 := X5.1
    refine Wo.pre 1 (by kernel_rfl) ?_
    refine Wo.nil ?_
    refine Wp.seq ?_
    refine Wp.region ?_
    refine Wo.pre 1 (by kernel_rfl) ?_
    have F7 := (hx.fr (X3.trans0 X5) (.inr id))
    refine Wo.val (.str (l)) H5 (by kernel_rfl) (iop_cvBS (v := x) (by kernel_rfl) F7) ?_
    refine Wo.pre 1 (by kernel_rfl) ?_
    refine Wo.nil ?_
    refine Wp.seq ?_
    refine Wp.seq ?_
    refine Wp.region ?_
    refine Wo.pre 2 (by kernel_rfl) ?_
    refine Wo.cmp (op := .gtr) (x := IX.t 18) (y := IX.c (AV.int IntKind.i64 200)) (k := IntKind.i64) (a := ↑l.length) (b := 200) ((↑l.length : Int) > (200 : Int)) (by kernel_rfl) (by kernel_rfl) (by kernel_rfl) (by kernel_rfl) (by simp) (by kernel_rfl) (fun q8 => ?_) (fun q8 => ?_)
    rotate_left
    · (exfalso; omega)
    have m9 := P3.1
    have m10 := P5.1
    have m11 := F7.bq
    have k12 := F7.parts
    refine Wo.nil ?_
    refine Wp.cond true (by kernel_rfl) ?_
    refine Wp.region ?_
    refine Wo.pre 1 (by kernel_rfl) ?_
    refine Wo.val (.str (l.take 200)) _ (by kernel_rfl) (iop_slS_hi (s := l) (j := 200) (by kernel_rfl) (by kernel_rfl) (by omega)) ?_
    refine Wo.pre 1 (by kernel_rfl) ?_
    refine Wo.nil ?_
    refine Wp.seq ?_
    refine Wp.region ?_
    refine Wo.pre 1 (by kernel_rfl) ?_
    refine Wo.nil ?_
    refine Wp.seq ?_
    refine Wp.seq ?_
    refine Wp.region ?_
    refine Wo.pre 1 (by kernel_rfl) ?_
    refine Wo.nil ?_
    refine Wp.block ?_
    refine go (h1 := H5) (b5 := H3.n) (p2 := h.n) (q5 := .ex 6) ⟨(X3.trans0 X5).1, fun b hb => (X3.trans0 X5).2 b hb id⟩ (Nat.le_refl _) (by omega) (P3.fr X5 id) P5 (by kernel_rfl) (by kernel_rfl) (by kernel_rfl) (by kernel_rfl) (by kernel_rfl) (by kernel_rfl) (by kernel_rfl) (fun ts' h' q => q) ?_
    intro ts' h' may' E2 Q2 hS u0 u2 u7
    clear go P3 P5 X3 X5 F7
    show Wp TF _ _ _
    cases may' with
    | true =>
      have hS2 : Re.takeR l = .more := hS.symm
      rw [hS2, laid_eq u0 [(2, .ptr ⟨h.n, 0, 0⟩), (7, .bool true)] (by simp [u2, u7])]
      have m1 := hx.bq
      have k2 := hx.parts
      have m3 := Q2.1
      have m4 := E2.1
      refine Wp.seq ?_
      refine Wp.seq ?_
      refine Wp.region ?_
      refine Wo.pre 1 (by kernel_rfl) ?_
      refine Wo.nil ?_
      refine Wp.cond true (by kernel_rfl) ?_
      refine Wp.seq ?_
      refine Wp.region ?_
      refine Wo.val (.agg [AV.int IntKind.i64 0, AV.nils, AV.bool false]) h' (by kernel_rfl) (iop_buildP rfl) ?_
      obtain ⟨H5, e5, P5, X5, n5⟩ := Q2.st 0 [AV.int IntKind.i64 0, AV.nils, AV.bool false] (by simp) (ones_cons rfl (ones_cons rfl (ones_cons rfl ones_nil)))
      refine Wo.val .undef H5 (by kernel_rfl) (iop_stP (a := { b := h.n, g := 0, o := 0 }) (v := AV.agg [AV.int IntKind.i64 0, AV.nils, AV.bool false]) (vs := [AV.int IntKind.i64 0, AV.nils, AV.bool false]) (by kernel_rfl) (by kernel_rfl) rfl rfl e5) ?_
      have m6 := X5.1
      replace P5 : Pt H5 h.n (Blk.cells 0 28 [AV.int IntKind.i64 0, AV.nils, AV.bool false] 0 false) := P5
      refine Wo.pre 2 (by kernel_rfl) ?_
      refine Wo.nil ?_
      refine Wp.ret ?_
      refine ⟨.inr rfl, (.tup [AV.agg [AV.int IntKind.i64 0, AV.nils, AV.bool false], AV.int IntKind.i64 0, AV.int IntKind.i64 44]), (ret_many (res_cell (a := { b := h.n, g := 0, o := 0 }) (by kernel_rfl) (P5.ld rfl (by kernel_rfl)) (res_tmp (by kernel_rfl) (res_tmp (by kernel_rfl) res_nil))) rfl), ?_⟩
      dsimp only
      exact ⟨((E2.fr.transL X5).ext (by intro s hs; first | omega | (dsimp only at hs; omega) | (simp only [blk_nils, blk_sl] at hs ⊢; omega))), rfl⟩
    | false =>
      have hS2 : Re.takeR l = .form := hS.symm
      rw [hS2, laid_eq u0 [(2, .ptr ⟨h.n, 0, 0⟩), (7, .bool false)] (by simp [u2, u7])]
      have m1 := hx.bq
      have k2 := hx.parts
      have m3 := Q2.1
      have m4 := E2.1
      refine Wp.seq ?_
      refine Wp.seq ?_
      refine Wp.region ?_
      refine Wo.pre 1 (by kernel_rfl) ?_
      refine Wo.nil ?_
      refine Wp.cond false (by kernel_rfl) ?_
      refine Wp.skip ?_
      refine Wp.seq ?_
      refine Wp.region ?_
      refine Wo.val (.agg [AV.int IntKind.i64 0, AV.nils, AV.bool false]) h' (by kernel_rfl) (iop_buildP rfl) ?_
      obtain ⟨H5, e5, P5, X5, n5⟩ := Q2.st 0 [AV.int IntKind.i64 0, AV.nils, AV.bool false] (by simp) (ones_cons rfl (ones_cons rfl (ones_cons rfl ones_nil)))
      refine Wo.val .undef H5 (by kernel_rfl) (iop_stP (a := { b := h.n, g := 0, o := 0 }) (v := AV.agg [AV.int IntKind.i64 0, AV.nils, AV.bool false]) (vs := [AV.int IntKind.i64 0, AV.nils, AV.bool false]) (by kernel_rfl) (by kernel_rfl) rfl rfl e5) ?_
      have m6 := X5.1
      replace P5 : Pt H5 h.n (Blk.cells 0 28 [AV.int IntKind.i64 0, AV.nils, AV.bool false] 0 false) := P5
      refine Wo.pre 2 (by kernel_rfl) ?_
      refine Wo.nil ?_
      refine Wp.ret ?_
      refine ⟨.inr rfl, (.tup [AV.agg [AV.int IntKind.i64 0, AV.nils, AV.bool false], AV.int IntKind.i64 0, AV.int IntKind.i64 5]), (ret_many (res_cell (a := { b := h.n, g := 0, o := 0 }) (by kernel_rfl) (P5.ld rfl (by kernel_rfl)) (res_tmp (by kernel_rfl) (res_tmp (by kernel_rfl) res_nil))) rfl), ?_⟩
      dsimp only
      exact ⟨((E2.fr.transL X5).ext (by intro s hs; first | omega | (dsimp only at hs; omega) | (simp only [blk_nils, blk_sl] at hs ⊢; omega))), rfl⟩
  · have htk : l.take 200 = l := List.take_of_length_le (by omega)
    rw [htk] at go
    have m1 := hx.bq
    have k2 := hx.parts
    refine Wp.seq ?_
    refine Wp.region ?_
    obtain ⟨H3, e3, P3, X3, n3⟩ := pt_new h 28 [AV.int IntKind.i64 0, AV.nils, AV.bool false] (ones_cons rfl (ones_cons rfl (ones_cons rfl ones_nil)))
    refine Wo.val (.ptr ⟨H.n h, 0, 0⟩) H3 (by kernel_rfl) (e3 (v := AV.agg [AV.int IntKind.i64 0, AV.nils, AV.bool false]) (by kernel_rfl) rfl) ?_
    clear e3
    have m4 := X3.1
    refine Wo.pre 2 (by kernel_rfl) ?_
    refine Wo.nil ?_
    refine Wp.seq ?_
    refine Wp.region ?_
    obtain ⟨H5, e5, P5, X5, n5⟩ := bsl_new H3 3 [AV.int IntKind.i64 200, AV.int IntKind.i64 400, AV.int IntKind.i64 404, AV.int IntKind.i64 405, AV.int IntKind.i64 500, AV.int IntKind.i64 503] (ones_cons rfl (ones_cons rfl (ones_cons rfl (ones_cons rfl (ones_cons rfl (ones_cons rfl ones_nil))))))
    refine Wo.val (.sl ⟨H.n H3, 0, 0⟩ 6 (.ex 6)) H5 (by kernel_rfl) (e5 (fill_cons (v := AV.int IntKind.i64 200) (vs := [AV.int IntKind.i64 200]) (by kernel_rfl) rfl (by kernel_rfl) (fill_cons (v := AV.int IntKind.i64 400) (vs := [AV.int IntKind.i64 400]) (by kernel_rfl) rfl (by kernel_rfl) (fill_cons (v := AV.int IntKind.i64 404) (vs := [AV.int IntKind.i64 404]) (by kernel_rfl) rfl (by kernel_rfl) (fill_cons (v := AV.int IntKind.i64 405) (vs := [AV.int IntKind.i64 405]) (by kernel_rfl) rfl (by kernel_rfl) (fill_cons (v := AV.int IntKind.i64 500) (vs := [AV.int IntKind.i64 500]) (by kernel_rfl) rfl (by kernel_rfl) (fill_cons (v := AV.int IntKind.i64 503) (vs := [AV.int IntKind.i64 503]) (by kernel_rfl) rfl (by kernel_rfl) rfl))))))) ?_
    clear e5
    have m6 := X5.1
    refine Wo.pre 1 (by kernel_rfl) ?_
    refine Wo.nil ?_
    refine Wp.seq ?_
    refine Wp.region ?_
    refine Wo.pre 1 (by kernel_rfl) ?_
    have F7 := (hx.fr (X3.trans0 X5) (.inr id))
    refine Wo.val (.str (l)) H5 (by kernel_rfl) (iop_cvBS (v := x) (by kernel_rfl) F7) ?_
    refine Wo.pre 1 (by kernel_rfl) ?_
    refine Wo.nil ?_
    refine Wp.seq ?_
    refine Wp.seq ?_
    refine Wp.region ?_
    refine Wo.pre 2 (by kernel_rfl) ?_
    refine Wo.cmp (op := .gtr) (x := IX.t 18) (y := IX.c (AV.int IntKind.i64 200)) (k := IntKind.i64) (a := ↑l.length) (b := 200) ((↑l.length : Int) > (200 : Int)) (by kernel_rfl) (by kernel_rfl) (by kernel_rfl) (by kernel_rfl) (by simp) (by kernel_rfl) (fun q8 => ?_) (fun q8 => ?_)
    · (exfalso; omega)
    have m9 := P3.1
    have m10 := P5.1
    have m11 := F7.bq
    have k12 := F7.parts
    refine Wo.nil ?_
    refine Wp.cond false (by kernel_rfl) ?_
    refine Wp.skip ?_
    refine Wp.seq ?_
    refine Wp.region ?_
    refine Wo.pre 1 (by kernel_rfl) ?_
    refine Wo.nil ?_
    refine Wp.seq ?_
    refine Wp.seq ?_
    refine Wp.region ?_
    refine Wo.pre 1 (by kernel_rfl) ?_
    refine Wo.nil ?_
    refine Wp.block ?_
    refine go (h1 := H5) (b5 := H3.n) (p2 := h.n) (q5 := .ex 6) ⟨(X3.trans0 X5).1, fun b hb => (X3.trans0 X5).2 b hb id⟩ (Nat.le_refl _) (by omega) (P3.fr X5 id) P5 (by kernel_rfl) (by kernel_rfl) (by kernel_rfl) (by kernel_rfl) (by kernel_rfl) (by kernel_rfl) (by kernel_rfl) (fun ts' h' q => q) ?_
    intro ts' h' may' E2 Q2 hS u0 u2 u7
    clear go P3 P5 X3 X5 F7
    show Wp TF _ _ _
    cases may' with
    | true =>
      have hS2 : Re.takeR l = .more := hS.symm
      rw [hS2, laid_eq u0 [(2, .ptr ⟨h.n, 0, 0⟩), (7, .bool true)] (by simp [u2, u7])]
      have m1 := hx.bq
      have k2 := hx.parts
      have m3 := Q2.1
      have m4 := E2.1
      refine Wp.seq ?_
      refine Wp.seq ?_
      refine Wp.region ?_
      refine Wo.pre 1 (by kernel_rfl) ?_
      refine Wo.nil ?_
      refine Wp.cond true (by kernel_rfl) ?_
      refine Wp.seq ?_
      refine Wp.region ?_
      refine Wo.val (.agg [AV.int IntKind.i64 0, AV.nils, AV.bool false]) h' (by kernel_rfl) (iop_buildP rfl) ?_
      obtain ⟨H5, e5, P5, X5, n5⟩ := Q2.st 0 [AV.int IntKind.i64 0, AV.nils, AV.bool false] (by simp) (ones_cons rfl (ones_cons rfl (ones_cons rfl ones_nil)))
      refine Wo.val .undef H5 (by kernel_rfl) (iop_stP (a := { b := h.n, g := 0, o := 0 }) (v := AV.agg [AV.int IntKind.i64 0, AV.nils, AV.bool false]) (vs := [AV.int IntKind.i64 0, AV.nils, AV.bool false]) (by kernel_rfl) (by kernel_rfl) rfl rfl e5) ?_
      have m6 := X5.1
      replace P5 : Pt H5 h.n (Blk.cells 0 28 [AV.int IntKind.i64 0, AV.nils, AV.bool false] 0 false) := P5
      refine Wo.pre 2 (by kernel_rfl) ?_
      refine Wo.nil ?_
      refine Wp.ret ?_
      refine ⟨.inr rfl, (.tup [AV.agg [AV.int IntKind.i64 0, AV.nils, AV.bool false], AV.int IntKind.i64 0, AV.int IntKind.i64 44]), (ret_many (res_cell (a := { b := h.n, g := 0, o := 0 }) (by kernel_rfl) (P5.ld rfl (by kernel_rfl)) (res_tmp (by kernel_rfl) (res_tmp (by kernel_rfl) res_nil))) rfl), ?_⟩
      dsimp only
      exact ⟨((E2.fr.transL X5).ext (by intro s hs; first | omega | (dsimp only at hs; omega) | (simp only [blk_nils, blk_sl] at hs ⊢; omega))), rfl⟩
    | false =>
      have hS2 : Re.takeR l = .form := hS.symm
      rw [hS2, laid_eq u0 [(2, .ptr ⟨h.n, 0, 0⟩), (7, .bool false)] (by simp [u2, u7])]
      have m1 := hx.bq
      have k2 := hx.parts
      have m3 := Q2.1
      have m4 := E2.1
      refine Wp.seq ?_
      refine Wp.seq ?_
      refine Wp.region ?_
      refine Wo.pre 1 (by kernel_rfl) ?_
      refine Wo.nil ?_
      refine Wp.cond false (by kernel_rfl) ?_
      refine Wp.skip ?_
      refine Wp.seq ?_
      refine Wp.region ?_
      refine Wo.val (.agg [AV.int IntKind.i64 0, AV.nils, AV.bool false]) h' (by kernel_rfl) (iop_buildP rfl) ?_
      obtain ⟨H5, e5, P5, X5, n5⟩ := Q2.st 0 [AV.int IntKind.i64 0, AV.nils, AV.bool false] (by simp) (ones_cons rfl (ones_cons rfl (ones_cons rfl ones_nil)))
      refine Wo.val .undef H5 (by kernel_rfl) (iop_stP (a := { b := h.n, g := 0, o := 0 }) (v := AV.agg [AV.int IntKind.i64 0, AV.nils, AV.bool false]) (vs := [AV.int IntKind.i64 0, AV.nils, AV.bool false]) (by kernel_rfl) (by kernel_rfl) rfl rfl e5) ?_
      have m6 := X5.1
      replace P5 : Pt H5 h.n (Blk.cells 0 28 [AV.int IntKind.i64 0, AV.nils, AV.bool false] 0 false) := P5
      refine Wo.pre 2 (by kernel_rfl) ?_
      refine Wo.nil ?_
      refine Wp.ret ?_
      refine ⟨.inr rfl, (.tup [AV.agg [AV.int IntKind.i64 0, AV.nils, AV.bool false], AV.int IntKind.i64 0, AV.int IntKind.i64 5]), (ret_many (res_cell (a := { b := h.n, g := 0, o := 0 }) (by kernel_rfl) (P5.ld rfl (by kernel_rfl)) (res_tmp (by kernel_rfl) (res_tmp (by kernel_rfl) res_nil))) rfl), ?_⟩
      dsimp only
      exact ⟨((E2.fr.transL X5).ext (by intro s hs; first | omega | (dsimp only at hs; omega) | (simp only [blk_nils, blk_sl] at hs ⊢; omega))), rfl⟩
end Go.Det
