/- Base: the document's reading, whole; the laws BaseTakes and BaseBack. -/
import Derived.Test.YtdnfbmminagflaaDoorbaPq
set_option linter.unusedVariables false
set_option linter.unusedSimpArgs false
set_option linter.unusedSectionVars false
namespace Go.Det
open Go.Proofs
attribute [local irreducible] Wp Wo Wd iop ev slots quiets wanted put

theorem left_drop : ∀ (n : Nat) (b : List Nat), b.length ≤ n → b.drop (8 * (outF b).length) = leftF b ∧ 8 * (outF b).length ≤ b.length := by
  intro n
  induction n using Nat.strongRecOn with
  | _ n ih =>
    intro b hb
    by_cases h8 : 8 ≤ b.length
    · obtain ⟨d, r, rfl, hd⟩ := eight h8
      obtain ⟨e1, e2⟩ := outF_step d r hd
      rw [List.length_append] at hb
      obtain ⟨i1, i2⟩ := ih (n - 8) (by omega) r (by omega)
      rw [e1, e2, List.length_cons, List.length_append]
      refine ⟨?_, by omega⟩
      rw [← i1, show 8 * ((outF r).length + 1) = d.length + 8 * (outF r).length by omega, ← List.drop_drop, List.drop_left']
      rfl
    · obtain ⟨e1, e2⟩ := outF_short b (by omega)
      rw [e1, e2]
      exact ⟨rfl, Nat.zero_le _⟩

set_option maxHeartbeats 8000000 in
theorem ref_run {h : H} {s : List UInt8} (hs : s.length ≤ 2000000) : ∃ r h', Runs TF 14 [.str s] h r h' ∧ ((refF s = none ∧ r = .tup [.nils, .int .i64 5]) ∨ ∃ v l, refF s = some l ∧ r = .tup [v, .int .i64 0] ∧ Ext h h' ∧ Ow h.n h' v l) := by
  refine Runs.ofP f14 rfl ?_
  by_cases h4 : s.length % 4 = 0
  · obtain ⟨p, hp⟩ : ∃ p, p = padF s 2 0 := ⟨_, rfl⟩
    have hpl : p ≤ s.length := by
      have : ∀ (k q : Nat), q ≤ s.length → padF s k q ≤ s.length := by
        intro k
        induction k with
        | zero => intro q h; exact h
        | succ k ik =>
          intro q h
          simp only [padF]
          split
          · rename_i e
            exact ik (q + 1) e.1
          · exact h
      rw [hp]
      exact this 2 0 (by omega)
    refine Wp.seq ?_
    refine Wp.region ?_
    refine Wo.pre 2 (by kernel_rfl) ?_
    refine Wo.nil ?_
    refine Wp.seq ?_
    refine Wp.seq ?_
    refine Wp.region ?_
    refine Wo.pre 2 (by kernel_rfl) ?_
    refine Wo.val (.int .i64 ((s.length % 4 : Nat) : Int)) _ (by kernel_rfl) (iop_rem4 (a := s.length) (by kernel_rfl) (by kernel_rfl)) ?_
    refine Wo.cmpN (op := .neq) (x := IX.t 16) (y := IX.c (AV.int IntKind.i64 0)) (k := IntKind.i64) (a := ↑(s.length % 4)) (b := 0) ((↑(s.length % 4) : Int) = (0 : Int)) (by kernel_rfl) (by kernel_rfl) (by kernel_rfl) (by kernel_rfl) (by simp) (by kernel_rfl) (fun q1 => ?_) (fun q1 => ?_)
    rotate_left
    · (exfalso; omega)
    refine Wo.nil ?_
    refine Wp.cond false (by kernel_rfl) ?_
    refine Wp.skip ?_
    refine Wp.seq ?_
    refine Wp.region ?_
    refine Wo.pre 1 (by kernel_rfl) ?_
    refine Wo.nil ?_
    refine Wp.seq ?_
    refine Wp.block ?_
    refine pad_loop (s := s) (by omega) 2 0 rfl _ (by kernel_rfl) (by kernel_rfl) (by kernel_rfl) _ ?_
    intro ts1 u0 u1 u2
    rw [← hp] at u2
    show Wp TF _ _ _
    rw [laid_eq u0 [(0, .str s), (4, .int .i64 p)] (by simp [u1, u2])]
    refine Wp.seq ?_
    refine Wp.region ?_
    refine Wo.pre 1 (by kernel_rfl) ?_
    refine Wo.nil ?_
    refine Wp.seq ?_
    refine Wp.seq ?_
    refine Wp.region ?_
    refine Wo.pre 1 (by kernel_rfl) ?_
    refine Wo.nil ?_
    refine Wp.block ?_
    refine letters_loop (hb := h) (s := s) (p := p) (m := s.length - p) (by omega) hs (s.take (s.length - p)) 0 rfl h .nils [] _ (Ext.refl h) OwN.nil0 rfl (by omega) (by kernel_rfl) (by kernel_rfl) (by kernel_rfl) (by kernel_rfl) (by kernel_rfl) _ ?_ ?_
    · intro ts2 h2 v2 b q1 x2 o2 hl2 w0 w5
      rw [List.nil_append] at o2 hl2
      have hsome : (leftF b).all (fun x => x == 0) = true → refF s = some (outF b) := fun e => by
        unfold refF
        rw [if_neg (by omega), ← hp, q1]
        exact if_pos e
      have hnone : (leftF b).all (fun x => x == 0) = false → refF s = none := fun e => by
        unfold refF
        rw [if_neg (by omega), ← hp, q1]
        exact if_neg (by rw [e]; simp)
      have hb2 := bitsOf_two q1
      have hxn := x2.1
      show Wp TF _ _ _
      rcases o2 with ⟨rfl, rfl⟩ | ⟨bk, g, c1, c2, c3, rfl⟩
      · rw [laid_eq w0 [(5, .nils)] (by simp [w5])]
        have hs0 := hsome rfl
        have m1 := x2.1
        refine Wp.seq ?_
        refine Wp.region ?_
        refine Wo.pre 1 (by kernel_rfl) ?_
        refine Wo.nil ?_
        refine Wp.seq ?_
        refine Wp.seq ?_
        refine Wp.region ?_
        refine Wo.pre 1 (by kernel_rfl) ?_
        refine Wo.nil ?_
        refine Wp.block ?_
        refine Wp.loop ?_
        have m1 := x2.1
        refine Wp.seq ?_
        refine Wp.seq ?_
        refine Wp.region ?_
        refine Wo.pre 1 (by kernel_rfl) ?_
        refine Wo.pre 3 (by kernel_rfl) ?_
        refine Wo.pre 1 (by kernel_rfl) ?_
        refine Wo.nil ?_
        refine Wp.cond false (by kernel_rfl) ?_
        refine Wp.exit ?_
        refine Wp.seq ?_
        refine Wp.seq ?_
        refine Wp.region ?_
        refine Wo.pre 2 (by kernel_rfl) ?_
        refine Wo.pre 2 (by kernel_rfl) ?_
        refine Wo.nil ?_
        refine Wp.block ?_
        refine Wp.loop ?_
        have m1 := x2.1
        refine Wp.seq ?_
        refine Wp.seq ?_
        refine Wp.region ?_
        refine Wo.pre 3 (by kernel_rfl) ?_
        refine Wo.pre 1 (by kernel_rfl) ?_
        refine Wo.nil ?_
        refine Wp.cond false (by kernel_rfl) ?_
        refine Wp.exit ?_
        refine Wp.seq ?_
        refine Wp.region ?_
        refine Wo.pre 3 (by kernel_rfl) ?_
        refine Wo.nil ?_
        refine Wp.ret ?_
        refine ⟨.inr rfl, (.tup [AV.nils, AV.int IntKind.i64 0]), (ret_many (res_tmp (by kernel_rfl) (res_tmp (by kernel_rfl) res_nil)) rfl), ?_⟩
        dsimp only
        exact .inr ⟨_, _, hs0, rfl, x2, Ow.nil0⟩
      · rw [laid_eq w0 [(5, .sl ⟨bk, g, 0⟩ b.length (.op 1))] (by simp [w5])]
        have m1 := x2.1
        refine Wp.seq ?_
        refine Wp.region ?_
        refine Wo.pre 1 (by kernel_rfl) ?_
        refine Wo.nil ?_
        refine Wp.seq ?_
        refine Wp.seq ?_
        refine Wp.region ?_
        refine Wo.pre 1 (by kernel_rfl) ?_
        refine Wo.nil ?_
        refine Wp.block ?_
        refine out_loop (hb := h) (lo := h2.n) (by omega) hb2 c2 hxn b.length b (Nat.le_refl _) 0 rfl (Nat.zero_le _) h2 .nils [] _ x2 ⟨c2, c3⟩ Ow.nil0 (Nat.le_refl _) rfl (by kernel_rfl) (by kernel_rfl) (by kernel_rfl) (by kernel_rfl) _ ?_
        intro ts3 h3 w3 x3 p3 o3 y0 y5 y9
        rw [List.nil_append] at o3
        obtain ⟨hd, hol⟩ := left_drop _ b (Nat.le_refl _)
        show Wp TF _ _ _
        rw [laid_eq y0 [(5, .sl ⟨bk, g, 0⟩ b.length (.op 1)), (9, w3)] (by simp [y5, y9])]
        have o3b := o3.bs
        have m1 := p3.1
        have m2 := o3.bq
        have k3 := o3.parts
        have m4 := o3b.bq
        have k5 := o3b.parts
        have m6 := x2.1
        have m7 := x3.1
        refine Wp.seq ?_
        refine Wp.seq ?_
        refine Wp.region ?_
        refine Wo.pre 1 (by kernel_rfl) ?_
        refine Wo.val (.int .i64 (List.length (outF b) : Nat)) h3 (by kernel_rfl) (Bs.len o3b (by kernel_rfl)) ?_
        refine Wo.val (.int .i64 ((8 * (outF b).length : Nat) : Int)) _ (by kernel_rfl) (iop_mul8 (a := (outF b).length) (by kernel_rfl) (by kernel_rfl) (by omega)) ?_
        refine Wo.pre 1 (by kernel_rfl) ?_
        refine Wo.nil ?_
        refine Wp.block ?_
        refine zero_loop (w := w3) p3 (by omega) (leftF b) (8 * (outF b).length) hd hol _ (by kernel_rfl) (by kernel_rfl) (by kernel_rfl) (by kernel_rfl) _ ?_ ?_
        · intro ts4 e4 z0 z9
          show Wp TF _ _ _
          rw [laid_eq z0 [(9, w3)] (by simp [z9])]
          have hs0 := hsome e4
          have o4 := o3.mono (lo' := h.n) hxn
          have m1 := p3.1
          have m2 := o3.bq
          have k3 := o3.parts
          have m4 := o3b.bq
          have k5 := o3b.parts
          have m6 := o4.bq
          have k7 := o4.parts
          have m8 := x2.1
          have m9 := x3.1
          refine Wp.seq ?_
          refine Wp.region ?_
          refine Wo.pre 3 (by kernel_rfl) ?_
          refine Wo.nil ?_
          refine Wp.ret ?_
          refine ⟨.inr rfl, (.tup [w3, AV.int IntKind.i64 0]), (ret_many (res_tmp (by kernel_rfl) (res_tmp (by kernel_rfl) res_nil)) rfl), ?_⟩
          dsimp only
          exact .inr ⟨_, _, hs0, rfl, x3, o4⟩
        · intro ts4 e4 z2 z3
          exact ⟨.inr rfl, .tup [.nils, .int .i64 5], ret_many (res_tmp (by rw [z2]; rfl) (res_tmp (by rw [z3]; rfl) res_nil)) rfl, .inl ⟨hnone e4, rfl⟩⟩
    · intro ts' h' q1 t2 t3
      have hn : refF s = none := by
        unfold refF
        rw [if_neg (by omega), ← hp, q1]
      exact ⟨.inr rfl, .tup [.nils, .int .i64 5], ret_many (res_tmp (by rw [t2]; rfl) (res_tmp (by rw [t3]; rfl) res_nil)) rfl, .inl ⟨hn, rfl⟩⟩
  · have hn : refF s = none := by
      unfold refF
      rw [if_pos h4]
    refine Wp.seq ?_
    refine Wp.region ?_
    refine Wo.pre 2 (by kernel_rfl) ?_
    refine Wo.nil ?_
    refine Wp.seq ?_
    refine Wp.seq ?_
    refine Wp.region ?_
    refine Wo.pre 2 (by kernel_rfl) ?_
    refine Wo.val (.int .i64 ((s.length % 4 : Nat) : Int)) _ (by kernel_rfl) (iop_rem4 (a := s.length) (by kernel_rfl) (by kernel_rfl)) ?_
    refine Wo.cmpN (op := .neq) (x := IX.t 16) (y := IX.c (AV.int IntKind.i64 0)) (k := IntKind.i64) (a := ↑(s.length % 4)) (b := 0) ((↑(s.length % 4) : Int) = (0 : Int)) (by kernel_rfl) (by kernel_rfl) (by kernel_rfl) (by kernel_rfl) (by simp) (by kernel_rfl) (fun q1 => ?_) (fun q1 => ?_)
    · (exfalso; omega)
    refine Wo.nil ?_
    refine Wp.cond true (by kernel_rfl) ?_
    refine Wp.seq ?_
    refine Wp.region ?_
    refine Wo.pre 2 (by kernel_rfl) ?_
    refine Wo.nil ?_
    refine Wp.ret ?_
    refine ⟨.inr rfl, (.tup [AV.nils, AV.int IntKind.i64 5]), (ret_many (res_tmp (by kernel_rfl) (res_tmp (by kernel_rfl) res_nil)) rfl), ?_⟩
    dsimp only
    exact .inl ⟨hn, rfl⟩

set_option maxHeartbeats 8000000 in
/-- The law BaseTakes. -/
theorem takes_run {h : H} {s : List UInt8} (hs : s.length ≤ 2000000) : ∃ r h', Runs TF 3 [.str s] h r h' ∧ r = .bool true := by
  refine Runs.ofP f3 rfl ?_
  obtain ⟨r1, h1, c1, d1⟩ := take_run (h := h) (s := s) (by omega)
  obtain ⟨r2, h2, c2, d2⟩ := ref_run (h := h1) hs
  rw [take_ref] at d1
  rcases d1 with ⟨n1, rfl⟩ | ⟨v1, l1, n1, rfl, x1, o1⟩
  · rcases d2 with ⟨n2, rfl⟩ | ⟨v2, l2, n2, rfl, x2, o2⟩
    · have b2 : Bs h2 .nils [] := Bs.nil0
      have m1 := b2.bq
      have k2 := b2.parts
      refine Wp.seq ?_
      refine Wp.region ?_
      refine Wo.pre 1 (by kernel_rfl) ?_
      refine Wo.nil ?_
      refine Wp.seq ?_
      refine Wp.region ?_
      refine Wo.pre 1 (by kernel_rfl) ?_
      refine Wo.call (by kernel_rfl) (by kernel_rfl) c1 ?_
      clear c1
      refine Wo.pre 5 (by kernel_rfl) ?_
      refine Wo.nil ?_
      refine Wp.seq ?_
      refine Wp.region ?_
      refine Wo.pre 1 (by kernel_rfl) ?_
      refine Wo.call (by kernel_rfl) (by kernel_rfl) c2 ?_
      clear c2
      refine Wo.pre 5 (by kernel_rfl) ?_
      refine Wo.nil ?_
      refine Wp.seq ?_
      refine Wp.region ?_
      refine Wo.pre 4 (by kernel_rfl) ?_
      refine Wo.pre 4 (by kernel_rfl) ?_
      refine Wo.pre 3 (by kernel_rfl) ?_
      have c3 := wakes_run (h2)
      refine Wo.call (by kernel_rfl) (by kernel_rfl) c3 ?_
      clear c3
      refine Wo.pre 2 (by kernel_rfl) ?_
      refine Wo.nil ?_
      refine Wp.ret ?_
      refine ⟨.inr rfl, (AV.bool true), (ret_one (res_tmp (by kernel_rfl) res_nil)), ?_⟩
      dsimp only
    · rw [n1] at n2; cases n2
  · rcases d2 with ⟨n2, rfl⟩ | ⟨v2, l2, n2, rfl, x2, o2⟩
    · rw [n1] at n2; cases n2
    · obtain rfl : l1 = l2 := Option.some.inj (n1.symm.trans n2)
      have b1 := o1.bs
      have b2 := o2.bs
      have m1 := o1.bq
      have k2 := o1.parts
      have m3 := o2.bq
      have k4 := o2.parts
      have m5 := b1.bq
      have k6 := b1.parts
      have m7 := b2.bq
      have k8 := b2.parts
      have m9 := x1.1
      have m10 := x2.1
      refine Wp.seq ?_
      refine Wp.region ?_
      refine Wo.pre 1 (by kernel_rfl) ?_
      refine Wo.nil ?_
      refine Wp.seq ?_
      refine Wp.region ?_
      refine Wo.pre 1 (by kernel_rfl) ?_
      refine Wo.call (by kernel_rfl) (by kernel_rfl) c1 ?_
      clear c1
      refine Wo.pre 5 (by kernel_rfl) ?_
      refine Wo.nil ?_
      refine Wp.seq ?_
      refine Wp.region ?_
      refine Wo.pre 1 (by kernel_rfl) ?_
      refine Wo.call (by kernel_rfl) (by kernel_rfl) c2 ?_
      clear c2
      refine Wo.pre 5 (by kernel_rfl) ?_
      refine Wo.nil ?_
      refine Wp.seq ?_
      refine Wp.region ?_
      refine Wo.pre 1 (by kernel_rfl) ?_
      have F11 := (b1.fr x2.fr (.inr id))
      refine Wo.val (.str (l1)) h2 (by kernel_rfl) (iop_cvBS (v := v1) (by kernel_rfl) F11) ?_
      refine Wo.pre 1 (by kernel_rfl) ?_
      refine Wo.val (.str (l1)) h2 (by kernel_rfl) (iop_cvBS (v := v2) (by kernel_rfl) b2) ?_
      refine Wo.cmpS (x := IX.t 18) (y := IX.t 20) (a := l1) (b := l1) (by kernel_rfl) (by kernel_rfl) (by kernel_rfl) (by kernel_rfl) (fun q12 => ?_) (fun q12 => ?_)
      rotate_left
      · exact absurd rfl ‹¬ l1 = l1›
      have m13 := F11.bq
      have k14 := F11.parts
      refine Wo.pre 3 (by kernel_rfl) ?_
      refine Wo.pre 3 (by kernel_rfl) ?_
      have c15 := wakes_run (h2)
      refine Wo.call (by kernel_rfl) (by kernel_rfl) c15 ?_
      clear c15
      refine Wo.pre 2 (by kernel_rfl) ?_
      refine Wo.nil ?_
      refine Wp.ret ?_
      refine ⟨.inr rfl, (AV.bool true), (ret_one (res_tmp (by kernel_rfl) res_nil)), ?_⟩
      dsimp only

theorem size_run (h : H) (n : Nat) (hn : n ≤ 140737488351232) : Runs TF 17 [.int .i64 n] h (.int .i64 (((n + 2) / 3 * 4 : Nat) : Int)) h := by
  obtain ⟨r, h', h1, h2, h3⟩ : ∃ r h', Runs TF 17 [.int .i64 n] h r h' ∧ r = .int .i64 (((n + 2) / 3 * 4 : Nat) : Int) ∧ h' = h := by
    refine Runs.ofP f17 rfl ?_
    by_cases h0 : n = 0
    · subst h0
      refine Wp.seq ?_
      refine Wp.region ?_
      refine Wo.pre 1 (by kernel_rfl) ?_
      refine Wo.nil ?_
      refine Wp.seq ?_
      refine Wp.seq ?_
      refine Wp.region ?_
      refine Wo.pre 1 (by kernel_rfl) ?_
      refine Wo.pre 1 (by kernel_rfl) ?_
      refine Wo.nil ?_
      refine Wp.cond true (by kernel_rfl) ?_
      refine Wp.seq ?_
      refine Wp.region ?_
      refine Wo.pre 1 (by kernel_rfl) ?_
      refine Wo.nil ?_
      refine Wp.ret ?_
      refine ⟨.inr rfl, (AV.int IntKind.i64 0), (ret_one (res_tmp (by kernel_rfl) res_nil)), ?_⟩
      dsimp only
      exact ⟨rfl, rfl⟩
    · obtain ⟨m, rfl⟩ : ∃ m, n = m + 1 := ⟨n - 1, by omega⟩
      obtain ⟨q, hq⟩ : ∃ q, m / 3 = q := ⟨_, rfl⟩
      have e : (m + 1 + 2) / 3 * 4 = 4 * (q + 1) := by omega
      have e2 : ((m + 1 : Nat) : Int) - 1 = ((m : Nat) : Int) := by omega
      refine Wp.seq ?_
      refine Wp.region ?_
      refine Wo.pre 1 (by kernel_rfl) ?_
      refine Wo.nil ?_
      refine Wp.seq ?_
      refine Wp.seq ?_
      refine Wp.region ?_
      refine Wo.pre 1 (by kernel_rfl) ?_
      refine Wo.cmp (op := .lss) (x := IX.t 3) (y := IX.c (AV.int IntKind.i64 1)) (k := IntKind.i64) (a := ↑(m + 1)) (b := 1) ((↑(m + 1) : Int) < (1 : Int)) (by kernel_rfl) (by kernel_rfl) (by kernel_rfl) (by kernel_rfl) (by simp) (by kernel_rfl) (fun q1 => ?_) (fun q1 => ?_)
      · (exfalso; omega)
      refine Wo.nil ?_
      refine Wp.cond false (by kernel_rfl) ?_
      refine Wp.skip ?_
      refine Wp.seq ?_
      refine Wp.region ?_
      refine Wo.pre 1 (by kernel_rfl) ?_
      refine Wo.val (.int .i64 ((m : Nat) : Int)) _ (by kernel_rfl) (iop_subN (a := m + 1) (b := 1) (c := m) (by kernel_rfl) (by kernel_rfl) rfl (by omega)) ?_
      refine Wo.val (.int .i64 ((q : Nat) : Int)) _ (by kernel_rfl) (iop_quoD (a := m) (by kernel_rfl) (by kernel_rfl) (by omega) hq) ?_
      refine Wo.val (.int .i64 ((q + 1 : Nat) : Int)) _ (by kernel_rfl) (iop_addN (a := q) (b := 1) (by kernel_rfl) (by kernel_rfl) (by omega)) ?_
      refine Wo.val (.int .i64 ((4 * (q + 1) : Nat) : Int)) _ (by kernel_rfl) (iop_mulN (a := 4) (b := q + 1) (by kernel_rfl) (by kernel_rfl) (by omega)) ?_
      refine Wo.pre 1 (by kernel_rfl) ?_
      refine Wo.nil ?_
      refine Wp.ret ?_
      refine ⟨.inr rfl, (AV.int IntKind.i64 ↑(4 * (q + 1))), (ret_one (res_tmp (by kernel_rfl) res_nil)), ?_⟩
      dsimp only
      exact ⟨by rw [e], rfl⟩
  subst h2; subst h3
  exact h1

set_option maxHeartbeats 8000000 in
/-- The law BaseBack. -/
theorem back_run {h : H} {x : AV} {b s : List UInt8} (hx : Bs h x b) (cx : Cok x) (hb : b.length ≤ 140737488351232) (hs : s.length ≤ 149500000000000) : ∃ r h', Runs TF 4 [x, .str s] h r h' ∧ r = .bool true := by
  refine Runs.ofP f4 rfl ?_
  have hbl := Ba.b64_length b
  obtain ⟨r1, h1, c1, d1⟩ := take_run (h := h) (s := Ba.b64 b) (by omega)
  rw [takeF_told] at d1
  rcases d1 with ⟨n1, rfl⟩ | ⟨v1, l1, n1, rfl, x1, o1⟩
  · cases n1
  · obtain rfl : b = l1 := Option.some.inj n1
    have b1 := o1.bs
    have hsz := size_run h1 b.length hb
    obtain ⟨r2, h2, c2, d2⟩ := take_run (h := h1) (s := s) (by omega)
    rcases d2 with ⟨n2, rfl⟩ | ⟨v2, l2, n2, rfl, x2, o2⟩
    · have m1 := hx.bq
      have k2 := hx.parts
      have m3 := o1.bq
      have k4 := o1.parts
      have m5 := b1.bq
      have k6 := b1.parts
      have m7 := x1.1
      refine Wp.seq ?_
      refine Wp.region ?_
      refine Wo.pre 1 (by kernel_rfl) ?_
      refine Wo.nil ?_
      refine Wp.seq ?_
      refine Wp.region ?_
      refine Wo.pre 1 (by kernel_rfl) ?_
      have c8 := put_run hx (by first | omega | (simp; omega) | (simp; done) | assumption)
      refine Wo.call (by kernel_rfl) (by kernel_rfl) c8 ?_
      clear c8
      refine Wo.call (by kernel_rfl) (by kernel_rfl) c1 ?_
      clear c1
      refine Wo.pre 5 (by kernel_rfl) ?_
      refine Wo.nil ?_
      refine Wp.seq ?_
      refine Wp.seq ?_
      refine Wp.region ?_
      refine Wo.pre 1 (by kernel_rfl) ?_
      refine Wo.pre 3 (by kernel_rfl) ?_
      refine Wo.val (.str (b)) h1 (by kernel_rfl) (iop_cvBS (v := v1) (by kernel_rfl) b1) ?_
      refine Wo.pre 1 (by kernel_rfl) ?_
      have F9 := (hx.fr x1.fr (.inr id))
      refine Wo.val (.str (b)) h1 (by kernel_rfl) (iop_cvBS (v := x) (by kernel_rfl) F9) ?_
      refine Wo.cmpSN (x := IX.t 19) (y := IX.t 21) (a := b) (b := b) (by kernel_rfl) (by kernel_rfl) (by kernel_rfl) (by kernel_rfl) (fun q10 => ?_) (fun q10 => ?_)
      rotate_left
      · exact absurd rfl ‹¬ b = b›
      have m11 := F9.bq
      have k12 := F9.parts
      refine Wo.pre 3 (by kernel_rfl) ?_
      have c13 := put_run F9 (by first | omega | (simp; omega) | (simp; done) | assumption)
      refine Wo.call (by kernel_rfl) (by kernel_rfl) c13 ?_
      clear c13
      refine Wo.pre 2 (by kernel_rfl) ?_
      refine Wo.val (.int .i64 (List.length (b) : Nat)) h1 (by kernel_rfl) (Bs.len F9 (by kernel_rfl)) ?_
      refine Wo.call (by kernel_rfl) (by kernel_rfl) hsz ?_
      clear hsz
      refine Wo.cmpN (op := .neq) (x := IX.t 27) (y := IX.t 30) (k := IntKind.i64) (a := ↑(Ba.b64 b).length) (b := ↑((b.length + 2) / 3 * 4)) ((↑(Ba.b64 b).length : Int) = (↑((b.length + 2) / 3 * 4) : Int)) (by kernel_rfl) (by kernel_rfl) (by kernel_rfl) (by kernel_rfl) (by simp) (by kernel_rfl) (fun q14 => ?_) (fun q14 => ?_)
      rotate_left
      · (exfalso; omega)
      refine Wo.pre 1 (by kernel_rfl) ?_
      refine Wo.nil ?_
      refine Wp.cond false (by kernel_rfl) ?_
      refine Wp.skip ?_
      refine Wp.seq ?_
      refine Wp.region ?_
      refine Wo.pre 1 (by kernel_rfl) ?_
      refine Wo.call (by kernel_rfl) (by kernel_rfl) c2 ?_
      clear c2
      refine Wo.pre 5 (by kernel_rfl) ?_
      refine Wo.nil ?_
      refine Wp.seq ?_
      refine Wp.seq ?_
      refine Wp.region ?_
      refine Wo.pre 1 (by kernel_rfl) ?_
      refine Wo.pre 1 (by kernel_rfl) ?_
      refine Wo.nil ?_
      refine Wp.cond true (by kernel_rfl) ?_
      refine Wp.seq ?_
      refine Wp.region ?_
      refine Wo.pre 1 (by kernel_rfl) ?_
      refine Wo.pre 4 (by kernel_rfl) ?_
      refine Wo.pre 3 (by kernel_rfl) ?_
      have c15 := wakes_run (h2)
      refine Wo.call (by kernel_rfl) (by kernel_rfl) c15 ?_
      clear c15
      refine Wo.pre 2 (by kernel_rfl) ?_
      refine Wo.nil ?_
      refine Wp.ret ?_
      refine ⟨.inr rfl, (AV.bool true), (ret_one (res_tmp (by kernel_rfl) res_nil)), ?_⟩
      dsimp only
    · have e2 := takeF_some n2
      have b2 := o2.bs
      have hl2 : l2.length ≤ 149500000000000 := by have := Ba.b64_length l2; rw [e2] at this; omega
      have m1 := hx.bq
      have k2 := hx.parts
      have m3 := o1.bq
      have k4 := o1.parts
      have m5 := b1.bq
      have k6 := b1.parts
      have m7 := o2.bq
      have k8 := o2.parts
      have m9 := b2.bq
      have k10 := b2.parts
      have m11 := x1.1
      have m12 := x2.1
      refine Wp.seq ?_
      refine Wp.region ?_
      refine Wo.pre 1 (by kernel_rfl) ?_
      refine Wo.nil ?_
      refine Wp.seq ?_
      refine Wp.region ?_
      refine Wo.pre 1 (by kernel_rfl) ?_
      have c13 := put_run hx (by first | omega | (simp; omega) | (simp; done) | assumption)
      refine Wo.call (by kernel_rfl) (by kernel_rfl) c13 ?_
      clear c13
      refine Wo.call (by kernel_rfl) (by kernel_rfl) c1 ?_
      clear c1
      refine Wo.pre 5 (by kernel_rfl) ?_
      refine Wo.nil ?_
      refine Wp.seq ?_
      refine Wp.seq ?_
      refine Wp.region ?_
      refine Wo.pre 1 (by kernel_rfl) ?_
      refine Wo.pre 3 (by kernel_rfl) ?_
      refine Wo.val (.str (b)) h1 (by kernel_rfl) (iop_cvBS (v := v1) (by kernel_rfl) b1) ?_
      refine Wo.pre 1 (by kernel_rfl) ?_
      have F14 := (hx.fr x1.fr (.inr id))
      refine Wo.val (.str (b)) h1 (by kernel_rfl) (iop_cvBS (v := x) (by kernel_rfl) F14) ?_
      refine Wo.cmpSN (x := IX.t 19) (y := IX.t 21) (a := b) (b := b) (by kernel_rfl) (by kernel_rfl) (by kernel_rfl) (by kernel_rfl) (fun q15 => ?_) (fun q15 => ?_)
      rotate_left
      · exact absurd rfl ‹¬ b = b›
      have m16 := F14.bq
      have k17 := F14.parts
      refine Wo.pre 3 (by kernel_rfl) ?_
      have c18 := put_run F14 (by first | omega | (simp; omega) | (simp; done) | assumption)
      refine Wo.call (by kernel_rfl) (by kernel_rfl) c18 ?_
      clear c18
      refine Wo.pre 2 (by kernel_rfl) ?_
      refine Wo.val (.int .i64 (List.length (b) : Nat)) h1 (by kernel_rfl) (Bs.len F14 (by kernel_rfl)) ?_
      refine Wo.call (by kernel_rfl) (by kernel_rfl) hsz ?_
      clear hsz
      refine Wo.cmpN (op := .neq) (x := IX.t 27) (y := IX.t 30) (k := IntKind.i64) (a := ↑(Ba.b64 b).length) (b := ↑((b.length + 2) / 3 * 4)) ((↑(Ba.b64 b).length : Int) = (↑((b.length + 2) / 3 * 4) : Int)) (by kernel_rfl) (by kernel_rfl) (by kernel_rfl) (by kernel_rfl) (by simp) (by kernel_rfl) (fun q19 => ?_) (fun q19 => ?_)
      rotate_left
      · (exfalso; omega)
      refine Wo.pre 1 (by kernel_rfl) ?_
      refine Wo.nil ?_
      refine Wp.cond false (by kernel_rfl) ?_
      refine Wp.skip ?_
      refine Wp.seq ?_
      refine Wp.region ?_
      refine Wo.pre 1 (by kernel_rfl) ?_
      refine Wo.call (by kernel_rfl) (by kernel_rfl) c2 ?_
      clear c2
      refine Wo.pre 5 (by kernel_rfl) ?_
      refine Wo.nil ?_
      refine Wp.seq ?_
      refine Wp.seq ?_
      refine Wp.region ?_
      refine Wo.pre 1 (by kernel_rfl) ?_
      refine Wo.pre 1 (by kernel_rfl) ?_
      refine Wo.nil ?_
      refine Wp.cond false (by kernel_rfl) ?_
      refine Wp.skip ?_
      refine Wp.seq ?_
      refine Wp.region ?_
      refine Wo.pre 1 (by kernel_rfl) ?_
      have c20 := put_run b2 hl2
      refine Wo.call (by kernel_rfl) (by kernel_rfl) c20 ?_
      clear c20
      refine Wo.pre 1 (by kernel_rfl) ?_
      refine Wo.cmpS (x := IX.t 51) (y := IX.t 52) (a := Ba.b64 l2) (b := s) (by kernel_rfl) (by kernel_rfl) (by kernel_rfl) (by kernel_rfl) (fun q21 => ?_) (fun q21 => ?_)
      rotate_left
      · exact absurd e2 (by with_reducible assumption)
      refine Wo.pre 1 (by kernel_rfl) ?_
      have c22 := wakes_run (h2)
      refine Wo.call (by kernel_rfl) (by kernel_rfl) c22 ?_
      clear c22
      refine Wo.pre 2 (by kernel_rfl) ?_
      refine Wo.nil ?_
      refine Wp.ret ?_
      refine ⟨.inr rfl, (AV.bool true), (ret_one (res_tmp (by kernel_rfl) res_nil)), ?_⟩
      dsimp only
end Go.Det
