/- The reference's reader; the program's reader, all its ways. -/
import Derived.Test.YthahfhdibhgboaaRefL
set_option linter.unusedVariables false
set_option linter.unusedSimpArgs false
set_option linter.unusedSectionVars false
namespace Go.Det
open Go.Proofs
attribute [local irreducible] Wp Wo Wd iop ev slots quiets wanted put

def rdV (l : List UInt8) (size : Int) : Nat := if rdE l size = 0 then be (l.take size.toNat) else 0
def rdL (l : List UInt8) (size : Int) : List UInt8 := if rdE l size = 0 then l.drop size.toNat else l
def vE (l : List UInt8) (size : Int) : Int := if ¬ (1 ≤ size ∧ size ≤ 3) then 1 else if (l.length : Int) < size then 4 else if l.length < size.toNat + be (l.take size.toNat) then 4 else 0
def vN (l : List UInt8) (size : Int) : Nat := size.toNat + be (l.take size.toNat)
def vX (l : List UInt8) (size : Int) : List UInt8 := if vE l size = 0 then (l.drop size.toNat).take (be (l.take size.toNat)) else []
def vL (l : List UInt8) (size : Int) : List UInt8 := if vE l size = 0 then l.drop (vN l size) else l
def tX (l : List UInt8) (n : Int) : List UInt8 := if readyE l n = 0 then l.take n.toNat else []
def tL (l : List UInt8) (n : Int) : List UInt8 := if readyE l n = 0 then l.drop n.toNat else l

theorem rdnum_any {h : H} {b : Nat} {v : AV} {l : List UInt8} (hR : Rd h b v l) (size : Int) (hl : l.length ≤ maxRow) :
    ∃ h' v', Runs TF 27 [.ptr ⟨b, 0, 0⟩, .int .i64 size] h (.tup [.int .u64 (rdV l size : Nat), .int .i64 (rdE l size)]) h' ∧ Rd h' b v' (rdL l size) ∧ ExtB b h h' ∧ SB v v' := by
  by_cases he : rdE l size = 0
  · have h1 : (1 ≤ size ∧ size ≤ 4 ∨ size = 8) ∧ ¬ (l.length : Int) < size := by
      unfold rdE at he
      split at he
      · cases he
      · rename_i h1
        split at he
        · cases he
        · rename_i h2; exact ⟨Classical.not_not.1 h1, h2⟩
    obtain ⟨m, rfl⟩ : ∃ m : Nat, size = m := ⟨size.toNat, by omega⟩
    obtain ⟨r, h', c1, v', rfl, c2, c3⟩ := rdnum_run hR (size := m) (by omega) (by omega) hl
    refine ⟨h', v', ?_, ?_, c3⟩
    · rw [he, rdV, if_pos he]; exact c1
    · rw [rdL, if_pos he]; exact c2
  · refine ⟨h, v, ?_, ?_, ⟨Nat.le_refl _, fun _ _ _ => rfl⟩, SB.refl _⟩
    · rw [rdV, if_neg he]; exact rdnum_fail hR he
    · rw [rdL, if_neg he]; exact hR

theorem take_any {h : H} {b : Nat} {v : AV} {l : List UInt8} (hR : Rd h b v l) (n : Int) (hl : l.length ≤ maxRow) :
    ∃ h' x v', Runs TF 31 [.ptr ⟨b, 0, 0⟩, .int .i64 n] h (.tup [x, .int .i64 (readyE l n)]) h' ∧ Rd h' b v' (tL l n) ∧ Ow h.n h' x (tX l n) ∧ ExtB b h h' ∧ SB v v' := by
  by_cases he : readyE l n = 0
  · have h1 : 0 ≤ n ∧ n ≤ l.length := by
      unfold readyE at he
      split at he
      · cases he
      · split at he
        · cases he
        · omega
    obtain ⟨m, rfl⟩ : ∃ m : Nat, n = m := ⟨n.toNat, by omega⟩
    obtain ⟨r, h', c1, x, v', rfl, c2, c3, c4⟩ := take_run hR (n := m) (by omega) hl
    refine ⟨h', x, v', by rw [he]; exact c1, ?_, ?_, c4⟩
    · rw [tL, if_pos he]; exact c2
    · rw [tX, if_pos he]; exact c3
  · refine ⟨h, .nils, v, take_fail hR he, ?_, ?_, ⟨Nat.le_refl _, fun _ _ _ => rfl⟩, SB.refl _⟩
    · rw [tL, if_neg he]; exact hR
    · rw [tX, if_neg he]; exact .inl ⟨rfl, rfl⟩

theorem vec_bad {h : H} {b : Nat} {v : AV} {l : List UInt8} (hR : Rd h b v l) {size : Int} (hs : ¬ (1 ≤ size ∧ size ≤ 3)) :
    Runs TF 29 [.ptr ⟨b, 0, 0⟩, .int .i64 size] h (.tup [.nils, .int .i64 1]) h := by
  refine Runs.of' f29 rfl ?_
  have e0 : readyE l 0 = 0 := by simp [readyE]
  have hready := ready_run hR 0
  rw [e0] at hready
  have hsz := sized_run size h
  by_cases h1 : 1 ≤ size ∧ size ≤ 4 ∨ size = 8
  · rw [decide_eq_true h1] at hsz
    refine Wp.seq ?_
    refine Wp.region ?_
    refine Wo.pre 8 (by kernel_rfl) ?_
    refine Wo.nil ?_
    refine Wp.seq ?_
    refine Wp.seq ?_
    refine Wp.region ?_
    refine Wo.pre 1 (by kernel_rfl) ?_
    refine Wo.call (by kernel_rfl) (by kernel_rfl) (hready) ?_
    refine Wo.pre 8 (by kernel_rfl) ?_
    refine Wo.nil ?_
    refine Wp.seq ?_
    refine Wp.region ?_
    refine Wo.pre 8 (by kernel_rfl) ?_
    refine Wo.nil ?_
    refine Wp.cond false (by kernel_rfl) ?_
    refine Wp.skip ?_
    refine Wp.seq ?_
    refine Wp.seq ?_
    refine Wp.region ?_
    refine Wo.pre 1 (by kernel_rfl) ?_
    refine Wo.call (by kernel_rfl) (by kernel_rfl) (hsz) ?_
    refine Wo.pre 8 (by kernel_rfl) ?_
    refine Wo.nil ?_
    refine Wp.cond (decide (size > 3)) (by kernel_rfl) ?_
    rw [if_pos (by simp; omega)]
    refine Wp.seq ?_
    refine Wp.region ?_
    refine Wo.pre 8 (by kernel_rfl) ?_
    refine Wo.nil ?_
    exact Wp.ret ⟨.inr rfl, rfl, (by kernel_rfl)⟩
  · rw [decide_eq_false h1] at hsz
    refine Wp.seq ?_
    refine Wp.region ?_
    refine Wo.pre 8 (by kernel_rfl) ?_
    refine Wo.nil ?_
    refine Wp.seq ?_
    refine Wp.seq ?_
    refine Wp.region ?_
    refine Wo.pre 1 (by kernel_rfl) ?_
    refine Wo.call (by kernel_rfl) (by kernel_rfl) (hready) ?_
    refine Wo.pre 8 (by kernel_rfl) ?_
    refine Wo.nil ?_
    refine Wp.seq ?_
    refine Wp.region ?_
    refine Wo.pre 8 (by kernel_rfl) ?_
    refine Wo.nil ?_
    refine Wp.cond false (by kernel_rfl) ?_
    refine Wp.skip ?_
    refine Wp.seq ?_
    refine Wp.seq ?_
    refine Wp.region ?_
    refine Wo.pre 1 (by kernel_rfl) ?_
    refine Wo.call (by kernel_rfl) (by kernel_rfl) (hsz) ?_
    refine Wo.pre 8 (by kernel_rfl) ?_
    refine Wo.nil ?_
    refine Wp.cond true (by kernel_rfl) ?_
    refine Wp.seq ?_
    refine Wp.region ?_
    refine Wo.pre 8 (by kernel_rfl) ?_
    refine Wo.nil ?_
    exact Wp.ret ⟨.inr rfl, rfl, (by kernel_rfl)⟩

theorem vec_any {h : H} {b : Nat} {v : AV} {l : List UInt8} (hR : Rd h b v l) (size : Int) (hl : l.length ≤ maxRow) :
    ∃ h' x v', Runs TF 29 [.ptr ⟨b, 0, 0⟩, .int .i64 size] h (.tup [x, .int .i64 (vE l size)]) h' ∧ Rd h' b v' (vL l size) ∧ Ow h.n h' x (vX l size) ∧ ExtB b h h' ∧ SB v v' := by
  by_cases hs : 1 ≤ size ∧ size ≤ 3
  · obtain ⟨m, rfl⟩ : ∃ m : Nat, size = m := ⟨size.toNat, by omega⟩
    have hs' : 1 ≤ m ∧ m ≤ 3 := by omega
    by_cases h1 : l.length < m
    · have he : vE l m = 4 := by
        have h1' : (l.length : Int) < (m : Int) := by omega
        simp only [vE, hs, and_self, h1', not_true, if_false, if_true]
      refine ⟨h, .nils, v, by rw [he]; exact vec_short hR hs' h1, ?_, ?_, ⟨Nat.le_refl _, fun _ _ _ => rfl⟩, SB.refl _⟩
      · rw [vL, if_neg (by rw [he]; decide)]; exact hR
      · rw [vX, if_neg (by rw [he]; decide)]; exact .inl ⟨rfl, rfl⟩
    · have h1' : ¬ (l.length : Int) < (m : Int) := by omega
      by_cases h2 : l.length < m + be (l.take m)
      · have he : vE l m = 4 := by
          simp only [vE, hs, and_self, h1', not_true, if_false, Int.toNat_natCast, h2, if_true]
        have hbl : be (l.take m) < 2 ^ 63 := by
          have := be_lt (l.take m)
          rw [List.length_take, Nat.min_eq_left (by omega)] at this
          have h2 : 256 ^ m ≤ 256 ^ 3 := Nat.pow_le_pow_right (by omega) hs'.2
          omega
        obtain ⟨h2', d1, d2, d3⟩ := vec_cut hR hs' rfl (by omega) h2 hl hbl
        refine ⟨h2', .nils, v, by rw [he]; exact d1, ?_, ?_, d3, SB.refl _⟩
        · rw [vL, if_neg (by rw [he]; decide)]; exact d2
        · rw [vX, if_neg (by rw [he]; decide)]; exact .inl ⟨rfl, rfl⟩
      · have he : vE l m = 0 := by
          simp only [vE, hs, and_self, h1', not_true, if_false, Int.toNat_natCast, h2]
        obtain ⟨r, h', c1, x, v', rfl, c2, c3, c4⟩ := vec_run hR hs' rfl (by omega) hl
        refine ⟨h', x, v', by rw [he]; exact c1, ?_, ?_, c4⟩
        · rw [vL, if_pos he, vN, Int.toNat_natCast]; exact c2
        · rw [vX, if_pos he, Int.toNat_natCast]; exact c3
  · have he : vE l size = 1 := by simp only [vE, hs, not_false_eq_true, if_true]
    refine ⟨h, .nils, v, by rw [he]; exact vec_bad hR hs, ?_, ?_, ⟨Nat.le_refl _, fun _ _ _ => rfl⟩, SB.refl _⟩
    · rw [vL, if_neg (by rw [he]; decide)]; exact hR
    · rw [vX, if_neg (by rw [he]; decide)]; exact .inl ⟨rfl, rfl⟩

/-- The reference's reader. -/
def RRd (h : H) (b : Nat) (w : AV) (l : List UInt8) : Prop := b < h.n ∧ h.get b = some (.cells 0 51 [w] 0 false) ∧ Bs h w l ∧ Cok w ∧ ∀ a n c, w = .sl a n c → a.b ≠ b

theorem RRd.ld {h : H} {b : Nat} {w : AV} {l : List UInt8} (hR : RRd h b w l) : h.ldg ⟨b, 0, 0⟩ none = some w := by
  simp [H.ldg, H.ld, H.row, hR.2.1, getL]

/-- What is left is written. -/
theorem RRd.st {h : H} {b : Nat} {w v' : AV} {l l' : List UInt8} (hR : RRd h b w l) (hb : Bs h v' l') (hc : Cok v') (hne : ∀ a n c, v' = .sl a n c → a.b ≠ b) :
    ∃ h', h.st ⟨b, 0, 0⟩ [v'] = some h' ∧ RRd h' b v' l' ∧ ExtB b h h' := by
  have hp := hb.parts
  refine ⟨h.set b (.cells 0 51 [v'] 0 false), ?_, ⟨hR.1, by rw [h.get_set], ?_, hc, hne⟩, Nat.le_refl _, fun k _ hkb => h.get_set_ne b k _ hkb⟩
  · unfold H.st
    simp only [hR.2.1]
    rw [if_pos (by simp [hp.2.1])]
    rfl
  · rcases hb with ⟨e1, e2⟩ | ⟨a, c, e1, e2, e3⟩
    · exact .inl ⟨e1, e2⟩
    · exact .inr ⟨a, c, e1, e2, by rw [ldn_same (h.get_set_ne b _ _ (hne _ _ _ e1))]; exact e3⟩

theorem rrnew_run {v : AV} {l : List UInt8} {h : H} (hb : Bs h v l) (hl : l.length ≤ maxRow) : ∃ h' b u, Runs TF 26 [v] h (.ptr ⟨b, 0, 0⟩) h' ∧ h.n ≤ b ∧ RRd h' b u l ∧ Ext h h' ∧ ∀ a n c, u = .sl a n c → h.n ≤ a.b ∧ a.b < b := by
  obtain ⟨x, h1, c1, c2, c3⟩ := own_run hb hl
  have hp := c3.bs.parts
  obtain ⟨h2, hh2⟩ : ∃ h2, h2 = h1.new (.cells 0 51 [x] 0 false) := ⟨_, rfl⟩
  have E : Ext h1 h2 := by rw [hh2]; exact Ext.new _ _
  have e1 : ∀ {y : IX} {ρ : IX → AV}, ρ y = x → iop (.build [.nils] [(0, 1, y)]) ρ h1 = some (.val (.agg [x]) h1) := by
    intro y ρ hy
    simp [iop, fillL, hy, hp.1, putAt]
  have e2 : ∀ {y : IX} {ρ : IX → AV}, ρ y = .agg [x] → iop (.new 51 y) ρ h1 = some (.val (.ptr ⟨h1.n, 0, 0⟩) h2) := fun hy => by rw [hh2]; exact iop_new hy (by simp [hp.2.1])
  refine ⟨h2, h1.n, x, Runs.of' f26 rfl ?_, c2.1, ⟨by rw [hh2]; simp, by rw [hh2]; exact h1.get_new _, (c3.ext E).bs, c3.cok, ?_⟩, c2.trans E, fun a n c e => c3.blk e⟩
  · refine Wp.seq ?_
    refine Wp.region ?_
    refine Wo.pre 8 (by kernel_rfl) ?_
    refine Wo.nil ?_
    refine Wp.seq ?_
    refine Wp.region ?_
    refine Wo.pre 1 (by kernel_rfl) ?_
    refine Wo.call (by kernel_rfl) (by kernel_rfl) (c1) ?_
    refine Wo.val (.agg [x]) h1 (by kernel_rfl) (e1 (by kernel_rfl)) ?_
    refine Wo.val _ _ (by kernel_rfl) (e2 (by kernel_rfl)) ?_
    refine Wo.pre 8 (by kernel_rfl) ?_
    refine Wo.nil ?_
    exact Wp.ret ⟨.inr rfl, rfl, (by kernel_rfl)⟩
  · intro a n c e
    have := c3.bs.lt e
    omega

theorem rrnum_any {h : H} {b : Nat} {w : AV} {l : List UInt8} (hR : RRd h b w l) (size : Int) (hl : l.length ≤ maxRow) :
    ∃ h' v', Runs TF 28 [.ptr ⟨b, 0, 0⟩, .int .i64 size] h (.tup [.int .u64 (rdV l size : Nat), .int .i64 (rdE l size)]) h' ∧ RRd h' b v' (rdL l size) ∧ ExtB b h h' ∧ SB w v' := by
  have l0 := hR.ld
  have hw := hR.2.2.1
  have hz := rsized_run size h
  by_cases hs : 1 ≤ size ∧ size ≤ 4 ∨ size = 8
  · rw [decide_eq_true hs] at hz
    by_cases h1 : (l.length : Int) < size
    · have he : rdE l size = 4 := by simp only [rdE, hs, h1, not_true, if_false, if_true]
      refine ⟨h, w, ?_, ?_, ⟨Nat.le_refl _, fun _ _ _ => rfl⟩, SB.refl _⟩
      · rw [rdV, if_neg (by rw [he]; decide), he]
        refine Runs.of' f28 rfl ?_
        refine Wp.seq ?_
        refine Wp.region ?_
        refine Wo.pre 8 (by kernel_rfl) ?_
        refine Wo.nil ?_
        refine Wp.seq ?_
        refine Wp.seq ?_
        refine Wp.region ?_
        refine Wo.pre 1 (by kernel_rfl) ?_
        refine Wo.call (by kernel_rfl) (by kernel_rfl) (hz) ?_
        refine Wo.pre 8 (by kernel_rfl) ?_
        refine Wo.nil ?_
        refine Wp.cond false (by kernel_rfl) ?_
        refine Wp.skip ?_
        refine Wp.seq ?_
        refine Wp.seq ?_
        refine Wp.region ?_
        refine Wo.pre 3 (by kernel_rfl) ?_
        refine Wo.val w h (by kernel_rfl) (iop_ld (a := ⟨b, 0, 0⟩) (by kernel_rfl) l0) ?_
        refine Wo.val (.int .i64 l.length) h (by kernel_rfl) (hw.len (by kernel_rfl)) ?_
        refine Wo.pre 8 (by kernel_rfl) ?_
        refine Wo.nil ?_
        refine Wp.cond (decide ((l.length : Int) < size)) (by kernel_rfl) ?_
        rw [if_pos (by simpa using h1)]
        refine Wp.seq ?_
        refine Wp.region ?_
        refine Wo.pre 8 (by kernel_rfl) ?_
        refine Wo.nil ?_
        exact Wp.ret ⟨.inr rfl, rfl, (by kernel_rfl)⟩
      · rw [rdL, if_neg (by rw [he]; decide)]; exact hR
    · have he : rdE l size = 0 := by simp only [rdE, hs, h1, not_true, if_false]
      obtain ⟨m, rfl⟩ : ∃ m : Nat, size = m := ⟨size.toNat, by omega⟩
      obtain ⟨v', d1, d2, d3, d4, d5⟩ := hw.drop hR.2.2.2.1 (n := m) (by omega)
      obtain ⟨h', s1, s2, s3⟩ := hR.st d2 (fun a n c e => (d3 a n c e).2) (fun a n c e => by obtain ⟨⟨a0, m0, c0, q1, q2⟩, _⟩ := d3 a n c e; rw [← q2]; exact hR.2.2.2.2 _ _ _ q1)
      refine ⟨h', v', ?_, by rw [rdL, if_pos he, Int.toNat_natCast]; exact s2, s3, fun a n c e => (d3 a n c e).1⟩
      rw [rdV, if_pos he, he, Int.toNat_natCast]
      refine Runs.of' f28 rfl ?_
      refine Wp.seq ?_
      refine Wp.region ?_
      refine Wo.pre 8 (by kernel_rfl) ?_
      refine Wo.nil ?_
      refine Wp.seq ?_
      refine Wp.seq ?_
      refine Wp.region ?_
      refine Wo.pre 1 (by kernel_rfl) ?_
      refine Wo.call (by kernel_rfl) (by kernel_rfl) (hz) ?_
      refine Wo.pre 8 (by kernel_rfl) ?_
      refine Wo.nil ?_
      refine Wp.cond false (by kernel_rfl) ?_
      refine Wp.skip ?_
      refine Wp.seq ?_
      refine Wp.seq ?_
      refine Wp.region ?_
      refine Wo.pre 3 (by kernel_rfl) ?_
      refine Wo.val w h (by kernel_rfl) (iop_ld (a := ⟨b, 0, 0⟩) (by kernel_rfl) l0) ?_
      refine Wo.val (.int .i64 l.length) h (by kernel_rfl) (hw.len (by kernel_rfl)) ?_
      refine Wo.pre 8 (by kernel_rfl) ?_
      refine Wo.nil ?_
      refine Wp.cond (decide ((l.length : Int) < (m : Int))) (by kernel_rfl) ?_
      rw [if_neg (by simpa using h1)]
      refine Wp.skip ?_
      refine Wp.seq ?_
      refine Wp.region ?_
      refine Wo.pre 8 (by kernel_rfl) ?_
      refine Wo.nil ?_
      refine Wp.seq ?_
      refine Wp.seq ?_
      refine Wp.region ?_
      refine Wo.pre 8 (by kernel_rfl) ?_
      refine Wo.nil ?_
      refine Wp.block ?_
      obtain ⟨a, c, rfl⟩ : ∃ a c, w = .sl a l.length c := by
        rcases hw with ⟨_, rfl⟩ | ⟨a, c, e, _⟩
        · exfalso; simp at h1; omega
        · exact ⟨a, c, e⟩
      refine rrnum_loop l0 hw (size := m) (by omega) (by omega) m 0 (by omega) _ (by kernel_rfl) (by kernel_rfl) (by kernel_rfl) (by kernel_rfl) (by kernel_rfl) _ ?_
      intro ts' g0 g1 g2
      have e0 : getL ts' 0 = some (.ptr ⟨b, 0, 0⟩) := (g1 0 (by omega)).trans (by kernel_rfl)
      have e1 : getL ts' 1 = some (.int .i64 m) := (g1 1 (by omega)).trans (by kernel_rfl)
      rw [laid_eq g0 [(0, .ptr ⟨b, 0, 0⟩), (1, .int .i64 m), (6, .int .u64 (be (l.take m) : Nat))] (by simp [e0, e1, g2])]
      refine Wp.seq ?_
      refine Wp.region ?_
      refine Wo.pre 3 (by kernel_rfl) ?_
      refine Wo.pre 1 (by kernel_rfl) ?_
      refine Wo.val (.sl a l.length c) h (by kernel_rfl) (iop_ld (a := ⟨b, 0, 0⟩) (by kernel_rfl) l0) ?_
      refine Wo.pre 1 (by kernel_rfl) ?_
      refine Wo.val v' h (by kernel_rfl) (d1 _ _ _ (by kernel_rfl) (by kernel_rfl)) ?_
      refine Wo.pre 1 (by kernel_rfl) ?_
      refine Wo.pre 1 (by kernel_rfl) ?_
      refine Wo.val .undef h' (by kernel_rfl) (iop_st1 (a := ⟨b, 0, 0⟩) (v := v') (by kernel_rfl) (by kernel_rfl) d4 s1) ?_
      refine Wo.nil ?_
      refine Wp.seq ?_
      refine Wp.region ?_
      refine Wo.pre 8 (by kernel_rfl) ?_
      refine Wo.nil ?_
      exact Wp.ret ⟨.inr rfl, rfl, (by kernel_rfl)⟩
  · rw [decide_eq_false hs] at hz
    have he : rdE l size = 1 := by simp only [rdE, hs, not_false_eq_true, if_true]
    refine ⟨h, w, ?_, ?_, ⟨Nat.le_refl _, fun _ _ _ => rfl⟩, SB.refl _⟩
    · rw [rdV, if_neg (by rw [he]; decide), he]
      refine Runs.of' f28 rfl ?_
      refine Wp.seq ?_
      refine Wp.region ?_
      refine Wo.pre 8 (by kernel_rfl) ?_
      refine Wo.nil ?_
      refine Wp.seq ?_
      refine Wp.seq ?_
      refine Wp.region ?_
      refine Wo.pre 1 (by kernel_rfl) ?_
      refine Wo.call (by kernel_rfl) (by kernel_rfl) (hz) ?_
      refine Wo.pre 8 (by kernel_rfl) ?_
      refine Wo.nil ?_
      refine Wp.cond true (by kernel_rfl) ?_
      refine Wp.seq ?_
      refine Wp.region ?_
      refine Wo.pre 8 (by kernel_rfl) ?_
      refine Wo.nil ?_
      exact Wp.ret ⟨.inr rfl, rfl, (by kernel_rfl)⟩
    · rw [rdL, if_neg (by rw [he]; decide)]; exact hR

set_option maxHeartbeats 1000000 in
theorem rrtake_any {h : H} {b : Nat} {w : AV} {l : List UInt8} (hR : RRd h b w l) (n : Int) (hl : l.length ≤ maxRow) :
    ∃ h' x v', Runs TF 32 [.ptr ⟨b, 0, 0⟩, .int .i64 n] h (.tup [x, .int .i64 (readyE l n)]) h' ∧ RRd h' b v' (tL l n) ∧ Ow h.n h' x (tX l n) ∧ ExtB b h h' ∧ SB w v' := by
  have l0 := hR.ld
  have hw := hR.2.2.1
  by_cases h0 : n < 0
  · have he : readyE l n = 1 := by simp only [readyE, h0, if_true]
    refine ⟨h, .nils, w, ?_, by rw [tL, if_neg (by rw [he]; decide)]; exact hR, by rw [tX, if_neg (by rw [he]; decide)]; exact .inl ⟨rfl, rfl⟩, ⟨Nat.le_refl _, fun _ _ _ => rfl⟩, SB.refl _⟩
    rw [he]
    refine Runs.of' f32 rfl ?_
    refine Wp.seq ?_
    refine Wp.region ?_
    refine Wo.pre 8 (by kernel_rfl) ?_
    refine Wo.nil ?_
    refine Wp.seq ?_
    refine Wp.seq ?_
    refine Wp.region ?_
    refine Wo.pre 8 (by kernel_rfl) ?_
    refine Wo.nil ?_
    refine Wp.cond (decide (n < 0)) (by kernel_rfl) ?_
    rw [if_pos (by simpa using h0)]
    refine Wp.seq ?_
    refine Wp.region ?_
    refine Wo.pre 8 (by kernel_rfl) ?_
    refine Wo.nil ?_
    exact Wp.ret ⟨.inr rfl, rfl, (by kernel_rfl)⟩
  · by_cases h1 : (l.length : Int) < n
    · have he : readyE l n = 4 := by simp only [readyE, h0, h1, if_true, if_false]
      refine ⟨h, .nils, w, ?_, by rw [tL, if_neg (by rw [he]; decide)]; exact hR, by rw [tX, if_neg (by rw [he]; decide)]; exact .inl ⟨rfl, rfl⟩, ⟨Nat.le_refl _, fun _ _ _ => rfl⟩, SB.refl _⟩
      rw [he]
      refine Runs.of' f32 rfl ?_
      refine Wp.seq ?_
      refine Wp.region ?_
      refine Wo.pre 8 (by kernel_rfl) ?_
      refine Wo.nil ?_
      refine Wp.seq ?_
      refine Wp.seq ?_
      refine Wp.region ?_
      refine Wo.pre 8 (by kernel_rfl) ?_
      refine Wo.nil ?_
      refine Wp.cond (decide (n < 0)) (by kernel_rfl) ?_
      rw [if_neg (by simpa using h0)]
      refine Wp.skip ?_
      refine Wp.seq ?_
      refine Wp.seq ?_
      refine Wp.region ?_
      refine Wo.pre 3 (by kernel_rfl) ?_
      refine Wo.pre 1 (by kernel_rfl) ?_
      refine Wo.val w h (by kernel_rfl) (iop_ld (a := ⟨b, 0, 0⟩) (by kernel_rfl) l0) ?_
      refine Wo.val (.int .i64 l.length) h (by kernel_rfl) (hw.len (by kernel_rfl)) ?_
      refine Wo.pre 8 (by kernel_rfl) ?_
      refine Wo.nil ?_
      refine Wp.cond (decide (n > (l.length : Int))) (by kernel_rfl) ?_
      rw [if_pos (by simpa using h1)]
      refine Wp.seq ?_
      refine Wp.region ?_
      refine Wo.pre 8 (by kernel_rfl) ?_
      refine Wo.nil ?_
      exact Wp.ret ⟨.inr rfl, rfl, (by kernel_rfl)⟩
    · have he : readyE l n = 0 := by simp only [readyE, h0, h1, if_false]
      obtain ⟨m, rfl⟩ : ∃ m : Nat, n = m := ⟨n.toNat, by omega⟩
      obtain ⟨q, t1, t2, t3⟩ := hw.take hR.2.2.2.1 (n := m) (by omega)
      obtain ⟨x, h1', c1, c2, c3⟩ := own_run t2 (by rw [List.length_take]; omega)
      have hR1 : RRd h1' b w l := ⟨Nat.lt_of_lt_of_le hR.1 c2.1, by rw [c2.2 _ hR.1]; exact hR.2.1, hw.ext c2, hR.2.2.2⟩
      have l1 := hR1.ld
      obtain ⟨v', d1, d2, d3, d4, d5⟩ := hR1.2.2.1.drop hR.2.2.2.1 (n := m) (by omega)
      obtain ⟨h', s1, s2, s3⟩ := hR1.st d2 (fun a n c e => (d3 a n c e).2) (fun a n c e => by obtain ⟨⟨a0, m0, c0, q1, q2⟩, _⟩ := d3 a n c e; rw [← q2]; exact hR.2.2.2.2 _ _ _ q1)
      refine ⟨h', x, v', ?_, by rw [tL, if_pos he, Int.toNat_natCast]; exact s2, ?_, ⟨Nat.le_trans c2.1 s3.1, fun k hk hkb => by rw [s3.2 k (Nat.lt_of_lt_of_le hk c2.1) hkb, c2.2 k hk]⟩, fun a n c e => (d3 a n c e).1⟩
      · rw [he]
        refine Runs.of' f32 rfl ?_
        refine Wp.seq ?_
        refine Wp.region ?_
        refine Wo.pre 8 (by kernel_rfl) ?_
        refine Wo.nil ?_
        refine Wp.seq ?_
        refine Wp.seq ?_
        refine Wp.region ?_
        refine Wo.pre 8 (by kernel_rfl) ?_
        refine Wo.nil ?_
        refine Wp.cond false (by kernel_rfl) ?_
        refine Wp.skip ?_
        refine Wp.seq ?_
        refine Wp.seq ?_
        refine Wp.region ?_
        refine Wo.pre 3 (by kernel_rfl) ?_
        refine Wo.pre 1 (by kernel_rfl) ?_
        refine Wo.val w h (by kernel_rfl) (iop_ld (a := ⟨b, 0, 0⟩) (by kernel_rfl) l0) ?_
        refine Wo.val (.int .i64 l.length) h (by kernel_rfl) (hw.len (by kernel_rfl)) ?_
        refine Wo.pre 8 (by kernel_rfl) ?_
        refine Wo.nil ?_
        refine Wp.cond (decide ((m : Int) > (l.length : Int))) (by kernel_rfl) ?_
        rw [if_neg (by simpa using h1)]
        refine Wp.skip ?_
        refine Wp.seq ?_
        refine Wp.region ?_
        refine Wo.pre 3 (by kernel_rfl) ?_
        refine Wo.val w h (by kernel_rfl) (iop_ld (a := ⟨b, 0, 0⟩) (by kernel_rfl) l0) ?_
        refine Wo.pre 1 (by kernel_rfl) ?_
        refine Wo.val q h (by kernel_rfl) (t1 _ _ _ (by kernel_rfl) (by kernel_rfl)) ?_
        refine Wo.call (by kernel_rfl) (by kernel_rfl) (c1) ?_
        refine Wo.pre 8 (by kernel_rfl) ?_
        refine Wo.nil ?_
        refine Wp.seq ?_
        refine Wp.region ?_
        refine Wo.pre 3 (by kernel_rfl) ?_
        refine Wo.pre 1 (by kernel_rfl) ?_
        refine Wo.val w h1' (by kernel_rfl) (iop_ld (a := ⟨b, 0, 0⟩) (by kernel_rfl) l1) ?_
        refine Wo.pre 1 (by kernel_rfl) ?_
        refine Wo.val v' h1' (by kernel_rfl) (d1 _ _ _ (by kernel_rfl) (by kernel_rfl)) ?_
        refine Wo.pre 1 (by kernel_rfl) ?_
        refine Wo.pre 1 (by kernel_rfl) ?_
        refine Wo.val .undef h' (by kernel_rfl) (iop_st1 (a := ⟨b, 0, 0⟩) (v := v') (by kernel_rfl) (by kernel_rfl) d4 s1) ?_
        refine Wo.nil ?_
        refine Wp.seq ?_
        refine Wp.region ?_
        refine Wo.pre 8 (by kernel_rfl) ?_
        refine Wo.nil ?_
        exact Wp.ret ⟨.inr rfl, rfl, (by kernel_rfl)⟩
      · rw [tX, if_pos he, Int.toNat_natCast]
        rcases c3 with h0 | ⟨b', g, w1, w2, w3, w4⟩
        · exact .inl h0
        · exact .inr ⟨b', g, w1, Nat.lt_of_lt_of_le w2 s3.1, by rw [s3.2 _ w2 (by have := hR.1; omega)]; exact w3, w4⟩
set_option maxHeartbeats 4000000 in
theorem rrvec_any {h : H} {b : Nat} {w : AV} {l : List UInt8} (hR : RRd h b w l) (size : Int) (hl : l.length ≤ maxRow) :
    ∃ h' x v', Runs TF 30 [.ptr ⟨b, 0, 0⟩, .int .i64 size] h (.tup [x, .int .i64 (vE l size)]) h' ∧ RRd h' b v' (vL l size) ∧ Ow h.n h' x (vX l size) ∧ ExtB b h h' ∧ SB w v' := by
  have l0 := hR.ld
  have hw := hR.2.2.1
  by_cases hs : 1 ≤ size ∧ size ≤ 3
  · obtain ⟨m, rfl⟩ : ∃ m : Nat, size = m := ⟨size.toNat, by omega⟩
    have hm : m = 1 ∨ m = 2 ∨ m = 3 := by omega
    rcases hm with rfl | rfl | rfl
    · skip
      by_cases h1 : l.length < 1
      · have h1' : (l.length : Int) < ((1 : Nat) : Int) := by omega
        have he : vE l ((1 : Nat) : Int) = 4 := by simp only [vE, hs, and_self, h1', not_true, if_false, if_true]
        refine ⟨h, .nils, w, ?_, by rw [vL, if_neg (by rw [he]; decide)]; exact hR, by rw [vX, if_neg (by rw [he]; decide)]; exact .inl ⟨rfl, rfl⟩, ⟨Nat.le_refl _, fun _ _ _ => rfl⟩, SB.refl _⟩
        rw [he]
        refine Runs.of' f30 rfl ?_
        refine Wp.seq ?_
        refine Wp.region ?_
        refine Wo.pre 8 (by kernel_rfl) ?_
        refine Wo.nil ?_
        refine Wp.seq ?_
        refine Wp.seq ?_
        refine Wp.region ?_
        refine Wo.pre 8 (by kernel_rfl) ?_
        refine Wo.pre 8 (by kernel_rfl) ?_
        refine Wo.nil ?_
        refine Wp.cond false (by kernel_rfl) ?_
        refine Wp.skip ?_
        refine Wp.seq ?_
        refine Wp.seq ?_
        refine Wp.region ?_
        refine Wo.pre 3 (by kernel_rfl) ?_
        refine Wo.val w h (by kernel_rfl) (iop_ld (a := ⟨b, 0, 0⟩) (by kernel_rfl) l0) ?_
        refine Wo.val (.int .i64 l.length) h (by kernel_rfl) (hw.len (by kernel_rfl)) ?_
        refine Wo.pre 8 (by kernel_rfl) ?_
        refine Wo.nil ?_
        refine Wp.cond (decide ((l.length : Int) < 1)) (by kernel_rfl) ?_
        rw [if_pos (by simp; omega)]
        refine Wp.seq ?_
        refine Wp.region ?_
        refine Wo.pre 8 (by kernel_rfl) ?_
        refine Wo.nil ?_
        exact Wp.ret ⟨.inr rfl, rfl, (by kernel_rfl)⟩
      · have h1' : ¬ (l.length : Int) < ((1 : Nat) : Int) := by omega
        obtain ⟨a, c, rfl⟩ : ∃ a c, w = .sl a l.length c := by
          rcases hw with ⟨_, rfl⟩ | ⟨a, c, e, _⟩
          · exfalso; simp at h1
          · exact ⟨a, c, e⟩
        have hlt := be_lt (l.take 1)
        rw [List.length_take, Nat.min_eq_left (by omega)] at hlt
        obtain ⟨n, hn⟩ : ∃ n, n = be (l.take 1) := ⟨_, rfl⟩
        rw [← hn] at hlt
        have hn24 : n < 2 ^ 24 := by omega
        have hmx : maxRow < 2 ^ 62 := by decide
        have w1 : IntKind.i64.wrap ((l.length : Int) - 1) = (l.length : Int) - 1 := i64_fit _ (by omega)
        have w2 : IntKind.i64.wrap (1 + (n : Int)) = ((1 + n : Nat) : Int) := by rw [i64_fit _ (by omega)]; omega
        by_cases h2 : l.length < 1 + n
        · have he : vE l ((1 : Nat) : Int) = 4 := by
            have h2' : l.length < ((1 : Nat) : Int).toNat + be (l.take ((1 : Nat) : Int).toNat) := by rw [Int.toNat_natCast, ← hn]; exact h2
            simp only [vE, hs, and_self, h1', not_true, if_false, h2', if_true]
          refine ⟨h, .nils, .sl a l.length c, ?_, by rw [vL, if_neg (by rw [he]; decide)]; exact hR, by rw [vX, if_neg (by rw [he]; decide)]; exact .inl ⟨rfl, rfl⟩, ⟨Nat.le_refl _, fun _ _ _ => rfl⟩, SB.refl _⟩
          rw [he]
          refine Runs.of' f30 rfl ?_
          refine Wp.seq ?_
          refine Wp.region ?_
          refine Wo.pre 8 (by kernel_rfl) ?_
          refine Wo.nil ?_
          refine Wp.seq ?_
          refine Wp.seq ?_
          refine Wp.region ?_
          refine Wo.pre 8 (by kernel_rfl) ?_
          refine Wo.pre 8 (by kernel_rfl) ?_
          refine Wo.nil ?_
          refine Wp.cond false (by kernel_rfl) ?_
          refine Wp.skip ?_
          refine Wp.seq ?_
          refine Wp.seq ?_
          refine Wp.region ?_
          refine Wo.pre 3 (by kernel_rfl) ?_
          refine Wo.val (.sl a l.length c) h (by kernel_rfl) (iop_ld (a := ⟨b, 0, 0⟩) (by kernel_rfl) l0) ?_
          refine Wo.pre 8 (by kernel_rfl) ?_
          refine Wo.nil ?_
          refine Wp.cond (decide ((l.length : Int) < 1)) (by kernel_rfl) ?_
          rw [if_neg (by simp; omega)]
          refine Wp.skip ?_
          refine Wp.seq ?_
          refine Wp.region ?_
          refine Wo.pre 8 (by kernel_rfl) ?_
          refine Wo.nil ?_
          refine Wp.seq ?_
          refine Wp.seq ?_
          refine Wp.region ?_
          refine Wo.pre 8 (by kernel_rfl) ?_
          refine Wo.nil ?_
          refine Wp.block ?_
          refine rrvec_loop l0 hw (size := 1) (by omega) (by omega) 1 0 (by omega) _ (by kernel_rfl) (by kernel_rfl) (by kernel_rfl) (by kernel_rfl) (by kernel_rfl) _ ?_
          intro ts' g0 g1 g2
          have e0 : getL ts' 0 = some (.ptr ⟨b, 0, 0⟩) := (g1 0 (by omega)).trans (by kernel_rfl)
          have e1 : getL ts' 1 = some (.int .i64 ((1 : Nat) : Int)) := (g1 1 (by omega)).trans (by kernel_rfl)
          rw [← hn] at g2
          rw [laid_eq g0 [(0, .ptr ⟨b, 0, 0⟩), (1, .int .i64 1), (6, .int .i64 n)] (by simp [e0, e1, g2])]
          refine Wp.seq ?_
          refine Wp.seq ?_
          refine Wp.region ?_
          refine Wo.pre 3 (by kernel_rfl) ?_
          refine Wo.val (.sl a l.length c) h (by kernel_rfl) (iop_ld (a := ⟨b, 0, 0⟩) (by kernel_rfl) l0) ?_
          refine Wo.pre 8 (by kernel_rfl) ?_
          refine Wo.nil ?_
          refine Wp.cond (decide (IntKind.i64.wrap ((l.length : Int) - 1) < (n : Int))) (by kernel_rfl) ?_
          rw [w1, if_pos (by simp; omega)]
          refine Wp.seq ?_
          refine Wp.region ?_
          refine Wo.pre 8 (by kernel_rfl) ?_
          refine Wo.nil ?_
          exact Wp.ret ⟨.inr rfl, rfl, (by kernel_rfl)⟩
        · have he : vE l ((1 : Nat) : Int) = 0 := by
            have h2' : ¬ l.length < ((1 : Nat) : Int).toNat + be (l.take ((1 : Nat) : Int).toNat) := by rw [Int.toNat_natCast, ← hn]; exact h2
            simp only [vE, hs, and_self, h1', not_true, if_false, h2']
          obtain ⟨q, t1, t2, t3⟩ := hw.sub hR.2.2.2.1 (i := 1) (j := 1 + n) (by omega) (by omega)
          obtain ⟨x, h1b, c1, c2, c3⟩ := own_run t2 (by rw [List.length_drop, List.length_take]; omega)
          have hR1 : RRd h1b b (.sl a l.length c) l := ⟨Nat.lt_of_lt_of_le hR.1 c2.1, by rw [c2.2 _ hR.1]; exact hR.2.1, hw.ext c2, hR.2.2.2⟩
          have l1 := hR1.ld
          obtain ⟨v', d1, d2, d3, d4, d5⟩ := hR1.2.2.1.drop hR.2.2.2.1 (n := 1 + n) (by omega)
          obtain ⟨h', s1, s2, s3⟩ := hR1.st d2 (fun a n c e => (d3 a n c e).2) (fun a n c e => by obtain ⟨⟨a0, m0, c0, q1, q2⟩, _⟩ := d3 a n c e; rw [← q2]; exact hR.2.2.2.2 _ _ _ q1)
          have t1' : ∀ (x y z : IX) (ρ : IX → AV), ρ x = .sl a l.length c → ρ y = .int .i64 1 → ρ z = .int .i64 (IntKind.i64.wrap (1 + (n : Int))) → iop (.slL 1 x (some y) (some z) none) ρ h = some (.val q h) := fun x y z ρ hx hy hz => t1 x y z ρ hx hy (by rw [hz, w2])
          have d1' : ∀ (x y : IX) (ρ : IX → AV), ρ x = .sl a l.length c → ρ y = .int .i64 (IntKind.i64.wrap (1 + (n : Int))) → iop (.slL 1 x (some y) none none) ρ h1b = some (.val v' h1b) := fun x y ρ hx hy => d1 x y ρ hx (by rw [hy, w2])
          refine ⟨h', x, v', ?_, by rw [vL, if_pos he, vN, Int.toNat_natCast, ← hn]; exact s2, ?_, ⟨Nat.le_trans c2.1 s3.1, fun k hk hkb => by rw [s3.2 k (Nat.lt_of_lt_of_le hk c2.1) hkb, c2.2 k hk]⟩, fun a n c e => (d3 a n c e).1⟩
          · rw [he]
            refine Runs.of' f30 rfl ?_
            refine Wp.seq ?_
            refine Wp.region ?_
            refine Wo.pre 8 (by kernel_rfl) ?_
            refine Wo.nil ?_
            refine Wp.seq ?_
            refine Wp.seq ?_
            refine Wp.region ?_
            refine Wo.pre 8 (by kernel_rfl) ?_
            refine Wo.pre 8 (by kernel_rfl) ?_
            refine Wo.nil ?_
            refine Wp.cond false (by kernel_rfl) ?_
            refine Wp.skip ?_
            refine Wp.seq ?_
            refine Wp.seq ?_
            refine Wp.region ?_
            refine Wo.pre 3 (by kernel_rfl) ?_
            refine Wo.val (.sl a l.length c) h (by kernel_rfl) (iop_ld (a := ⟨b, 0, 0⟩) (by kernel_rfl) l0) ?_
            refine Wo.pre 8 (by kernel_rfl) ?_
            refine Wo.nil ?_
            refine Wp.cond (decide ((l.length : Int) < 1)) (by kernel_rfl) ?_
            rw [if_neg (by simp; omega)]
            refine Wp.skip ?_
            refine Wp.seq ?_
            refine Wp.region ?_
            refine Wo.pre 8 (by kernel_rfl) ?_
            refine Wo.nil ?_
            refine Wp.seq ?_
            refine Wp.seq ?_
            refine Wp.region ?_
            refine Wo.pre 8 (by kernel_rfl) ?_
            refine Wo.nil ?_
            refine Wp.block ?_
            refine rrvec_loop l0 hw (size := 1) (by omega) (by omega) 1 0 (by omega) _ (by kernel_rfl) (by kernel_rfl) (by kernel_rfl) (by kernel_rfl) (by kernel_rfl) _ ?_
            intro ts' g0 g1 g2
            have e0 : getL ts' 0 = some (.ptr ⟨b, 0, 0⟩) := (g1 0 (by omega)).trans (by kernel_rfl)
            have e1 : getL ts' 1 = some (.int .i64 ((1 : Nat) : Int)) := (g1 1 (by omega)).trans (by kernel_rfl)
            rw [← hn] at g2
            rw [laid_eq g0 [(0, .ptr ⟨b, 0, 0⟩), (1, .int .i64 1), (6, .int .i64 n)] (by simp [e0, e1, g2])]
            refine Wp.seq ?_
            refine Wp.seq ?_
            refine Wp.region ?_
            refine Wo.pre 3 (by kernel_rfl) ?_
            refine Wo.val (.sl a l.length c) h (by kernel_rfl) (iop_ld (a := ⟨b, 0, 0⟩) (by kernel_rfl) l0) ?_
            refine Wo.pre 8 (by kernel_rfl) ?_
            refine Wo.nil ?_
            refine Wp.cond (decide (IntKind.i64.wrap ((l.length : Int) - 1) < (n : Int))) (by kernel_rfl) ?_
            rw [w1, if_neg (by simp; omega)]
            refine Wp.skip ?_
            refine Wp.seq ?_
            refine Wp.region ?_
            refine Wo.pre 3 (by kernel_rfl) ?_
            refine Wo.val (.sl a l.length c) h (by kernel_rfl) (iop_ld (a := ⟨b, 0, 0⟩) (by kernel_rfl) l0) ?_
            refine Wo.pre 3 (by kernel_rfl) ?_
            refine Wo.pre 1 (by kernel_rfl) ?_
            refine Wo.val q h (by kernel_rfl) (t1' _ _ _ _ (by kernel_rfl) (by kernel_rfl) (by kernel_rfl)) ?_
            refine Wo.call (by kernel_rfl) (by kernel_rfl) (c1) ?_
            refine Wo.pre 8 (by kernel_rfl) ?_
            refine Wo.nil ?_
            refine Wp.seq ?_
            refine Wp.region ?_
            refine Wo.pre 3 (by kernel_rfl) ?_
            refine Wo.pre 1 (by kernel_rfl) ?_
            refine Wo.val (.sl a l.length c) h1b (by kernel_rfl) (iop_ld (a := ⟨b, 0, 0⟩) (by kernel_rfl) l1) ?_
            refine Wo.pre 3 (by kernel_rfl) ?_
            refine Wo.val v' h1b (by kernel_rfl) (d1' _ _ _ (by kernel_rfl) (by kernel_rfl)) ?_
            refine Wo.pre 1 (by kernel_rfl) ?_
            refine Wo.pre 1 (by kernel_rfl) ?_
            refine Wo.val .undef h' (by kernel_rfl) (iop_st1 (a := ⟨b, 0, 0⟩) (v := v') (by kernel_rfl) (by kernel_rfl) d4 s1) ?_
            refine Wo.nil ?_
            refine Wp.seq ?_
            refine Wp.region ?_
            refine Wo.pre 8 (by kernel_rfl) ?_
            refine Wo.nil ?_
            exact Wp.ret ⟨.inr rfl, rfl, (by kernel_rfl)⟩
          · have e : (l.take (1 + n)).drop 1 = (l.drop 1).take n := by rw [List.drop_take]; congr 1; omega
            rw [vX, if_pos he, Int.toNat_natCast, ← hn, ← e]
            rcases c3 with h0 | ⟨b', g, w1, w2, w3, w4⟩
            · exact .inl h0
            · exact .inr ⟨b', g, w1, Nat.lt_of_lt_of_le w2 s3.1, by rw [s3.2 _ w2 (by have := hR.1; omega)]; exact w3, w4⟩
    · skip
      by_cases h1 : l.length < 2
      · have h1' : (l.length : Int) < ((2 : Nat) : Int) := by omega
        have he : vE l ((2 : Nat) : Int) = 4 := by simp only [vE, hs, and_self, h1', not_true, if_false, if_true]
        refine ⟨h, .nils, w, ?_, by rw [vL, if_neg (by rw [he]; decide)]; exact hR, by rw [vX, if_neg (by rw [he]; decide)]; exact .inl ⟨rfl, rfl⟩, ⟨Nat.le_refl _, fun _ _ _ => rfl⟩, SB.refl _⟩
        rw [he]
        refine Runs.of' f30 rfl ?_
        refine Wp.seq ?_
        refine Wp.region ?_
        refine Wo.pre 8 (by kernel_rfl) ?_
        refine Wo.nil ?_
        refine Wp.seq ?_
        refine Wp.seq ?_
        refine Wp.region ?_
        refine Wo.pre 8 (by kernel_rfl) ?_
        refine Wo.pre 8 (by kernel_rfl) ?_
        refine Wo.nil ?_
        refine Wp.cond false (by kernel_rfl) ?_
        refine Wp.skip ?_
        refine Wp.seq ?_
        refine Wp.seq ?_
        refine Wp.region ?_
        refine Wo.pre 3 (by kernel_rfl) ?_
        refine Wo.val w h (by kernel_rfl) (iop_ld (a := ⟨b, 0, 0⟩) (by kernel_rfl) l0) ?_
        refine Wo.val (.int .i64 l.length) h (by kernel_rfl) (hw.len (by kernel_rfl)) ?_
        refine Wo.pre 8 (by kernel_rfl) ?_
        refine Wo.nil ?_
        refine Wp.cond (decide ((l.length : Int) < 2)) (by kernel_rfl) ?_
        rw [if_pos (by simp; omega)]
        refine Wp.seq ?_
        refine Wp.region ?_
        refine Wo.pre 8 (by kernel_rfl) ?_
        refine Wo.nil ?_
        exact Wp.ret ⟨.inr rfl, rfl, (by kernel_rfl)⟩
      · have h1' : ¬ (l.length : Int) < ((2 : Nat) : Int) := by omega
        obtain ⟨a, c, rfl⟩ : ∃ a c, w = .sl a l.length c := by
          rcases hw with ⟨_, rfl⟩ | ⟨a, c, e, _⟩
          · exfalso; simp at h1
          · exact ⟨a, c, e⟩
        have hlt := be_lt (l.take 2)
        rw [List.length_take, Nat.min_eq_left (by omega)] at hlt
        obtain ⟨n, hn⟩ : ∃ n, n = be (l.take 2) := ⟨_, rfl⟩
        rw [← hn] at hlt
        have hn24 : n < 2 ^ 24 := by omega
        have hmx : maxRow < 2 ^ 62 := by decide
        have w1 : IntKind.i64.wrap ((l.length : Int) - 2) = (l.length : Int) - 2 := i64_fit _ (by omega)
        have w2 : IntKind.i64.wrap (2 + (n : Int)) = ((2 + n : Nat) : Int) := by rw [i64_fit _ (by omega)]; omega
        by_cases h2 : l.length < 2 + n
        · have he : vE l ((2 : Nat) : Int) = 4 := by
            have h2' : l.length < ((2 : Nat) : Int).toNat + be (l.take ((2 : Nat) : Int).toNat) := by rw [Int.toNat_natCast, ← hn]; exact h2
            simp only [vE, hs, and_self, h1', not_true, if_false, h2', if_true]
          refine ⟨h, .nils, .sl a l.length c, ?_, by rw [vL, if_neg (by rw [he]; decide)]; exact hR, by rw [vX, if_neg (by rw [he]; decide)]; exact .inl ⟨rfl, rfl⟩, ⟨Nat.le_refl _, fun _ _ _ => rfl⟩, SB.refl _⟩
          rw [he]
          refine Runs.of' f30 rfl ?_
          refine Wp.seq ?_
          refine Wp.region ?_
          refine Wo.pre 8 (by kernel_rfl) ?_
          refine Wo.nil ?_
          refine Wp.seq ?_
          refine Wp.seq ?_
          refine Wp.region ?_
          refine Wo.pre 8 (by kernel_rfl) ?_
          refine Wo.pre 8 (by kernel_rfl) ?_
          refine Wo.nil ?_
          refine Wp.cond false (by kernel_rfl) ?_
          refine Wp.skip ?_
          refine Wp.seq ?_
          refine Wp.seq ?_
          refine Wp.region ?_
          refine Wo.pre 3 (by kernel_rfl) ?_
          refine Wo.val (.sl a l.length c) h (by kernel_rfl) (iop_ld (a := ⟨b, 0, 0⟩) (by kernel_rfl) l0) ?_
          refine Wo.pre 8 (by kernel_rfl) ?_
          refine Wo.nil ?_
          refine Wp.cond (decide ((l.length : Int) < 2)) (by kernel_rfl) ?_
          rw [if_neg (by simp; omega)]
          refine Wp.skip ?_
          refine Wp.seq ?_
          refine Wp.region ?_
          refine Wo.pre 8 (by kernel_rfl) ?_
          refine Wo.nil ?_
          refine Wp.seq ?_
          refine Wp.seq ?_
          refine Wp.region ?_
          refine Wo.pre 8 (by kernel_rfl) ?_
          refine Wo.nil ?_
          refine Wp.block ?_
          refine rrvec_loop l0 hw (size := 2) (by omega) (by omega) 2 0 (by omega) _ (by kernel_rfl) (by kernel_rfl) (by kernel_rfl) (by kernel_rfl) (by kernel_rfl) _ ?_
          intro ts' g0 g1 g2
          have e0 : getL ts' 0 = some (.ptr ⟨b, 0, 0⟩) := (g1 0 (by omega)).trans (by kernel_rfl)
          have e1 : getL ts' 1 = some (.int .i64 ((2 : Nat) : Int)) := (g1 1 (by omega)).trans (by kernel_rfl)
          rw [← hn] at g2
          rw [laid_eq g0 [(0, .ptr ⟨b, 0, 0⟩), (1, .int .i64 2), (6, .int .i64 n)] (by simp [e0, e1, g2])]
          refine Wp.seq ?_
          refine Wp.seq ?_
          refine Wp.region ?_
          refine Wo.pre 3 (by kernel_rfl) ?_
          refine Wo.val (.sl a l.length c) h (by kernel_rfl) (iop_ld (a := ⟨b, 0, 0⟩) (by kernel_rfl) l0) ?_
          refine Wo.pre 8 (by kernel_rfl) ?_
          refine Wo.nil ?_
          refine Wp.cond (decide (IntKind.i64.wrap ((l.length : Int) - 2) < (n : Int))) (by kernel_rfl) ?_
          rw [w1, if_pos (by simp; omega)]
          refine Wp.seq ?_
          refine Wp.region ?_
          refine Wo.pre 8 (by kernel_rfl) ?_
          refine Wo.nil ?_
          exact Wp.ret ⟨.inr rfl, rfl, (by kernel_rfl)⟩
        · have he : vE l ((2 : Nat) : Int) = 0 := by
            have h2' : ¬ l.length < ((2 : Nat) : Int).toNat + be (l.take ((2 : Nat) : Int).toNat) := by rw [Int.toNat_natCast, ← hn]; exact h2
            simp only [vE, hs, and_self, h1', not_true, if_false, h2']
          obtain ⟨q, t1, t2, t3⟩ := hw.sub hR.2.2.2.1 (i := 2) (j := 2 + n) (by omega) (by omega)
          obtain ⟨x, h1b, c1, c2, c3⟩ := own_run t2 (by rw [List.length_drop, List.length_take]; omega)
          have hR1 : RRd h1b b (.sl a l.length c) l := ⟨Nat.lt_of_lt_of_le hR.1 c2.1, by rw [c2.2 _ hR.1]; exact hR.2.1, hw.ext c2, hR.2.2.2⟩
          have l1 := hR1.ld
          obtain ⟨v', d1, d2, d3, d4, d5⟩ := hR1.2.2.1.drop hR.2.2.2.1 (n := 2 + n) (by omega)
          obtain ⟨h', s1, s2, s3⟩ := hR1.st d2 (fun a n c e => (d3 a n c e).2) (fun a n c e => by obtain ⟨⟨a0, m0, c0, q1, q2⟩, _⟩ := d3 a n c e; rw [← q2]; exact hR.2.2.2.2 _ _ _ q1)
          have t1' : ∀ (x y z : IX) (ρ : IX → AV), ρ x = .sl a l.length c → ρ y = .int .i64 2 → ρ z = .int .i64 (IntKind.i64.wrap (2 + (n : Int))) → iop (.slL 1 x (some y) (some z) none) ρ h = some (.val q h) := fun x y z ρ hx hy hz => t1 x y z ρ hx hy (by rw [hz, w2])
          have d1' : ∀ (x y : IX) (ρ : IX → AV), ρ x = .sl a l.length c → ρ y = .int .i64 (IntKind.i64.wrap (2 + (n : Int))) → iop (.slL 1 x (some y) none none) ρ h1b = some (.val v' h1b) := fun x y ρ hx hy => d1 x y ρ hx (by rw [hy, w2])
          refine ⟨h', x, v', ?_, by rw [vL, if_pos he, vN, Int.toNat_natCast, ← hn]; exact s2, ?_, ⟨Nat.le_trans c2.1 s3.1, fun k hk hkb => by rw [s3.2 k (Nat.lt_of_lt_of_le hk c2.1) hkb, c2.2 k hk]⟩, fun a n c e => (d3 a n c e).1⟩
          · rw [he]
            refine Runs.of' f30 rfl ?_
            refine Wp.seq ?_
            refine Wp.region ?_
            refine Wo.pre 8 (by kernel_rfl) ?_
            refine Wo.nil ?_
            refine Wp.seq ?_
            refine Wp.seq ?_
            refine Wp.region ?_
            refine Wo.pre 8 (by kernel_rfl) ?_
            refine Wo.pre 8 (by kernel_rfl) ?_
            refine Wo.nil ?_
            refine Wp.cond false (by kernel_rfl) ?_
            refine Wp.skip ?_
            refine Wp.seq ?_
            refine Wp.seq ?_
            refine Wp.region ?_
            refine Wo.pre 3 (by kernel_rfl) ?_
            refine Wo.val (.sl a l.length c) h (by kernel_rfl) (iop_ld (a := ⟨b, 0, 0⟩) (by kernel_rfl) l0) ?_
            refine Wo.pre 8 (by kernel_rfl) ?_
            refine Wo.nil ?_
            refine Wp.cond (decide ((l.length : Int) < 2)) (by kernel_rfl) ?_
            rw [if_neg (by simp; omega)]
            refine Wp.skip ?_
            refine Wp.seq ?_
            refine Wp.region ?_
            refine Wo.pre 8 (by kernel_rfl) ?_
            refine Wo.nil ?_
            refine Wp.seq ?_
            refine Wp.seq ?_
            refine Wp.region ?_
            refine Wo.pre 8 (by kernel_rfl) ?_
            refine Wo.nil ?_
            refine Wp.block ?_
            refine rrvec_loop l0 hw (size := 2) (by omega) (by omega) 2 0 (by omega) _ (by kernel_rfl) (by kernel_rfl) (by kernel_rfl) (by kernel_rfl) (by kernel_rfl) _ ?_
            intro ts' g0 g1 g2
            have e0 : getL ts' 0 = some (.ptr ⟨b, 0, 0⟩) := (g1 0 (by omega)).trans (by kernel_rfl)
            have e1 : getL ts' 1 = some (.int .i64 ((2 : Nat) : Int)) := (g1 1 (by omega)).trans (by kernel_rfl)
            rw [← hn] at g2
            rw [laid_eq g0 [(0, .ptr ⟨b, 0, 0⟩), (1, .int .i64 2), (6, .int .i64 n)] (by simp [e0, e1, g2])]
            refine Wp.seq ?_
            refine Wp.seq ?_
            refine Wp.region ?_
            refine Wo.pre 3 (by kernel_rfl) ?_
            refine Wo.val (.sl a l.length c) h (by kernel_rfl) (iop_ld (a := ⟨b, 0, 0⟩) (by kernel_rfl) l0) ?_
            refine Wo.pre 8 (by kernel_rfl) ?_
            refine Wo.nil ?_
            refine Wp.cond (decide (IntKind.i64.wrap ((l.length : Int) - 2) < (n : Int))) (by kernel_rfl) ?_
            rw [w1, if_neg (by simp; omega)]
            refine Wp.skip ?_
            refine Wp.seq ?_
            refine Wp.region ?_
            refine Wo.pre 3 (by kernel_rfl) ?_
            refine Wo.val (.sl a l.length c) h (by kernel_rfl) (iop_ld (a := ⟨b, 0, 0⟩) (by kernel_rfl) l0) ?_
            refine Wo.pre 3 (by kernel_rfl) ?_
            refine Wo.pre 1 (by kernel_rfl) ?_
            refine Wo.val q h (by kernel_rfl) (t1' _ _ _ _ (by kernel_rfl) (by kernel_rfl) (by kernel_rfl)) ?_
            refine Wo.call (by kernel_rfl) (by kernel_rfl) (c1) ?_
            refine Wo.pre 8 (by kernel_rfl) ?_
            refine Wo.nil ?_
            refine Wp.seq ?_
            refine Wp.region ?_
            refine Wo.pre 3 (by kernel_rfl) ?_
            refine Wo.pre 1 (by kernel_rfl) ?_
            refine Wo.val (.sl a l.length c) h1b (by kernel_rfl) (iop_ld (a := ⟨b, 0, 0⟩) (by kernel_rfl) l1) ?_
            refine Wo.pre 3 (by kernel_rfl) ?_
            refine Wo.val v' h1b (by kernel_rfl) (d1' _ _ _ (by kernel_rfl) (by kernel_rfl)) ?_
            refine Wo.pre 1 (by kernel_rfl) ?_
            refine Wo.pre 1 (by kernel_rfl) ?_
            refine Wo.val .undef h' (by kernel_rfl) (iop_st1 (a := ⟨b, 0, 0⟩) (v := v') (by kernel_rfl) (by kernel_rfl) d4 s1) ?_
            refine Wo.nil ?_
            refine Wp.seq ?_
            refine Wp.region ?_
            refine Wo.pre 8 (by kernel_rfl) ?_
            refine Wo.nil ?_
            exact Wp.ret ⟨.inr rfl, rfl, (by kernel_rfl)⟩
          · have e : (l.take (2 + n)).drop 2 = (l.drop 2).take n := by rw [List.drop_take]; congr 1; omega
            rw [vX, if_pos he, Int.toNat_natCast, ← hn, ← e]
            rcases c3 with h0 | ⟨b', g, w1, w2, w3, w4⟩
            · exact .inl h0
            · exact .inr ⟨b', g, w1, Nat.lt_of_lt_of_le w2 s3.1, by rw [s3.2 _ w2 (by have := hR.1; omega)]; exact w3, w4⟩
    · skip
      by_cases h1 : l.length < 3
      · have h1' : (l.length : Int) < ((3 : Nat) : Int) := by omega
        have he : vE l ((3 : Nat) : Int) = 4 := by simp only [vE, hs, and_self, h1', not_true, if_false, if_true]
        refine ⟨h, .nils, w, ?_, by rw [vL, if_neg (by rw [he]; decide)]; exact hR, by rw [vX, if_neg (by rw [he]; decide)]; exact .inl ⟨rfl, rfl⟩, ⟨Nat.le_refl _, fun _ _ _ => rfl⟩, SB.refl _⟩
        rw [he]
        refine Runs.of' f30 rfl ?_
        refine Wp.seq ?_
        refine Wp.region ?_
        refine Wo.pre 8 (by kernel_rfl) ?_
        refine Wo.nil ?_
        refine Wp.seq ?_
        refine Wp.seq ?_
        refine Wp.region ?_
        refine Wo.pre 8 (by kernel_rfl) ?_
        refine Wo.pre 8 (by kernel_rfl) ?_
        refine Wo.nil ?_
        refine Wp.cond false (by kernel_rfl) ?_
        refine Wp.skip ?_
        refine Wp.seq ?_
        refine Wp.seq ?_
        refine Wp.region ?_
        refine Wo.pre 3 (by kernel_rfl) ?_
        refine Wo.val w h (by kernel_rfl) (iop_ld (a := ⟨b, 0, 0⟩) (by kernel_rfl) l0) ?_
        refine Wo.val (.int .i64 l.length) h (by kernel_rfl) (hw.len (by kernel_rfl)) ?_
        refine Wo.pre 8 (by kernel_rfl) ?_
        refine Wo.nil ?_
        refine Wp.cond (decide ((l.length : Int) < 3)) (by kernel_rfl) ?_
        rw [if_pos (by simp; omega)]
        refine Wp.seq ?_
        refine Wp.region ?_
        refine Wo.pre 8 (by kernel_rfl) ?_
        refine Wo.nil ?_
        exact Wp.ret ⟨.inr rfl, rfl, (by kernel_rfl)⟩
      · have h1' : ¬ (l.length : Int) < ((3 : Nat) : Int) := by omega
        obtain ⟨a, c, rfl⟩ : ∃ a c, w = .sl a l.length c := by
          rcases hw with ⟨_, rfl⟩ | ⟨a, c, e, _⟩
          · exfalso; simp at h1
          · exact ⟨a, c, e⟩
        have hlt := be_lt (l.take 3)
        rw [List.length_take, Nat.min_eq_left (by omega)] at hlt
        obtain ⟨n, hn⟩ : ∃ n, n = be (l.take 3) := ⟨_, rfl⟩
        rw [← hn] at hlt
        have hn24 : n < 2 ^ 24 := by omega
        have hmx : maxRow < 2 ^ 62 := by decide
        have w1 : IntKind.i64.wrap ((l.length : Int) - 3) = (l.length : Int) - 3 := i64_fit _ (by omega)
        have w2 : IntKind.i64.wrap (3 + (n : Int)) = ((3 + n : Nat) : Int) := by rw [i64_fit _ (by omega)]; omega
        by_cases h2 : l.length < 3 + n
        · have he : vE l ((3 : Nat) : Int) = 4 := by
            have h2' : l.length < ((3 : Nat) : Int).toNat + be (l.take ((3 : Nat) : Int).toNat) := by rw [Int.toNat_natCast, ← hn]; exact h2
            simp only [vE, hs, and_self, h1', not_true, if_false, h2', if_true]
          refine ⟨h, .nils, .sl a l.length c, ?_, by rw [vL, if_neg (by rw [he]; decide)]; exact hR, by rw [vX, if_neg (by rw [he]; decide)]; exact .inl ⟨rfl, rfl⟩, ⟨Nat.le_refl _, fun _ _ _ => rfl⟩, SB.refl _⟩
          rw [he]
          refine Runs.of' f30 rfl ?_
          refine Wp.seq ?_
          refine Wp.region ?_
          refine Wo.pre 8 (by kernel_rfl) ?_
          refine Wo.nil ?_
          refine Wp.seq ?_
          refine Wp.seq ?_
          refine Wp.region ?_
          refine Wo.pre 8 (by kernel_rfl) ?_
          refine Wo.pre 8 (by kernel_rfl) ?_
          refine Wo.nil ?_
          refine Wp.cond false (by kernel_rfl) ?_
          refine Wp.skip ?_
          refine Wp.seq ?_
          refine Wp.seq ?_
          refine Wp.region ?_
          refine Wo.pre 3 (by kernel_rfl) ?_
          refine Wo.val (.sl a l.length c) h (by kernel_rfl) (iop_ld (a := ⟨b, 0, 0⟩) (by kernel_rfl) l0) ?_
          refine Wo.pre 8 (by kernel_rfl) ?_
          refine Wo.nil ?_
          refine Wp.cond (decide ((l.length : Int) < 3)) (by kernel_rfl) ?_
          rw [if_neg (by simp; omega)]
          refine Wp.skip ?_
          refine Wp.seq ?_
          refine Wp.region ?_
          refine Wo.pre 8 (by kernel_rfl) ?_
          refine Wo.nil ?_
          refine Wp.seq ?_
          refine Wp.seq ?_
          refine Wp.region ?_
          refine Wo.pre 8 (by kernel_rfl) ?_
          refine Wo.nil ?_
          refine Wp.block ?_
          refine rrvec_loop l0 hw (size := 3) (by omega) (by omega) 3 0 (by omega) _ (by kernel_rfl) (by kernel_rfl) (by kernel_rfl) (by kernel_rfl) (by kernel_rfl) _ ?_
          intro ts' g0 g1 g2
          have e0 : getL ts' 0 = some (.ptr ⟨b, 0, 0⟩) := (g1 0 (by omega)).trans (by kernel_rfl)
          have e1 : getL ts' 1 = some (.int .i64 ((3 : Nat) : Int)) := (g1 1 (by omega)).trans (by kernel_rfl)
          rw [← hn] at g2
          rw [laid_eq g0 [(0, .ptr ⟨b, 0, 0⟩), (1, .int .i64 3), (6, .int .i64 n)] (by simp [e0, e1, g2])]
          refine Wp.seq ?_
          refine Wp.seq ?_
          refine Wp.region ?_
          refine Wo.pre 3 (by kernel_rfl) ?_
          refine Wo.val (.sl a l.length c) h (by kernel_rfl) (iop_ld (a := ⟨b, 0, 0⟩) (by kernel_rfl) l0) ?_
          refine Wo.pre 8 (by kernel_rfl) ?_
          refine Wo.nil ?_
          refine Wp.cond (decide (IntKind.i64.wrap ((l.length : Int) - 3) < (n : Int))) (by kernel_rfl) ?_
          rw [w1, if_pos (by simp; omega)]
          refine Wp.seq ?_
          refine Wp.region ?_
          refine Wo.pre 8 (by kernel_rfl) ?_
          refine Wo.nil ?_
          exact Wp.ret ⟨.inr rfl, rfl, (by kernel_rfl)⟩
        · have he : vE l ((3 : Nat) : Int) = 0 := by
            have h2' : ¬ l.length < ((3 : Nat) : Int).toNat + be (l.take ((3 : Nat) : Int).toNat) := by rw [Int.toNat_natCast, ← hn]; exact h2
            simp only [vE, hs, and_self, h1', not_true, if_false, h2']
          obtain ⟨q, t1, t2, t3⟩ := hw.sub hR.2.2.2.1 (i := 3) (j := 3 + n) (by omega) (by omega)
          obtain ⟨x, h1b, c1, c2, c3⟩ := own_run t2 (by rw [List.length_drop, List.length_take]; omega)
          have hR1 : RRd h1b b (.sl a l.length c) l := ⟨Nat.lt_of_lt_of_le hR.1 c2.1, by rw [c2.2 _ hR.1]; exact hR.2.1, hw.ext c2, hR.2.2.2⟩
          have l1 := hR1.ld
          obtain ⟨v', d1, d2, d3, d4, d5⟩ := hR1.2.2.1.drop hR.2.2.2.1 (n := 3 + n) (by omega)
          obtain ⟨h', s1, s2, s3⟩ := hR1.st d2 (fun a n c e => (d3 a n c e).2) (fun a n c e => by obtain ⟨⟨a0, m0, c0, q1, q2⟩, _⟩ := d3 a n c e; rw [← q2]; exact hR.2.2.2.2 _ _ _ q1)
          have t1' : ∀ (x y z : IX) (ρ : IX → AV), ρ x = .sl a l.length c → ρ y = .int .i64 3 → ρ z = .int .i64 (IntKind.i64.wrap (3 + (n : Int))) → iop (.slL 1 x (some y) (some z) none) ρ h = some (.val q h) := fun x y z ρ hx hy hz => t1 x y z ρ hx hy (by rw [hz, w2])
          have d1' : ∀ (x y : IX) (ρ : IX → AV), ρ x = .sl a l.length c → ρ y = .int .i64 (IntKind.i64.wrap (3 + (n : Int))) → iop (.slL 1 x (some y) none none) ρ h1b = some (.val v' h1b) := fun x y ρ hx hy => d1 x y ρ hx (by rw [hy, w2])
          refine ⟨h', x, v', ?_, by rw [vL, if_pos he, vN, Int.toNat_natCast, ← hn]; exact s2, ?_, ⟨Nat.le_trans c2.1 s3.1, fun k hk hkb => by rw [s3.2 k (Nat.lt_of_lt_of_le hk c2.1) hkb, c2.2 k hk]⟩, fun a n c e => (d3 a n c e).1⟩
          · rw [he]
            refine Runs.of' f30 rfl ?_
            refine Wp.seq ?_
            refine Wp.region ?_
            refine Wo.pre 8 (by kernel_rfl) ?_
            refine Wo.nil ?_
            refine Wp.seq ?_
            refine Wp.seq ?_
            refine Wp.region ?_
            refine Wo.pre 8 (by kernel_rfl) ?_
            refine Wo.pre 8 (by kernel_rfl) ?_
            refine Wo.nil ?_
            refine Wp.cond false (by kernel_rfl) ?_
            refine Wp.skip ?_
            refine Wp.seq ?_
            refine Wp.seq ?_
            refine Wp.region ?_
            refine Wo.pre 3 (by kernel_rfl) ?_
            refine Wo.val (.sl a l.length c) h (by kernel_rfl) (iop_ld (a := ⟨b, 0, 0⟩) (by kernel_rfl) l0) ?_
            refine Wo.pre 8 (by kernel_rfl) ?_
            refine Wo.nil ?_
            refine Wp.cond (decide ((l.length : Int) < 3)) (by kernel_rfl) ?_
            rw [if_neg (by simp; omega)]
            refine Wp.skip ?_
            refine Wp.seq ?_
            refine Wp.region ?_
            refine Wo.pre 8 (by kernel_rfl) ?_
            refine Wo.nil ?_
            refine Wp.seq ?_
            refine Wp.seq ?_
            refine Wp.region ?_
            refine Wo.pre 8 (by kernel_rfl) ?_
            refine Wo.nil ?_
            refine Wp.block ?_
            refine rrvec_loop l0 hw (size := 3) (by omega) (by omega) 3 0 (by omega) _ (by kernel_rfl) (by kernel_rfl) (by kernel_rfl) (by kernel_rfl) (by kernel_rfl) _ ?_
            intro ts' g0 g1 g2
            have e0 : getL ts' 0 = some (.ptr ⟨b, 0, 0⟩) := (g1 0 (by omega)).trans (by kernel_rfl)
            have e1 : getL ts' 1 = some (.int .i64 ((3 : Nat) : Int)) := (g1 1 (by omega)).trans (by kernel_rfl)
            rw [← hn] at g2
            rw [laid_eq g0 [(0, .ptr ⟨b, 0, 0⟩), (1, .int .i64 3), (6, .int .i64 n)] (by simp [e0, e1, g2])]
            refine Wp.seq ?_
            refine Wp.seq ?_
            refine Wp.region ?_
            refine Wo.pre 3 (by kernel_rfl) ?_
            refine Wo.val (.sl a l.length c) h (by kernel_rfl) (iop_ld (a := ⟨b, 0, 0⟩) (by kernel_rfl) l0) ?_
            refine Wo.pre 8 (by kernel_rfl) ?_
            refine Wo.nil ?_
            refine Wp.cond (decide (IntKind.i64.wrap ((l.length : Int) - 3) < (n : Int))) (by kernel_rfl) ?_
            rw [w1, if_neg (by simp; omega)]
            refine Wp.skip ?_
            refine Wp.seq ?_
            refine Wp.region ?_
            refine Wo.pre 3 (by kernel_rfl) ?_
            refine Wo.val (.sl a l.length c) h (by kernel_rfl) (iop_ld (a := ⟨b, 0, 0⟩) (by kernel_rfl) l0) ?_
            refine Wo.pre 3 (by kernel_rfl) ?_
            refine Wo.pre 1 (by kernel_rfl) ?_
            refine Wo.val q h (by kernel_rfl) (t1' _ _ _ _ (by kernel_rfl) (by kernel_rfl) (by kernel_rfl)) ?_
            refine Wo.call (by kernel_rfl) (by kernel_rfl) (c1) ?_
            refine Wo.pre 8 (by kernel_rfl) ?_
            refine Wo.nil ?_
            refine Wp.seq ?_
            refine Wp.region ?_
            refine Wo.pre 3 (by kernel_rfl) ?_
            refine Wo.pre 1 (by kernel_rfl) ?_
            refine Wo.val (.sl a l.length c) h1b (by kernel_rfl) (iop_ld (a := ⟨b, 0, 0⟩) (by kernel_rfl) l1) ?_
            refine Wo.pre 3 (by kernel_rfl) ?_
            refine Wo.val v' h1b (by kernel_rfl) (d1' _ _ _ (by kernel_rfl) (by kernel_rfl)) ?_
            refine Wo.pre 1 (by kernel_rfl) ?_
            refine Wo.pre 1 (by kernel_rfl) ?_
            refine Wo.val .undef h' (by kernel_rfl) (iop_st1 (a := ⟨b, 0, 0⟩) (v := v') (by kernel_rfl) (by kernel_rfl) d4 s1) ?_
            refine Wo.nil ?_
            refine Wp.seq ?_
            refine Wp.region ?_
            refine Wo.pre 8 (by kernel_rfl) ?_
            refine Wo.nil ?_
            exact Wp.ret ⟨.inr rfl, rfl, (by kernel_rfl)⟩
          · have e : (l.take (3 + n)).drop 3 = (l.drop 3).take n := by rw [List.drop_take]; congr 1; omega
            rw [vX, if_pos he, Int.toNat_natCast, ← hn, ← e]
            rcases c3 with h0 | ⟨b', g, w1, w2, w3, w4⟩
            · exact .inl h0
            · exact .inr ⟨b', g, w1, Nat.lt_of_lt_of_le w2 s3.1, by rw [s3.2 _ w2 (by have := hR.1; omega)]; exact w3, w4⟩
  · have he : vE l size = 1 := by simp only [vE, hs, not_false_eq_true, if_true]
    have n1 : (size != 1) = true := by simp; omega
    have n2 : (size != 2) = true := by simp; omega
    have n3 : (size != 3) = true := by simp; omega
    refine ⟨h, .nils, w, ?_, by rw [vL, if_neg (by rw [he]; decide)]; exact hR, by rw [vX, if_neg (by rw [he]; decide)]; exact .inl ⟨rfl, rfl⟩, ⟨Nat.le_refl _, fun _ _ _ => rfl⟩, SB.refl _⟩
    rw [he]
    refine Runs.of' f30 rfl ?_
    refine Wp.seq ?_
    refine Wp.region ?_
    refine Wo.pre 1 (by kernel_rfl) ?_
    refine Wo.pre 1 (by kernel_rfl) ?_
    refine Wo.nil ?_
    refine Wp.seq ?_
    refine Wp.seq ?_
    refine Wp.region ?_
    refine Wo.pre 1 (by kernel_rfl) ?_
    refine Wo.val (.bool true) h (by kernel_rfl) (iop_neB (k := .i64) (a := size) (b := 1) true (by kernel_rfl) (by kernel_rfl) n1) ?_
    refine Wo.pre 1 (by kernel_rfl) ?_
    refine Wo.pre 1 (by kernel_rfl) ?_
    refine Wo.val (.bool true) h (by kernel_rfl) (iop_neB (k := .i64) (a := size) (b := 2) true (by kernel_rfl) (by kernel_rfl) n2) ?_
    refine Wo.pre 1 (by kernel_rfl) ?_
    refine Wo.pre 1 (by kernel_rfl) ?_
    refine Wo.pre 1 (by kernel_rfl) ?_
    refine Wo.val (.bool true) h (by kernel_rfl) (iop_neB (k := .i64) (a := size) (b := 3) true (by kernel_rfl) (by kernel_rfl) n3) ?_
    refine Wo.pre 1 (by kernel_rfl) ?_
    refine Wo.nil ?_
    refine Wp.cond true (by kernel_rfl) ?_
    refine Wp.seq ?_
    refine Wp.region ?_
    refine Wo.pre 1 (by kernel_rfl) ?_
    refine Wo.pre 1 (by kernel_rfl) ?_
    refine Wo.nil ?_
    exact Wp.ret ⟨.inr rfl, rfl, (by kernel_rfl)⟩
end Go.Det
