/- Names of bundles, read. -/
import Derived.Test.YthahfhdibhgboaaName
set_option linter.unusedVariables false
set_option linter.unusedSimpArgs false
set_option linter.unusedSectionVars false
namespace Go.Det
open Go.Proofs
attribute [local irreducible] Wp Wo Wd iop ev slots quiets wanted put

def nameF : List UInt8 := [98, 45, 48, 48, 48, 48, 48, 48, 45, 48, 48]
def val (l : List UInt8) : Nat := l.foldl (fun a c => 10 * a + (c.toNat - 48)) 0
theorem val_snoc (l : List UInt8) (c : UInt8) : val (l ++ [c]) = 10 * val l + (c.toNat - 48) := by simp [val]
def dgs (s : List UInt8) (i : Nat) : List UInt8 := (s.take (min i 8)).drop 2 ++ (s.take i).drop 9
def okAt (s : List UInt8) (p : Nat) : Prop := ∃ c f, s[p]? = some c ∧ nameF[p]? = some f ∧ if f = 48 then 48 ≤ c.toNat ∧ c.toNat ≤ 57 else c = f

theorem len11 {s : List UInt8} (h : s.length = 11) : ∃ c0 c1 c2 c3 c4 c5 c6 c7 c8 c9 c10, s = [c0, c1, c2, c3, c4, c5, c6, c7, c8, c9, c10] := by
  match s, h with
  | [c0, c1, c2, c3, c4, c5, c6, c7, c8, c9, c10], _ => exact ⟨c0, c1, c2, c3, c4, c5, c6, c7, c8, c9, c10, rfl⟩

theorem dgs_step {s : List UInt8} (h : s.length = 11) {i : Nat} (hi : i < 11) {c f : UInt8} (hc : s[i]? = some c) (hf : nameF[i]? = some f) : dgs s (i + 1) = if f = 48 then dgs s i ++ [c] else dgs s i := by
  obtain ⟨c0, c1, c2, c3, c4, c5, c6, c7, c8, c9, c10, rfl⟩ := len11 h
  have : i = 0 ∨ i = 1 ∨ i = 2 ∨ i = 3 ∨ i = 4 ∨ i = 5 ∨ i = 6 ∨ i = 7 ∨ i = 8 ∨ i = 9 ∨ i = 10 := by omega
  rcases this with rfl | rfl | rfl | rfl | rfl | rfl | rfl | rfl | rfl | rfl | rfl <;>
    (simp only [nameF, List.getElem?_cons_zero, List.getElem?_cons_succ, Option.some.injEq] at hc hf; subst hc; subst hf; simp [dgs])

theorem dec_F {i : Nat} (hi : i < 11) : ∃ f r, nameF[i]? = some f ∧ Utf8.decode ⟨nameF.toArray⟩ i = (r, 1) := by
  have : i = 0 ∨ i = 1 ∨ i = 2 ∨ i = 3 ∨ i = 4 ∨ i = 5 ∨ i = 6 ∨ i = 7 ∨ i = 8 ∨ i = 9 ∨ i = 10 := by omega
  have h2 : (Utf8.decode ⟨nameF.toArray⟩ i).2 = 1 := by
    rcases this with rfl | rfl | rfl | rfl | rfl | rfl | rfl | rfl | rfl | rfl | rfl <;> kernel_rfl
  exact ⟨nameF[i]'(by simp [nameF]; omega), (Utf8.decode ⟨nameF.toArray⟩ i).1, List.getElem?_eq_getElem _, Prod.ext rfl h2⟩

theorem iop_ixS {x y : IX} {ρ : IX → AV} {h : H} {s : List UInt8} {i : Nat} {c : UInt8} (hx : ρ x = .str s) (hy : ρ y = .int .i64 i) (hc : s[i]? = some c) : iop (.ixS x y) ρ h = some (.val (.int .u8 c.toNat) h) := by
  have hg : getL s i = some c := by rw [getL_eq]; exact hc
  simp [iop, hx, hy, asI, hg]

set_option maxHeartbeats 2000000 in
theorem parse_loop {s : List UInt8} (hs : s.length = 11) {blk : Nat} :
    ∀ (k i : Nat), i + k = 11 → ∀ (h : H) (ts : List AV), ts.length = 52 → getL ts 0 = some (.str s) → getL ts 5 = some (.int .u64 (val (dgs s i))) → getL ts 13 = some (.ptr ⟨blk, 0, 0⟩) → h.get blk = some (.iter nameF i) → (∀ p, p < i → okAt s p) → val (dgs s i) < 10 ^ i →
      ∀ (Q : Ex → St → Prop), (∀ p, p < 11 → ¬ okAt s p → ∀ ts' h', ts'.length = 52 → h'.n = h.n → (∀ b, b ≠ blk → h'.get b = h.get b) → getL ts' 2 = some (.int .u64 0) → getL ts' 3 = some (.int .i64 0) → getL ts' 4 = some (.int .i64 5) → Q .ret (ts', h')) →
        ((∀ p, p < 11 → okAt s p) → val (dgs s 11) < 10 ^ 11 → ∀ ts' h', ts'.length = 52 → h'.n = h.n → (∀ b, b ≠ blk → h'.get b = h.get b) → getL ts' 5 = some (.int .u64 (val (dgs s 11))) → Q (.exit 0) (ts', h')) → Wp TF (.loop l60_1) (ts, h) Q := by
  intro k
  induction k with
  | zero =>
    intro i hi h ts t0 ta t5 t13 hg hok hv Q hbad hgood
    obtain rfl : i = 11 := by omega
    refine Wp.loop ?_
    rw [laid_eq t0 [(0, .str s), (5, .int .u64 (val (dgs s 11))), (13, .ptr ⟨blk, 0, 0⟩)] (by simp [ta, t5, t13])]
    have en : ∀ {x : IX} {ρ : IX → AV}, ρ x = .ptr ⟨blk, 0, 0⟩ → iop (.next x) ρ h = some (.val (.tup [.bool false]) h) := by
      intro x ρ hx
      have hl : ¬ (11 < nameF.length) := by decide
      simp [iop, hx, hg, hl]
    unfold l60_1
    refine Wp.seq ?_
    refine Wp.region ?_
    refine Wo.val _ h (by kernel_rfl) (en (by kernel_rfl)) ?_
    refine Wo.pre 8 (by kernel_rfl) ?_
    refine Wo.nil ?_
    refine Wp.seq ?_
    refine Wp.cond false (by kernel_rfl) ?_
    exact Wp.exit (hgood hok hv _ _ (by kernel_rfl) rfl (fun _ _ => rfl) (by kernel_rfl))
  | succ k ih =>
    intro i hi h ts t0 ta t5 t13 hg hok hv Q hbad hgood
    have hlt : i < 11 := by omega
    obtain ⟨f, r, hf, hdec⟩ := dec_F hlt
    obtain ⟨c, hc⟩ : ∃ c, s[i]? = some c := ⟨s[i]'(by omega), List.getElem?_eq_getElem (by omega)⟩
    have hstep := dgs_step hs hlt hc hf
    obtain ⟨h1, hh1⟩ : ∃ h1, h1 = h.set blk (.iter nameF (i + 1)) := ⟨_, rfl⟩
    have hg1 : h1.get blk = some (.iter nameF (i + 1)) := by rw [hh1, h.get_set]
    have n1 : h1.n = h.n := by rw [hh1]; rfl
    have k1 : ∀ b, b ≠ blk → h1.get b = h.get b := fun b hb => by rw [hh1]; exact h.get_set_ne _ b _ hb
    have en : ∀ {x : IX} {ρ : IX → AV}, ρ x = .ptr ⟨blk, 0, 0⟩ → iop (.next x) ρ h = some (.val (.tup [.bool true, .int .i64 i, .int .i32 r]) h1) := by
      intro x ρ hx
      have hl : i < nameF.length := by simp [nameF]; omega
      simp [iop, hx, hg, hl, hdec, hh1]
    obtain ⟨V, hV⟩ : ∃ V, V = val (dgs s i) := ⟨_, rfl⟩
    rw [← hV] at t5 hv
    have hp10 : 10 ^ (i + 1) = 10 * 10 ^ i := by rw [Nat.pow_succ, Nat.mul_comm]
    have hp11 : 10 ^ i ≤ 10 ^ 10 := Nat.pow_le_pow_right (by omega) (by omega)
    have hc8 := c.toNat_lt
    have hf8 := f.toNat_lt
    refine Wp.loop ?_
    rw [laid_eq t0 [(0, .str s), (5, .int .u64 V), (13, .ptr ⟨blk, 0, 0⟩)] (by simp [ta, t5, t13])]
    unfold l60_1
    by_cases hf48 : f = 48
    · rw [if_pos hf48] at hstep
      by_cases hd : 48 ≤ c.toNat ∧ c.toNat ≤ 57
      · have hoki : okAt s i := ⟨c, f, hc, hf, by rw [if_pos hf48]; exact hd⟩
        have w1 : IntKind.u64.wrap (10 * (V : Int)) = 10 * (V : Int) := u64_fit _ (by omega)
        have w2 : IntKind.u8.wrap ((c.toNat : Int) - 48) = (c.toNat : Int) - 48 := u8_fit _ (by omega)
        have w3 : IntKind.u64.wrap ((c.toNat : Int) - 48) = (c.toNat : Int) - 48 := u64_fit _ (by omega)
        have w4 : IntKind.u64.wrap (10 * (V : Int) + ((c.toNat : Int) - 48)) = ((val (dgs s (i + 1)) : Nat) : Int) := by
          rw [u64_fit _ (by omega), hstep, val_snoc, ← hV]; omega
        have hv1 : val (dgs s (i + 1)) < 10 ^ (i + 1) := by rw [hstep, val_snoc, ← hV, hp10]; omega
        have hfn : (f.toNat : Int) = 48 := by rw [hf48]; rfl
        refine Wp.seq ?_
        refine Wp.region ?_
        refine Wo.val _ h1 (by kernel_rfl) (en (by kernel_rfl)) ?_
        refine Wo.pre 1 (by kernel_rfl) ?_
        refine Wo.nil ?_
        refine Wp.seq ?_
        refine Wp.cond true (by kernel_rfl) ?_
        refine Wp.skip ?_
        refine Wp.block ?_
        refine Wp.seq ?_
        refine Wp.region ?_
        refine Wo.pre 1 (by kernel_rfl) ?_
        refine Wo.pre 1 (by kernel_rfl) ?_
        refine Wo.nil ?_
        refine Wp.seq ?_
        refine Wp.region ?_
        refine Wo.pre 1 (by kernel_rfl) ?_
        refine Wo.pre 1 (by kernel_rfl) ?_
        refine Wo.val (.int .u8 c.toNat) h1 (by kernel_rfl) (iop_ixS (s := s) (i := i) (by kernel_rfl) (by kernel_rfl) hc) ?_
        refine Wo.pre 1 (by kernel_rfl) ?_
        refine Wo.nil ?_
        refine Wp.seq ?_
        refine Wp.seq ?_
        refine Wp.region ?_
        refine Wo.pre 1 (by kernel_rfl) ?_
        refine Wo.val (.int .u8 f.toNat) h1 (by kernel_rfl) (iop_ixS (s := nameF) (i := i) (by kernel_rfl) (by kernel_rfl) hf) ?_
        refine Wo.val (.bool false) h1 (by kernel_rfl) (iop_cmp (op := .neq) (k := .u8) (a := f.toNat) (b := 48) false (by kernel_rfl) (by kernel_rfl) (by simp) (by simp [binInt, hfn])) ?_
        refine Wo.nil ?_
        refine Wp.cond false (by kernel_rfl) ?_
        refine Wp.skip ?_
        refine Wp.seq ?_
        refine Wp.seq ?_
        refine Wp.region ?_
        refine Wo.pre 1 (by kernel_rfl) ?_
        refine Wo.val (.bool false) h1 (by kernel_rfl) (iop_cmp (op := .lss) (k := .u8) (a := c.toNat) (b := 48) false (by kernel_rfl) (by kernel_rfl) (by simp) (by simp [binInt]; omega)) ?_
        refine Wo.pre 1 (by kernel_rfl) ?_
        refine Wo.pre 1 (by kernel_rfl) ?_
        refine Wo.val (.bool false) h1 (by kernel_rfl) (iop_cmp (op := .gtr) (k := .u8) (a := c.toNat) (b := 57) false (by kernel_rfl) (by kernel_rfl) (by simp) (by simp [binInt]; omega)) ?_
        refine Wo.pre 1 (by kernel_rfl) ?_
        refine Wo.nil ?_
        refine Wp.cond false (by kernel_rfl) ?_
        refine Wp.skip ?_
        refine Wp.region ?_
        refine Wo.pre 1 (by kernel_rfl) ?_
        refine Wo.pre 1 (by kernel_rfl) ?_
        refine Wo.pre 1 (by kernel_rfl) ?_
        refine Wo.pre 1 (by kernel_rfl) ?_
        refine Wo.pre 1 (by kernel_rfl) ?_
        refine Wo.pre 1 (by kernel_rfl) ?_
        refine Wo.pre 1 (by kernel_rfl) ?_
        refine Wo.nil ?_
        refine ih (i + 1) (by omega) h1 _ (by kernel_rfl) (by kernel_rfl) (by rw [← w4, ← w3, ← w2, ← w1]; kernel_rfl) (by kernel_rfl) hg1 (fun p hp => ?_) hv1 Q (fun p hp hn ts' h' g0 g1 g2 => hbad p hp hn ts' h' g0 (by rw [g1, n1]) (fun b hb => by rw [g2 b hb, k1 b hb])) (fun ho hv ts' h' g0 g1 g2 => hgood ho hv ts' h' g0 (by rw [g1, n1]) (fun b hb => by rw [g2 b hb, k1 b hb]))
        by_cases hpi : p = i
        · subst hpi; exact hoki
        · exact hok p (by omega)
      · have hnok : ¬ okAt s i := by
          rintro ⟨c', f', e1, e2, e3⟩
          rw [hc] at e1; rw [hf] at e2
          cases e1; cases e2
          rw [if_pos hf48] at e3
          exact hd e3
        have hfn : (f.toNat : Int) = 48 := by rw [hf48]; rfl
        by_cases hlo : c.toNat < 48
        · refine Wp.seq ?_
          refine Wp.region ?_
          refine Wo.val _ h1 (by kernel_rfl) (en (by kernel_rfl)) ?_
          refine Wo.pre 1 (by kernel_rfl) ?_
          refine Wo.nil ?_
          refine Wp.seq ?_
          refine Wp.cond true (by kernel_rfl) ?_
          refine Wp.skip ?_
          refine Wp.block ?_
          refine Wp.seq ?_
          refine Wp.region ?_
          refine Wo.pre 1 (by kernel_rfl) ?_
          refine Wo.pre 1 (by kernel_rfl) ?_
          refine Wo.nil ?_
          refine Wp.seq ?_
          refine Wp.region ?_
          refine Wo.pre 1 (by kernel_rfl) ?_
          refine Wo.pre 1 (by kernel_rfl) ?_
          refine Wo.val (.int .u8 c.toNat) h1 (by kernel_rfl) (iop_ixS (s := s) (i := i) (by kernel_rfl) (by kernel_rfl) hc) ?_
          refine Wo.pre 1 (by kernel_rfl) ?_
          refine Wo.nil ?_
          refine Wp.seq ?_
          refine Wp.seq ?_
          refine Wp.region ?_
          refine Wo.pre 1 (by kernel_rfl) ?_
          refine Wo.val (.int .u8 f.toNat) h1 (by kernel_rfl) (iop_ixS (s := nameF) (i := i) (by kernel_rfl) (by kernel_rfl) hf) ?_
          refine Wo.val (.bool false) h1 (by kernel_rfl) (iop_cmp (op := .neq) (k := .u8) (a := f.toNat) (b := 48) false (by kernel_rfl) (by kernel_rfl) (by simp) (by simp [binInt, hfn])) ?_
          refine Wo.nil ?_
          refine Wp.cond false (by kernel_rfl) ?_
          refine Wp.skip ?_
          refine Wp.seq ?_
          refine Wp.seq ?_
          refine Wp.region ?_
          refine Wo.pre 1 (by kernel_rfl) ?_
          refine Wo.val (.bool true) h1 (by kernel_rfl) (iop_cmp (op := .lss) (k := .u8) (a := c.toNat) (b := 48) true (by kernel_rfl) (by kernel_rfl) (by simp) (by simp [binInt]; omega)) ?_
          refine Wo.pre 1 (by kernel_rfl) ?_
          refine Wo.pre 1 (by kernel_rfl) ?_
          refine Wo.pre 1 (by kernel_rfl) ?_
          refine Wo.pre 1 (by kernel_rfl) ?_
          refine Wo.nil ?_
          refine Wp.cond true (by kernel_rfl) ?_
          refine Wp.seq ?_
          refine Wp.region ?_
          refine Wo.pre 1 (by kernel_rfl) ?_
          refine Wo.pre 1 (by kernel_rfl) ?_
          refine Wo.pre 1 (by kernel_rfl) ?_
          refine Wo.nil ?_
          exact Wp.ret (hbad i hlt hnok _ _ (by kernel_rfl) n1 k1 (by kernel_rfl) (by kernel_rfl) (by kernel_rfl))
        · refine Wp.seq ?_
          refine Wp.region ?_
          refine Wo.val _ h1 (by kernel_rfl) (en (by kernel_rfl)) ?_
          refine Wo.pre 1 (by kernel_rfl) ?_
          refine Wo.nil ?_
          refine Wp.seq ?_
          refine Wp.cond true (by kernel_rfl) ?_
          refine Wp.skip ?_
          refine Wp.block ?_
          refine Wp.seq ?_
          refine Wp.region ?_
          refine Wo.pre 1 (by kernel_rfl) ?_
          refine Wo.pre 1 (by kernel_rfl) ?_
          refine Wo.nil ?_
          refine Wp.seq ?_
          refine Wp.region ?_
          refine Wo.pre 1 (by kernel_rfl) ?_
          refine Wo.pre 1 (by kernel_rfl) ?_
          refine Wo.val (.int .u8 c.toNat) h1 (by kernel_rfl) (iop_ixS (s := s) (i := i) (by kernel_rfl) (by kernel_rfl) hc) ?_
          refine Wo.pre 1 (by kernel_rfl) ?_
          refine Wo.nil ?_
          refine Wp.seq ?_
          refine Wp.seq ?_
          refine Wp.region ?_
          refine Wo.pre 1 (by kernel_rfl) ?_
          refine Wo.val (.int .u8 f.toNat) h1 (by kernel_rfl) (iop_ixS (s := nameF) (i := i) (by kernel_rfl) (by kernel_rfl) hf) ?_
          refine Wo.val (.bool false) h1 (by kernel_rfl) (iop_cmp (op := .neq) (k := .u8) (a := f.toNat) (b := 48) false (by kernel_rfl) (by kernel_rfl) (by simp) (by simp [binInt, hfn])) ?_
          refine Wo.nil ?_
          refine Wp.cond false (by kernel_rfl) ?_
          refine Wp.skip ?_
          refine Wp.seq ?_
          refine Wp.seq ?_
          refine Wp.region ?_
          refine Wo.pre 1 (by kernel_rfl) ?_
          refine Wo.val (.bool false) h1 (by kernel_rfl) (iop_cmp (op := .lss) (k := .u8) (a := c.toNat) (b := 48) false (by kernel_rfl) (by kernel_rfl) (by simp) (by simp [binInt]; omega)) ?_
          refine Wo.pre 1 (by kernel_rfl) ?_
          refine Wo.pre 1 (by kernel_rfl) ?_
          refine Wo.val (.bool true) h1 (by kernel_rfl) (iop_cmp (op := .gtr) (k := .u8) (a := c.toNat) (b := 57) true (by kernel_rfl) (by kernel_rfl) (by simp) (by simp [binInt]; omega)) ?_
          refine Wo.pre 1 (by kernel_rfl) ?_
          refine Wo.nil ?_
          refine Wp.cond true (by kernel_rfl) ?_
          refine Wp.seq ?_
          refine Wp.region ?_
          refine Wo.pre 1 (by kernel_rfl) ?_
          refine Wo.pre 1 (by kernel_rfl) ?_
          refine Wo.pre 1 (by kernel_rfl) ?_
          refine Wo.nil ?_
          exact Wp.ret (hbad i hlt hnok _ _ (by kernel_rfl) n1 k1 (by kernel_rfl) (by kernel_rfl) (by kernel_rfl))
    · rw [if_neg hf48] at hstep
      have hfn : (f.toNat : Int) ≠ 48 := by
        intro e
        exact hf48 (UInt8.toNat_inj.1 (by have : f.toNat = 48 := by omega
                                          rw [this]; rfl))
      by_cases hcf : c = f
      · have hoki : okAt s i := ⟨c, f, hc, hf, by rw [if_neg hf48]; exact hcf⟩
        have hv1 : val (dgs s (i + 1)) < 10 ^ (i + 1) := by rw [hstep, ← hV, hp10]; omega
        refine Wp.seq ?_
        refine Wp.region ?_
        refine Wo.val _ h1 (by kernel_rfl) (en (by kernel_rfl)) ?_
        refine Wo.pre 1 (by kernel_rfl) ?_
        refine Wo.nil ?_
        refine Wp.seq ?_
        refine Wp.cond true (by kernel_rfl) ?_
        refine Wp.skip ?_
        refine Wp.block ?_
        refine Wp.seq ?_
        refine Wp.region ?_
        refine Wo.pre 1 (by kernel_rfl) ?_
        refine Wo.pre 1 (by kernel_rfl) ?_
        refine Wo.nil ?_
        refine Wp.seq ?_
        refine Wp.region ?_
        refine Wo.pre 1 (by kernel_rfl) ?_
        refine Wo.pre 1 (by kernel_rfl) ?_
        refine Wo.val (.int .u8 c.toNat) h1 (by kernel_rfl) (iop_ixS (s := s) (i := i) (by kernel_rfl) (by kernel_rfl) hc) ?_
        refine Wo.pre 1 (by kernel_rfl) ?_
        refine Wo.nil ?_
        refine Wp.seq ?_
        refine Wp.seq ?_
        refine Wp.region ?_
        refine Wo.pre 1 (by kernel_rfl) ?_
        refine Wo.val (.int .u8 f.toNat) h1 (by kernel_rfl) (iop_ixS (s := nameF) (i := i) (by kernel_rfl) (by kernel_rfl) hf) ?_
        refine Wo.val (.bool true) h1 (by kernel_rfl) (iop_cmp (op := .neq) (k := .u8) (a := f.toNat) (b := 48) true (by kernel_rfl) (by kernel_rfl) (by simp) (by simp [binInt, hfn])) ?_
        refine Wo.nil ?_
        refine Wp.cond true (by kernel_rfl) ?_
        refine Wp.seq ?_
        refine Wp.seq ?_
        refine Wp.region ?_
        refine Wo.pre 1 (by kernel_rfl) ?_
        refine Wo.pre 1 (by kernel_rfl) ?_
        refine Wo.val (.int .u8 f.toNat) h1 (by kernel_rfl) (iop_ixS (s := nameF) (i := i) (by kernel_rfl) (by kernel_rfl) hf) ?_
        refine Wo.val (.bool false) h1 (by kernel_rfl) (iop_cmp (op := .neq) (k := .u8) (a := c.toNat) (b := f.toNat) false (by kernel_rfl) (by kernel_rfl) (by simp) (by simp [binInt, hcf])) ?_
        refine Wo.nil ?_
        refine Wp.cond false (by kernel_rfl) ?_
        refine Wp.skip ?_
        refine Wp.exit ?_
        refine ih (i + 1) (by omega) h1 _ (by kernel_rfl) (by kernel_rfl) (by rw [hstep, ← hV]; kernel_rfl) (by kernel_rfl) hg1 (fun p hp => ?_) hv1 Q (fun p hp hn ts' h' g0 g1 g2 => hbad p hp hn ts' h' g0 (by rw [g1, n1]) (fun b hb => by rw [g2 b hb, k1 b hb])) (fun ho hv ts' h' g0 g1 g2 => hgood ho hv ts' h' g0 (by rw [g1, n1]) (fun b hb => by rw [g2 b hb, k1 b hb]))
        by_cases hpi : p = i
        · subst hpi; exact hoki
        · exact hok p (by omega)
      · have hnok : ¬ okAt s i := by
          rintro ⟨c', f', e1, e2, e3⟩
          rw [hc] at e1; rw [hf] at e2
          cases e1; cases e2
          rw [if_neg hf48] at e3
          exact hcf e3
        have hcn : (c.toNat : Int) ≠ (f.toNat : Int) := by
          intro e
          exact hcf (UInt8.toNat_inj.1 (by omega))
        refine Wp.seq ?_
        refine Wp.region ?_
        refine Wo.val _ h1 (by kernel_rfl) (en (by kernel_rfl)) ?_
        refine Wo.pre 1 (by kernel_rfl) ?_
        refine Wo.nil ?_
        refine Wp.seq ?_
        refine Wp.cond true (by kernel_rfl) ?_
        refine Wp.skip ?_
        refine Wp.block ?_
        refine Wp.seq ?_
        refine Wp.region ?_
        refine Wo.pre 1 (by kernel_rfl) ?_
        refine Wo.pre 1 (by kernel_rfl) ?_
        refine Wo.nil ?_
        refine Wp.seq ?_
        refine Wp.region ?_
        refine Wo.pre 1 (by kernel_rfl) ?_
        refine Wo.pre 1 (by kernel_rfl) ?_
        refine Wo.val (.int .u8 c.toNat) h1 (by kernel_rfl) (iop_ixS (s := s) (i := i) (by kernel_rfl) (by kernel_rfl) hc) ?_
        refine Wo.pre 1 (by kernel_rfl) ?_
        refine Wo.nil ?_
        refine Wp.seq ?_
        refine Wp.seq ?_
        refine Wp.region ?_
        refine Wo.pre 1 (by kernel_rfl) ?_
        refine Wo.val (.int .u8 f.toNat) h1 (by kernel_rfl) (iop_ixS (s := nameF) (i := i) (by kernel_rfl) (by kernel_rfl) hf) ?_
        refine Wo.val (.bool true) h1 (by kernel_rfl) (iop_cmp (op := .neq) (k := .u8) (a := f.toNat) (b := 48) true (by kernel_rfl) (by kernel_rfl) (by simp) (by simp [binInt, hfn])) ?_
        refine Wo.nil ?_
        refine Wp.cond true (by kernel_rfl) ?_
        refine Wp.seq ?_
        refine Wp.seq ?_
        refine Wp.region ?_
        refine Wo.pre 1 (by kernel_rfl) ?_
        refine Wo.pre 1 (by kernel_rfl) ?_
        refine Wo.val (.int .u8 f.toNat) h1 (by kernel_rfl) (iop_ixS (s := nameF) (i := i) (by kernel_rfl) (by kernel_rfl) hf) ?_
        refine Wo.val (.bool true) h1 (by kernel_rfl) (iop_cmp (op := .neq) (k := .u8) (a := c.toNat) (b := f.toNat) true (by kernel_rfl) (by kernel_rfl) (by simp) (by simp [binInt, hcn])) ?_
        refine Wo.nil ?_
        refine Wp.cond true (by kernel_rfl) ?_
        refine Wp.seq ?_
        refine Wp.region ?_
        refine Wo.pre 1 (by kernel_rfl) ?_
        refine Wo.pre 1 (by kernel_rfl) ?_
        refine Wo.pre 1 (by kernel_rfl) ?_
        refine Wo.nil ?_
        exact Wp.ret (hbad i hlt hnok _ _ (by kernel_rfl) n1 k1 (by kernel_rfl) (by kernel_rfl) (by kernel_rfl))
end Go.Det
