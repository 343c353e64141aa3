/- Texts of the proof, one behind the other (Parse, ParseR, NamesR, NmB, JnL, BunR, JoiR, BBkR, IRK, BKn). -/
import Derived.Test.YthahfhdibhgboaaM2BundleKnown
/- Names of bundles, read. -/
set_option linter.unusedVariables false
set_option linter.unusedSimpArgs false
set_option linter.unusedSectionVars false
namespace Go.Det
open Go.Proofs
attribute [local irreducible] Wp Wo Wd iop ev slots quiets wanted put

def nameF : List UInt8 := [98, 45, 48, 48, 48, 48, 48, 48, 45, 48, 48]
def val (l : List UInt8) : Nat := l.foldl (fun a c => 10 * a + (c.toNat - 48)) 0
theorem val_snoc (l : List UInt8) (c : UInt8) : val (l ++ [c]) = 10 * val l + (c.toNat - 48) := by simp [val]
def dgs (s : List UInt8) (i : Nat) : List UInt8 := (s.take (min i 8)).drop 2 ++ (s.take i).drop 9
def okAt (s : List UInt8) (p : Nat) : Prop := ∃ c f, s[p]? = some c ∧ nameF[p]? = some f ∧ if f = 48 then 48 ≤ c.toNat ∧ c.toNat ≤ 57 else c = f

theorem len11 {s : List UInt8} (h : s.length = 11) : ∃ c0 c1 c2 c3 c4 c5 c6 c7 c8 c9 c10, s = [c0, c1, c2, c3, c4, c5, c6, c7, c8, c9, c10] := by
  match s, h with
  | [c0, c1, c2, c3, c4, c5, c6, c7, c8, c9, c10], _ => exact ⟨c0, c1, c2, c3, c4, c5, c6, c7, c8, c9, c10, rfl⟩

theorem dgs_step {s : List UInt8} (h : s.length = 11) {i : Nat} (hi : i < 11) {c f : UInt8} (hc : s[i]? = some c) (hf : nameF[i]? = some f) : dgs s (i + 1) = if f = 48 then dgs s i ++ [c] else dgs s i := by
  obtain ⟨c0, c1, c2, c3, c4, c5, c6, c7, c8, c9, c10, rfl⟩ := len11 h
  have : i = 0 ∨ i = 1 ∨ i = 2 ∨ i = 3 ∨ i = 4 ∨ i = 5 ∨ i = 6 ∨ i = 7 ∨ i = 8 ∨ i = 9 ∨ i = 10 := by omega
  rcases this with rfl | rfl | rfl | rfl | rfl | rfl | rfl | rfl | rfl | rfl | rfl <;>
    (simp only [nameF, List.getElem?_cons_zero, List.getElem?_cons_succ, Option.some.injEq] at hc hf; subst hc; subst hf; simp [dgs])

theorem dec_F {i : Nat} (hi : i < 11) : ∃ f r, nameF[i]? = some f ∧ Utf8.decode ⟨nameF.toArray⟩ i = (r, 1) := by
  have : i = 0 ∨ i = 1 ∨ i = 2 ∨ i = 3 ∨ i = 4 ∨ i = 5 ∨ i = 6 ∨ i = 7 ∨ i = 8 ∨ i = 9 ∨ i = 10 := by omega
  have h2 : (Utf8.decode ⟨nameF.toArray⟩ i).2 = 1 := by
    rcases this with rfl | rfl | rfl | rfl | rfl | rfl | rfl | rfl | rfl | rfl | rfl <;> kernel_rfl
  exact ⟨nameF[i]'(by simp [nameF]; omega), (Utf8.decode ⟨nameF.toArray⟩ i).1, List.getElem?_eq_getElem _, Prod.ext rfl h2⟩

theorem iop_ixS {x y : IX} {ρ : IX → AV} {h : H} {s : List UInt8} {i : Nat} {c : UInt8} (hx : ρ x = .str s) (hy : ρ y = .int .i64 i) (hc : s[i]? = some c) : iop (.ixS x y) ρ h = some (.val (.int .u8 c.toNat) h) := by
  have hg : getL s i = some c := by rw [getL_eq]; exact hc
  simp [iop, hx, hy, asI, hg]

set_option maxHeartbeats 2000000 in
theorem parse_loop {s : List UInt8} (hs : s.length = 11) {blk : Nat} :
    ∀ (k i : Nat), i + k = 11 → ∀ (h : H) (ts : List AV), ts.length = 52 → getL ts 0 = some (.str s) → getL ts 5 = some (.int .u64 (val (dgs s i))) → getL ts 13 = some (.ptr ⟨blk, 0, 0⟩) → h.get blk = some (.iter nameF i) → (∀ p, p < i → okAt s p) → val (dgs s i) < 10 ^ i →
      ∀ (Q : Ex → St → Prop), (∀ p, p < 11 → ¬ okAt s p → ∀ ts' h', ts'.length = 52 → h'.n = h.n → (∀ b, b ≠ blk → h'.get b = h.get b) → getL ts' 2 = some (.int .u64 0) → getL ts' 3 = some (.int .i64 0) → getL ts' 4 = some (.int .i64 5) → Q .ret (ts', h')) →
        ((∀ p, p < 11 → okAt s p) → val (dgs s 11) < 10 ^ 11 → ∀ ts' h', ts'.length = 52 → h'.n = h.n → (∀ b, b ≠ blk → h'.get b = h.get b) → getL ts' 5 = some (.int .u64 (val (dgs s 11))) → Q (.exit 0) (ts', h')) → Wp TF (.loop l60_1) (ts, h) Q := by
  intro k
  induction k with
  | zero =>
    intro i hi h ts t0 ta t5 t13 hg hok hv Q hbad hgood
    obtain rfl : i = 11 := by omega
    refine Wp.loop ?_
    rw [laid_eq t0 [(0, .str s), (5, .int .u64 (val (dgs s 11))), (13, .ptr ⟨blk, 0, 0⟩)] (by simp [ta, t5, t13])]
    have en : ∀ {x : IX} {ρ : IX → AV}, ρ x = .ptr ⟨blk, 0, 0⟩ → iop (.next x) ρ h = some (.val (.tup [.bool false]) h) := by
      intro x ρ hx
      have hl : ¬ (11 < nameF.length) := by decide
      simp [iop, hx, hg, hl]
    unfold l60_1
    refine Wp.seq ?_
    refine Wp.region ?_
    refine Wo.val _ h (by kernel_rfl) (en (by kernel_rfl)) ?_
    refine Wo.pre 8 (by kernel_rfl) ?_
    refine Wo.nil ?_
    refine Wp.seq ?_
    refine Wp.cond false (by kernel_rfl) ?_
    exact Wp.exit (hgood hok hv _ _ (by kernel_rfl) rfl (fun _ _ => rfl) (by kernel_rfl))
  | succ k ih =>
    intro i hi h ts t0 ta t5 t13 hg hok hv Q hbad hgood
    have hlt : i < 11 := by omega
    obtain ⟨f, r, hf, hdec⟩ := dec_F hlt
    obtain ⟨c, hc⟩ : ∃ c, s[i]? = some c := ⟨s[i]'(by omega), List.getElem?_eq_getElem (by omega)⟩
    have hstep := dgs_step hs hlt hc hf
    obtain ⟨h1, hh1⟩ : ∃ h1, h1 = h.set blk (.iter nameF (i + 1)) := ⟨_, rfl⟩
    have hg1 : h1.get blk = some (.iter nameF (i + 1)) := by rw [hh1, h.get_set]
    have n1 : h1.n = h.n := by rw [hh1]; rfl
    have k1 : ∀ b, b ≠ blk → h1.get b = h.get b := fun b hb => by rw [hh1]; exact h.get_set_ne _ b _ hb
    have en : ∀ {x : IX} {ρ : IX → AV}, ρ x = .ptr ⟨blk, 0, 0⟩ → iop (.next x) ρ h = some (.val (.tup [.bool true, .int .i64 i, .int .i32 r]) h1) := by
      intro x ρ hx
      have hl : i < nameF.length := by simp [nameF]; omega
      simp [iop, hx, hg, hl, hdec, hh1]
    obtain ⟨V, hV⟩ : ∃ V, V = val (dgs s i) := ⟨_, rfl⟩
    rw [← hV] at t5 hv
    have hp10 : 10 ^ (i + 1) = 10 * 10 ^ i := by rw [Nat.pow_succ, Nat.mul_comm]
    have hp11 : 10 ^ i ≤ 10 ^ 10 := Nat.pow_le_pow_right (by omega) (by omega)
    have hc8 := c.toNat_lt
    have hf8 := f.toNat_lt
    refine Wp.loop ?_
    rw [laid_eq t0 [(0, .str s), (5, .int .u64 V), (13, .ptr ⟨blk, 0, 0⟩)] (by simp [ta, t5, t13])]
    unfold l60_1
    by_cases hf48 : f = 48
    · rw [if_pos hf48] at hstep
      by_cases hd : 48 ≤ c.toNat ∧ c.toNat ≤ 57
      · have hoki : okAt s i := ⟨c, f, hc, hf, by rw [if_pos hf48]; exact hd⟩
        have w1 : IntKind.u64.wrap (10 * (V : Int)) = 10 * (V : Int) := u64_fit _ (by omega)
        have w2 : IntKind.u8.wrap ((c.toNat : Int) - 48) = (c.toNat : Int) - 48 := u8_fit _ (by omega)
        have w3 : IntKind.u64.wrap ((c.toNat : Int) - 48) = (c.toNat : Int) - 48 := u64_fit _ (by omega)
        have w4 : IntKind.u64.wrap (10 * (V : Int) + ((c.toNat : Int) - 48)) = ((val (dgs s (i + 1)) : Nat) : Int) := by
          rw [u64_fit _ (by omega), hstep, val_snoc, ← hV]; omega
        have hv1 : val (dgs s (i + 1)) < 10 ^ (i + 1) := by rw [hstep, val_snoc, ← hV, hp10]; omega
        have hfn : (f.toNat : Int) = 48 := by rw [hf48]; rfl
        refine Wp.seq ?_
        refine Wp.region ?_
        refine Wo.val _ h1 (by kernel_rfl) (en (by kernel_rfl)) ?_
        refine Wo.pre 1 (by kernel_rfl) ?_
        refine Wo.nil ?_
        refine Wp.seq ?_
        refine Wp.cond true (by kernel_rfl) ?_
        refine Wp.skip ?_
        refine Wp.block ?_
        refine Wp.seq ?_
        refine Wp.region ?_
        refine Wo.pre 1 (by kernel_rfl) ?_
        refine Wo.pre 1 (by kernel_rfl) ?_
        refine Wo.nil ?_
        refine Wp.seq ?_
        refine Wp.region ?_
        refine Wo.pre 1 (by kernel_rfl) ?_
        refine Wo.pre 1 (by kernel_rfl) ?_
        refine Wo.val (.int .u8 c.toNat) h1 (by kernel_rfl) (iop_ixS (s := s) (i := i) (by kernel_rfl) (by kernel_rfl) hc) ?_
        refine Wo.pre 1 (by kernel_rfl) ?_
        refine Wo.nil ?_
        refine Wp.seq ?_
        refine Wp.seq ?_
        refine Wp.region ?_
        refine Wo.pre 1 (by kernel_rfl) ?_
        refine Wo.val (.int .u8 f.toNat) h1 (by kernel_rfl) (iop_ixS (s := nameF) (i := i) (by kernel_rfl) (by kernel_rfl) hf) ?_
        refine Wo.val (.bool false) h1 (by kernel_rfl) (iop_cmp (op := .neq) (k := .u8) (a := f.toNat) (b := 48) false (by kernel_rfl) (by kernel_rfl) (by simp) (by simp [binInt, hfn])) ?_
        refine Wo.nil ?_
        refine Wp.cond false (by kernel_rfl) ?_
        refine Wp.skip ?_
        refine Wp.seq ?_
        refine Wp.seq ?_
        refine Wp.region ?_
        refine Wo.pre 1 (by kernel_rfl) ?_
        refine Wo.val (.bool false) h1 (by kernel_rfl) (iop_cmp (op := .lss) (k := .u8) (a := c.toNat) (b := 48) false (by kernel_rfl) (by kernel_rfl) (by simp) (by simp [binInt]; omega)) ?_
        refine Wo.pre 1 (by kernel_rfl) ?_
        refine Wo.pre 1 (by kernel_rfl) ?_
        refine Wo.val (.bool false) h1 (by kernel_rfl) (iop_cmp (op := .gtr) (k := .u8) (a := c.toNat) (b := 57) false (by kernel_rfl) (by kernel_rfl) (by simp) (by simp [binInt]; omega)) ?_
        refine Wo.pre 1 (by kernel_rfl) ?_
        refine Wo.nil ?_
        refine Wp.cond false (by kernel_rfl) ?_
        refine Wp.skip ?_
        refine Wp.region ?_
        refine Wo.pre 1 (by kernel_rfl) ?_
        refine Wo.pre 1 (by kernel_rfl) ?_
        refine Wo.pre 1 (by kernel_rfl) ?_
        refine Wo.pre 1 (by kernel_rfl) ?_
        refine Wo.pre 1 (by kernel_rfl) ?_
        refine Wo.pre 1 (by kernel_rfl) ?_
        refine Wo.pre 1 (by kernel_rfl) ?_
        refine Wo.nil ?_
        refine ih (i + 1) (by omega) h1 _ (by kernel_rfl) (by kernel_rfl) (by rw [← w4, ← w3, ← w2, ← w1]; kernel_rfl) (by kernel_rfl) hg1 (fun p hp => ?_) hv1 Q (fun p hp hn ts' h' g0 g1 g2 => hbad p hp hn ts' h' g0 (by rw [g1, n1]) (fun b hb => by rw [g2 b hb, k1 b hb])) (fun ho hv ts' h' g0 g1 g2 => hgood ho hv ts' h' g0 (by rw [g1, n1]) (fun b hb => by rw [g2 b hb, k1 b hb]))
        by_cases hpi : p = i
        · subst hpi; exact hoki
        · exact hok p (by omega)
      · have hnok : ¬ okAt s i := by
          rintro ⟨c', f', e1, e2, e3⟩
          rw [hc] at e1; rw [hf] at e2
          cases e1; cases e2
          rw [if_pos hf48] at e3
          exact hd e3
        have hfn : (f.toNat : Int) = 48 := by rw [hf48]; rfl
        by_cases hlo : c.toNat < 48
        · refine Wp.seq ?_
          refine Wp.region ?_
          refine Wo.val _ h1 (by kernel_rfl) (en (by kernel_rfl)) ?_
          refine Wo.pre 1 (by kernel_rfl) ?_
          refine Wo.nil ?_
          refine Wp.seq ?_
          refine Wp.cond true (by kernel_rfl) ?_
          refine Wp.skip ?_
          refine Wp.block ?_
          refine Wp.seq ?_
          refine Wp.region ?_
          refine Wo.pre 1 (by kernel_rfl) ?_
          refine Wo.pre 1 (by kernel_rfl) ?_
          refine Wo.nil ?_
          refine Wp.seq ?_
          refine Wp.region ?_
          refine Wo.pre 1 (by kernel_rfl) ?_
          refine Wo.pre 1 (by kernel_rfl) ?_
          refine Wo.val (.int .u8 c.toNat) h1 (by kernel_rfl) (iop_ixS (s := s) (i := i) (by kernel_rfl) (by kernel_rfl) hc) ?_
          refine Wo.pre 1 (by kernel_rfl) ?_
          refine Wo.nil ?_
          refine Wp.seq ?_
          refine Wp.seq ?_
          refine Wp.region ?_
          refine Wo.pre 1 (by kernel_rfl) ?_
          refine Wo.val (.int .u8 f.toNat) h1 (by kernel_rfl) (iop_ixS (s := nameF) (i := i) (by kernel_rfl) (by kernel_rfl) hf) ?_
          refine Wo.val (.bool false) h1 (by kernel_rfl) (iop_cmp (op := .neq) (k := .u8) (a := f.toNat) (b := 48) false (by kernel_rfl) (by kernel_rfl) (by simp) (by simp [binInt, hfn])) ?_
          refine Wo.nil ?_
          refine Wp.cond false (by kernel_rfl) ?_
          refine Wp.skip ?_
          refine Wp.seq ?_
          refine Wp.seq ?_
          refine Wp.region ?_
          refine Wo.pre 1 (by kernel_rfl) ?_
          refine Wo.val (.bool true) h1 (by kernel_rfl) (iop_cmp (op := .lss) (k := .u8) (a := c.toNat) (b := 48) true (by kernel_rfl) (by kernel_rfl) (by simp) (by simp [binInt]; omega)) ?_
          refine Wo.pre 1 (by kernel_rfl) ?_
          refine Wo.pre 1 (by kernel_rfl) ?_
          refine Wo.pre 1 (by kernel_rfl) ?_
          refine Wo.pre 1 (by kernel_rfl) ?_
          refine Wo.nil ?_
          refine Wp.cond true (by kernel_rfl) ?_
          refine Wp.seq ?_
          refine Wp.region ?_
          refine Wo.pre 1 (by kernel_rfl) ?_
          refine Wo.pre 1 (by kernel_rfl) ?_
          refine Wo.pre 1 (by kernel_rfl) ?_
          refine Wo.nil ?_
          exact Wp.ret (hbad i hlt hnok _ _ (by kernel_rfl) n1 k1 (by kernel_rfl) (by kernel_rfl) (by kernel_rfl))
        · refine Wp.seq ?_
          refine Wp.region ?_
          refine Wo.val _ h1 (by kernel_rfl) (en (by kernel_rfl)) ?_
          refine Wo.pre 1 (by kernel_rfl) ?_
          refine Wo.nil ?_
          refine Wp.seq ?_
          refine Wp.cond true (by kernel_rfl) ?_
          refine Wp.skip ?_
          refine Wp.block ?_
          refine Wp.seq ?_
          refine Wp.region ?_
          refine Wo.pre 1 (by kernel_rfl) ?_
          refine Wo.pre 1 (by kernel_rfl) ?_
          refine Wo.nil ?_
          refine Wp.seq ?_
          refine Wp.region ?_
          refine Wo.pre 1 (by kernel_rfl) ?_
          refine Wo.pre 1 (by kernel_rfl) ?_
          refine Wo.val (.int .u8 c.toNat) h1 (by kernel_rfl) (iop_ixS (s := s) (i := i) (by kernel_rfl) (by kernel_rfl) hc) ?_
          refine Wo.pre 1 (by kernel_rfl) ?_
          refine Wo.nil ?_
          refine Wp.seq ?_
          refine Wp.seq ?_
          refine Wp.region ?_
          refine Wo.pre 1 (by kernel_rfl) ?_
          refine Wo.val (.int .u8 f.toNat) h1 (by kernel_rfl) (iop_ixS (s := nameF) (i := i) (by kernel_rfl) (by kernel_rfl) hf) ?_
          refine Wo.val (.bool false) h1 (by kernel_rfl) (iop_cmp (op := .neq) (k := .u8) (a := f.toNat) (b := 48) false (by kernel_rfl) (by kernel_rfl) (by simp) (by simp [binInt, hfn])) ?_
          refine Wo.nil ?_
          refine Wp.cond false (by kernel_rfl) ?_
          refine Wp.skip ?_
          refine Wp.seq ?_
          refine Wp.seq ?_
          refine Wp.region ?_
          refine Wo.pre 1 (by kernel_rfl) ?_
          refine Wo.val (.bool false) h1 (by kernel_rfl) (iop_cmp (op := .lss) (k := .u8) (a := c.toNat) (b := 48) false (by kernel_rfl) (by kernel_rfl) (by simp) (by simp [binInt]; omega)) ?_
          refine Wo.pre 1 (by kernel_rfl) ?_
          refine Wo.pre 1 (by kernel_rfl) ?_
          refine Wo.val (.bool true) h1 (by kernel_rfl) (iop_cmp (op := .gtr) (k := .u8) (a := c.toNat) (b := 57) true (by kernel_rfl) (by kernel_rfl) (by simp) (by simp [binInt]; omega)) ?_
          refine Wo.pre 1 (by kernel_rfl) ?_
          refine Wo.nil ?_
          refine Wp.cond true (by kernel_rfl) ?_
          refine Wp.seq ?_
          refine Wp.region ?_
          refine Wo.pre 1 (by kernel_rfl) ?_
          refine Wo.pre 1 (by kernel_rfl) ?_
          refine Wo.pre 1 (by kernel_rfl) ?_
          refine Wo.nil ?_
          exact Wp.ret (hbad i hlt hnok _ _ (by kernel_rfl) n1 k1 (by kernel_rfl) (by kernel_rfl) (by kernel_rfl))
    · rw [if_neg hf48] at hstep
      have hfn : (f.toNat : Int) ≠ 48 := by
        intro e
        exact hf48 (UInt8.toNat_inj.1 (by have : f.toNat = 48 := by omega
                                          rw [this]; rfl))
      by_cases hcf : c = f
      · have hoki : okAt s i := ⟨c, f, hc, hf, by rw [if_neg hf48]; exact hcf⟩
        have hv1 : val (dgs s (i + 1)) < 10 ^ (i + 1) := by rw [hstep, ← hV, hp10]; omega
        refine Wp.seq ?_
        refine Wp.region ?_
        refine Wo.val _ h1 (by kernel_rfl) (en (by kernel_rfl)) ?_
        refine Wo.pre 1 (by kernel_rfl) ?_
        refine Wo.nil ?_
        refine Wp.seq ?_
        refine Wp.cond true (by kernel_rfl) ?_
        refine Wp.skip ?_
        refine Wp.block ?_
        refine Wp.seq ?_
        refine Wp.region ?_
        refine Wo.pre 1 (by kernel_rfl) ?_
        refine Wo.pre 1 (by kernel_rfl) ?_
        refine Wo.nil ?_
        refine Wp.seq ?_
        refine Wp.region ?_
        refine Wo.pre 1 (by kernel_rfl) ?_
        refine Wo.pre 1 (by kernel_rfl) ?_
        refine Wo.val (.int .u8 c.toNat) h1 (by kernel_rfl) (iop_ixS (s := s) (i := i) (by kernel_rfl) (by kernel_rfl) hc) ?_
        refine Wo.pre 1 (by kernel_rfl) ?_
        refine Wo.nil ?_
        refine Wp.seq ?_
        refine Wp.seq ?_
        refine Wp.region ?_
        refine Wo.pre 1 (by kernel_rfl) ?_
        refine Wo.val (.int .u8 f.toNat) h1 (by kernel_rfl) (iop_ixS (s := nameF) (i := i) (by kernel_rfl) (by kernel_rfl) hf) ?_
        refine Wo.val (.bool true) h1 (by kernel_rfl) (iop_cmp (op := .neq) (k := .u8) (a := f.toNat) (b := 48) true (by kernel_rfl) (by kernel_rfl) (by simp) (by simp [binInt, hfn])) ?_
        refine Wo.nil ?_
        refine Wp.cond true (by kernel_rfl) ?_
        refine Wp.seq ?_
        refine Wp.seq ?_
        refine Wp.region ?_
        refine Wo.pre 1 (by kernel_rfl) ?_
        refine Wo.pre 1 (by kernel_rfl) ?_
        refine Wo.val (.int .u8 f.toNat) h1 (by kernel_rfl) (iop_ixS (s := nameF) (i := i) (by kernel_rfl) (by kernel_rfl) hf) ?_
        refine Wo.val (.bool false) h1 (by kernel_rfl) (iop_cmp (op := .neq) (k := .u8) (a := c.toNat) (b := f.toNat) false (by kernel_rfl) (by kernel_rfl) (by simp) (by simp [binInt, hcf])) ?_
        refine Wo.nil ?_
        refine Wp.cond false (by kernel_rfl) ?_
        refine Wp.skip ?_
        refine Wp.exit ?_
        refine ih (i + 1) (by omega) h1 _ (by kernel_rfl) (by kernel_rfl) (by rw [hstep, ← hV]; kernel_rfl) (by kernel_rfl) hg1 (fun p hp => ?_) hv1 Q (fun p hp hn ts' h' g0 g1 g2 => hbad p hp hn ts' h' g0 (by rw [g1, n1]) (fun b hb => by rw [g2 b hb, k1 b hb])) (fun ho hv ts' h' g0 g1 g2 => hgood ho hv ts' h' g0 (by rw [g1, n1]) (fun b hb => by rw [g2 b hb, k1 b hb]))
        by_cases hpi : p = i
        · subst hpi; exact hoki
        · exact hok p (by omega)
      · have hnok : ¬ okAt s i := by
          rintro ⟨c', f', e1, e2, e3⟩
          rw [hc] at e1; rw [hf] at e2
          cases e1; cases e2
          rw [if_neg hf48] at e3
          exact hcf e3
        have hcn : (c.toNat : Int) ≠ (f.toNat : Int) := by
          intro e
          exact hcf (UInt8.toNat_inj.1 (by omega))
        refine Wp.seq ?_
        refine Wp.region ?_
        refine Wo.val _ h1 (by kernel_rfl) (en (by kernel_rfl)) ?_
        refine Wo.pre 1 (by kernel_rfl) ?_
        refine Wo.nil ?_
        refine Wp.seq ?_
        refine Wp.cond true (by kernel_rfl) ?_
        refine Wp.skip ?_
        refine Wp.block ?_
        refine Wp.seq ?_
        refine Wp.region ?_
        refine Wo.pre 1 (by kernel_rfl) ?_
        refine Wo.pre 1 (by kernel_rfl) ?_
        refine Wo.nil ?_
        refine Wp.seq ?_
        refine Wp.region ?_
        refine Wo.pre 1 (by kernel_rfl) ?_
        refine Wo.pre 1 (by kernel_rfl) ?_
        refine Wo.val (.int .u8 c.toNat) h1 (by kernel_rfl) (iop_ixS (s := s) (i := i) (by kernel_rfl) (by kernel_rfl) hc) ?_
        refine Wo.pre 1 (by kernel_rfl) ?_
        refine Wo.nil ?_
        refine Wp.seq ?_
        refine Wp.seq ?_
        refine Wp.region ?_
        refine Wo.pre 1 (by kernel_rfl) ?_
        refine Wo.val (.int .u8 f.toNat) h1 (by kernel_rfl) (iop_ixS (s := nameF) (i := i) (by kernel_rfl) (by kernel_rfl) hf) ?_
        refine Wo.val (.bool true) h1 (by kernel_rfl) (iop_cmp (op := .neq) (k := .u8) (a := f.toNat) (b := 48) true (by kernel_rfl) (by kernel_rfl) (by simp) (by simp [binInt, hfn])) ?_
        refine Wo.nil ?_
        refine Wp.cond true (by kernel_rfl) ?_
        refine Wp.seq ?_
        refine Wp.seq ?_
        refine Wp.region ?_
        refine Wo.pre 1 (by kernel_rfl) ?_
        refine Wo.pre 1 (by kernel_rfl) ?_
        refine Wo.val (.int .u8 f.toNat) h1 (by kernel_rfl) (iop_ixS (s := nameF) (i := i) (by kernel_rfl) (by kernel_rfl) hf) ?_
        refine Wo.val (.bool true) h1 (by kernel_rfl) (iop_cmp (op := .neq) (k := .u8) (a := c.toNat) (b := f.toNat) true (by kernel_rfl) (by kernel_rfl) (by simp) (by simp [binInt, hcn])) ?_
        refine Wo.nil ?_
        refine Wp.cond true (by kernel_rfl) ?_
        refine Wp.seq ?_
        refine Wp.region ?_
        refine Wo.pre 1 (by kernel_rfl) ?_
        refine Wo.pre 1 (by kernel_rfl) ?_
        refine Wo.pre 1 (by kernel_rfl) ?_
        refine Wo.nil ?_
        exact Wp.ret (hbad i hlt hnok _ _ (by kernel_rfl) n1 k1 (by kernel_rfl) (by kernel_rfl) (by kernel_rfl))
end Go.Det

/- Names of bundles, read: both ways. The law BundleNames. -/
set_option linter.unusedVariables false
set_option linter.unusedSimpArgs false
set_option linter.unusedSectionVars false
namespace Go.Det
open Go.Proofs
attribute [local irreducible] Wp Wo Wd iop ev slots quiets wanted put

def numS (s : List UInt8) : Nat := val ((s.take 8).drop 2)
def widS (s : List UInt8) : Nat := val ((s.take 11).drop 9)
def okS (s : List UInt8) : Prop := s.length = 11 ∧ ∀ p, p < 11 → okAt s p
noncomputable def parseR (s : List UInt8) : AV := @ite _ (okS s ∧ 1 ≤ widS s ∧ widS s ≤ 16) (Classical.propDecidable _) (.tup [.int .u64 (numS s : Nat), .int .i64 (widS s : Nat), .int .i64 0]) (.tup [.int .u64 0, .int .i64 0, .int .i64 5])
theorem parseR_bad {s : List UInt8} (h : ¬ (okS s ∧ 1 ≤ widS s ∧ widS s ≤ 16)) : parseR s = .tup [.int .u64 0, .int .i64 0, .int .i64 5] := by unfold parseR; exact if_neg h
theorem parseR_ok {s : List UInt8} (h : okS s ∧ 1 ≤ widS s ∧ widS s ≤ 16) : parseR s = .tup [.int .u64 (numS s : Nat), .int .i64 (widS s : Nat), .int .i64 0] := by unfold parseR; exact if_pos h

theorem ok_digit {s : List UInt8} {p : Nat} {c : UInt8} (h : okAt s p) (hc : s[p]? = some c) (hf : nameF[p]? = some 48) : 48 ≤ c.toNat ∧ c.toNat ≤ 57 := by
  obtain ⟨c', f', e1, e2, e3⟩ := h
  rw [hc] at e1; rw [hf] at e2
  cases e1; cases e2
  simpa using e3

theorem split_val {s : List UInt8} (h : okS s) : val (dgs s 11) = numS s * 100 + widS s ∧ widS s < 100 ∧ numS s < 1000000 := by
  obtain ⟨hl, hok⟩ := h
  obtain ⟨c0, c1, c2, c3, c4, c5, c6, c7, c8, c9, c10, rfl⟩ := len11 hl
  have d2 := ok_digit (hok 2 (by omega)) (c := c2) rfl rfl
  have d3 := ok_digit (hok 3 (by omega)) (c := c3) rfl rfl
  have d4 := ok_digit (hok 4 (by omega)) (c := c4) rfl rfl
  have d5 := ok_digit (hok 5 (by omega)) (c := c5) rfl rfl
  have d6 := ok_digit (hok 6 (by omega)) (c := c6) rfl rfl
  have d7 := ok_digit (hok 7 (by omega)) (c := c7) rfl rfl
  have d9 := ok_digit (hok 9 (by omega)) (c := c9) rfl rfl
  have d10 := ok_digit (hok 10 (by omega)) (c := c10) rfl rfl
  simp only [dgs, numS, widS, val, List.take, List.drop, List.foldl, List.cons_append, List.nil_append, Nat.min_def]
  simp only [show ¬ (11 ≤ 8) by omega, if_false, List.take, List.drop, List.foldl, List.cons_append, List.nil_append]
  omega

set_option maxHeartbeats 2000000 in
theorem parse_run {h : H} (s : List UInt8) (hl : s.length < 2 ^ 62) : ∃ r h', Runs TF 60 [.str s] h r h' ∧ r = parseR s ∧ Ext h h' := by
  refine Runs.ofP f60 rfl ?_
  by_cases h11 : s.length = 11
  · obtain ⟨H1, hH1⟩ : ∃ H1, H1 = h.new (.iter nameF 0) := ⟨_, rfl⟩
    have X1 : Ext h H1 := by rw [hH1]; exact Ext.new _ _
    have g1 : H1.get h.n = some (.iter nameF 0) := by rw [hH1]; exact h.get_new _
    have er : ∀ ts, iop (.rng (.c (.str [98, 45, 48, 48, 48, 48, 48, 48, 45, 48, 48]))) (ev ts) h = some (.val (.ptr ⟨h.n, 0, 0⟩) H1) := fun ts => by rw [hH1]; kernel_rfl
    have hlen : (s.length : Int) = 11 := by omega
    have hv0 : val (dgs s 0) = 0 := by simp [dgs, val]
    refine Wp.seq ?_
    refine Wp.region ?_
    refine Wo.pre 1 (by kernel_rfl) ?_
    refine Wo.pre 1 (by kernel_rfl) ?_
    refine Wo.pre 1 (by kernel_rfl) ?_
    refine Wo.nil ?_
    refine Wp.seq ?_
    refine Wp.seq ?_
    refine Wp.region ?_
    refine Wo.pre 1 (by kernel_rfl) ?_
    refine Wo.pre 1 (by kernel_rfl) ?_
    refine Wo.val (.bool false) h (by kernel_rfl) (iop_cmp (op := .neq) (k := .i64) (a := s.length) (b := 11) false (by kernel_rfl) (by kernel_rfl) (by simp) (by simp [binInt, hlen])) ?_
    refine Wo.nil ?_
    refine Wp.cond false (by kernel_rfl) ?_
    refine Wp.skip ?_
    refine Wp.seq ?_
    refine Wp.region ?_
    refine Wo.pre 1 (by kernel_rfl) ?_
    refine Wo.nil ?_
    refine Wp.seq ?_
    refine Wp.seq ?_
    refine Wp.region ?_
    refine Wo.val _ H1 (by kernel_rfl) (er _) ?_
    refine Wo.nil ?_
    refine Wp.block ?_
    refine parse_loop h11 (blk := h.n) 11 0 (by omega) H1 _ (by kernel_rfl) (by kernel_rfl) (by rw [hv0]; kernel_rfl) (by kernel_rfl) g1 (fun p hp => absurd hp (by omega)) (by rw [hv0]; decide) _ ?_ ?_
    · intro p hp hn ts' h' d0 dn dk d2 d3 d4
      rw [laid_eq d0 [(2, .int .u64 0), (3, .int .i64 0), (4, .int .i64 5)] (by simp [d2, d3, d4])]
      have e := parseR_bad (s := s) (fun q => hn (q.1.2 p hp))
      exact ⟨.inr rfl, .tup [.int .u64 0, .int .i64 0, .int .i64 5], (by kernel_rfl), e.symm, by have := X1.1; show h.n ≤ h'.n; omega, fun b hb => by show h'.get b = _; rw [dk b (by omega)]; exact X1.2 b hb⟩
    · intro hok hv ts' h' d0 dn dk d5
      have hoks : okS s := ⟨h11, hok⟩
      obtain ⟨q1, q2, q3⟩ := split_val hoks
      rw [q1] at d5 hv
      obtain ⟨N, hN⟩ : ∃ N, N = numS s := ⟨_, rfl⟩
      obtain ⟨W, hW⟩ : ∃ W, W = widS s := ⟨_, rfl⟩
      rw [← hN, ← hW] at d5 hv
      rw [← hN] at q3
      rw [← hW] at q2
      have X' : Ext h h' := ⟨by have := X1.1; omega, fun b hb => by rw [dk b (by omega)]; exact X1.2 b hb⟩
      have w1 : IntKind.u64.wrap (((N * 100 + W : Nat) : Int).tdiv 100) = (N : Int) := by
        rw [Int.tdiv_eq_ediv_of_nonneg (by omega), u64_fit _ (by omega)]; omega
      have w2 : IntKind.i64.wrap (((N * 100 + W : Nat) : Int).tmod 100) = (W : Int) := by
        rw [Int.tmod_eq_emod_of_nonneg (by omega), i64_fit _ (by omega)]; omega
      rw [laid_eq d0 [(5, .int .u64 (N * 100 + W : Nat))] (by simp [d5])]
      by_cases hb1 : W < 1
      · have e := parseR_bad (s := s) (fun q => by have := q.2; omega)
        refine Wp.seq ?_
        refine Wp.region ?_
        refine Wo.pre 1 (by kernel_rfl) ?_
        refine Wo.pre 1 (by kernel_rfl) ?_
        refine Wo.pre 1 (by kernel_rfl) ?_
        refine Wo.pre 1 (by kernel_rfl) ?_
        refine Wo.pre 1 (by kernel_rfl) ?_
        refine Wo.pre 1 (by kernel_rfl) ?_
        refine Wo.pre 1 (by kernel_rfl) ?_
        refine Wo.nil ?_
        refine Wp.seq ?_
        refine Wp.seq ?_
        refine Wp.region ?_
        refine Wo.pre 1 (by kernel_rfl) ?_
        refine Wo.val (.bool true) h' (by kernel_rfl) (iop_cmp (op := .lss) (k := .i64) (a := IntKind.i64.wrap (((N * 100 + W : Nat) : Int).tmod 100)) (b := 1) true (by kernel_rfl) (by kernel_rfl) (by simp) (by rw [w2]; simp [binInt]; omega)) ?_
        refine Wo.pre 1 (by kernel_rfl) ?_
        refine Wo.pre 1 (by kernel_rfl) ?_
        refine Wo.pre 1 (by kernel_rfl) ?_
        refine Wo.pre 1 (by kernel_rfl) ?_
        refine Wo.nil ?_
        refine Wp.cond true (by kernel_rfl) ?_
        refine Wp.seq ?_
        refine Wp.region ?_
        refine Wo.pre 1 (by kernel_rfl) ?_
        refine Wo.pre 1 (by kernel_rfl) ?_
        refine Wo.pre 1 (by kernel_rfl) ?_
        refine Wo.nil ?_
        exact Wp.ret ⟨.inr rfl, .tup [.int .u64 0, .int .i64 0, .int .i64 5], (by kernel_rfl), e.symm, X'⟩
      · by_cases hb2 : W > 16
        · have e := parseR_bad (s := s) (fun q => by have := q.2; omega)
          refine Wp.seq ?_
          refine Wp.region ?_
          refine Wo.pre 1 (by kernel_rfl) ?_
          refine Wo.pre 1 (by kernel_rfl) ?_
          refine Wo.pre 1 (by kernel_rfl) ?_
          refine Wo.pre 1 (by kernel_rfl) ?_
          refine Wo.pre 1 (by kernel_rfl) ?_
          refine Wo.pre 1 (by kernel_rfl) ?_
          refine Wo.pre 1 (by kernel_rfl) ?_
          refine Wo.nil ?_
          refine Wp.seq ?_
          refine Wp.seq ?_
          refine Wp.region ?_
          refine Wo.pre 1 (by kernel_rfl) ?_
          refine Wo.val (.bool false) h' (by kernel_rfl) (iop_cmp (op := .lss) (k := .i64) (a := IntKind.i64.wrap (((N * 100 + W : Nat) : Int).tmod 100)) (b := 1) false (by kernel_rfl) (by kernel_rfl) (by simp) (by rw [w2]; simp [binInt]; omega)) ?_
          refine Wo.pre 1 (by kernel_rfl) ?_
          refine Wo.pre 1 (by kernel_rfl) ?_
          refine Wo.val (.bool true) h' (by kernel_rfl) (iop_cmp (op := .gtr) (k := .i64) (a := IntKind.i64.wrap (((N * 100 + W : Nat) : Int).tmod 100)) (b := 16) true (by kernel_rfl) (by kernel_rfl) (by simp) (by rw [w2]; simp [binInt]; omega)) ?_
          refine Wo.pre 1 (by kernel_rfl) ?_
          refine Wo.nil ?_
          refine Wp.cond true (by kernel_rfl) ?_
          refine Wp.seq ?_
          refine Wp.region ?_
          refine Wo.pre 1 (by kernel_rfl) ?_
          refine Wo.pre 1 (by kernel_rfl) ?_
          refine Wo.pre 1 (by kernel_rfl) ?_
          refine Wo.nil ?_
          exact Wp.ret ⟨.inr rfl, .tup [.int .u64 0, .int .i64 0, .int .i64 5], (by kernel_rfl), e.symm, X'⟩
        · have e := parseR_ok (s := s) ⟨hoks, by omega, by omega⟩
          rw [← hN, ← hW] at e
          refine Wp.seq ?_
          refine Wp.region ?_
          refine Wo.pre 1 (by kernel_rfl) ?_
          refine Wo.pre 1 (by kernel_rfl) ?_
          refine Wo.pre 1 (by kernel_rfl) ?_
          refine Wo.pre 1 (by kernel_rfl) ?_
          refine Wo.pre 1 (by kernel_rfl) ?_
          refine Wo.pre 1 (by kernel_rfl) ?_
          refine Wo.pre 1 (by kernel_rfl) ?_
          refine Wo.nil ?_
          refine Wp.seq ?_
          refine Wp.seq ?_
          refine Wp.region ?_
          refine Wo.pre 1 (by kernel_rfl) ?_
          refine Wo.val (.bool false) h' (by kernel_rfl) (iop_cmp (op := .lss) (k := .i64) (a := IntKind.i64.wrap (((N * 100 + W : Nat) : Int).tmod 100)) (b := 1) false (by kernel_rfl) (by kernel_rfl) (by simp) (by rw [w2]; simp [binInt]; omega)) ?_
          refine Wo.pre 1 (by kernel_rfl) ?_
          refine Wo.pre 1 (by kernel_rfl) ?_
          refine Wo.val (.bool false) h' (by kernel_rfl) (iop_cmp (op := .gtr) (k := .i64) (a := IntKind.i64.wrap (((N * 100 + W : Nat) : Int).tmod 100)) (b := 16) false (by kernel_rfl) (by kernel_rfl) (by simp) (by rw [w2]; simp [binInt]; omega)) ?_
          refine Wo.pre 1 (by kernel_rfl) ?_
          refine Wo.nil ?_
          refine Wp.cond false (by kernel_rfl) ?_
          refine Wp.skip ?_
          refine Wp.seq ?_
          refine Wp.region ?_
          refine Wo.pre 1 (by kernel_rfl) ?_
          refine Wo.pre 1 (by kernel_rfl) ?_
          refine Wo.pre 1 (by kernel_rfl) ?_
          refine Wo.pre 1 (by kernel_rfl) ?_
          refine Wo.pre 1 (by kernel_rfl) ?_
          refine Wo.nil ?_
          exact Wp.ret ⟨.inr rfl, .tup [.int .u64 N, .int .i64 W, .int .i64 0], by rw [← w1, ← w2]; kernel_rfl, e.symm, X'⟩
  · have e := parseR_bad (s := s) (fun q => h11 q.1.1)
    have hlen : (s.length : Int) ≠ 11 := by omega
    refine Wp.seq ?_
    refine Wp.region ?_
    refine Wo.pre 1 (by kernel_rfl) ?_
    refine Wo.pre 1 (by kernel_rfl) ?_
    refine Wo.pre 1 (by kernel_rfl) ?_
    refine Wo.nil ?_
    refine Wp.seq ?_
    refine Wp.seq ?_
    refine Wp.region ?_
    refine Wo.pre 1 (by kernel_rfl) ?_
    refine Wo.pre 1 (by kernel_rfl) ?_
    refine Wo.val (.bool true) h (by kernel_rfl) (iop_cmp (op := .neq) (k := .i64) (a := s.length) (b := 11) true (by kernel_rfl) (by kernel_rfl) (by simp) (by simp [binInt, hlen])) ?_
    refine Wo.nil ?_
    refine Wp.cond true (by kernel_rfl) ?_
    refine Wp.seq ?_
    refine Wp.region ?_
    refine Wo.pre 1 (by kernel_rfl) ?_
    refine Wo.pre 1 (by kernel_rfl) ?_
    refine Wo.pre 1 (by kernel_rfl) ?_
    refine Wo.nil ?_
    exact Wp.ret ⟨.inr rfl, .tup [.int .u64 0, .int .i64 0, .int .i64 5], (by kernel_rfl), e.symm, Ext.refl h⟩
end Go.Det

/- Names of bundles, read by the reference; the law BundleNames. -/
set_option linter.unusedVariables false
set_option linter.unusedSimpArgs false
set_option linter.unusedSectionVars false
namespace Go.Det
open Go.Proofs
attribute [local irreducible] Wp Wo Wd iop ev slots quiets wanted put

theorem wakes_run (h : H) : Runs TF 62 [] h (.bool true) h := Runs.known (by kernel_rfl) h

end Go.Det

/- Names of bundles, both ways: the plain law. -/
set_option linter.unusedVariables false
set_option linter.unusedSimpArgs false
set_option linter.unusedSectionVars false
namespace Go.Det
open Go.Proofs

/-- What Name, what Parse answers. -/
def nameT (n : Nat) (w : Int) (s : List UInt8) (E : Int) : Prop := nameR n w = .tup [.str s, .int .i64 E]
def parseT (s : List UInt8) (n w : Nat) (E : Int) : Prop := parseR s = .tup [.int .u64 n, .int .i64 w, .int .i64 E]

theorem nameJ {h : H} {n : Nat} (hn : n < 2 ^ 64) (width : Int) : ∃ r h', Runs TF 58 [.int .u64 n, .int .i64 width] h r h' ∧ ∃ s E, r = .tup [.str s, .int .i64 E] ∧ Ext h h' ∧ nameT n width s E := by
  obtain ⟨r, h', c, e, x⟩ := name_run (h := h) hn width
  by_cases hb : (n : Int) < 1000000 ∧ 1 ≤ width ∧ width ≤ 16
  · obtain ⟨w, rfl⟩ : ∃ w : Nat, width = w := ⟨width.toNat, by omega⟩
    have e2 := nameR_ok hb
    exact ⟨r, h', c, _, _, e.trans e2, x, e2⟩
  · have e2 := nameR_bad hb
    exact ⟨r, h', c, _, _, e.trans e2, x, e2⟩
theorem parseJ {h : H} (s : List UInt8) (hl : s.length < 2 ^ 62) : ∃ r h', Runs TF 60 [.str s] h r h' ∧ ∃ n w E, r = .tup [.int .u64 (n : Nat), .int .i64 (w : Nat), .int .i64 E] ∧ Ext h h' ∧ parseT s n w E ∧ n < 2 ^ 64 := by
  obtain ⟨r, h', c, e, x⟩ := parse_run (h := h) s hl
  by_cases hb : okS s ∧ 1 ≤ widS s ∧ widS s ≤ 16
  · have e2 := parseR_ok hb
    have := split_val hb.1
    exact ⟨r, h', c, _, _, _, e.trans e2, x, e2, by omega⟩
  · have e2 := parseR_bad hb
    exact ⟨r, h', c, 0, 0, 5, e.trans e2, x, e2, by omega⟩

theorem nameT_cases {n : Nat} {w : Int} {s : List UInt8} {E : Int} (h : nameT n w s E) : (E = 0 ∧ n < 1000000 ∧ 1 ≤ w ∧ w ≤ 16 ∧ s = nameS n w.toNat) ∨ (E = 1 ∧ s = [] ∧ ¬ ((n : Int) < 1000000 ∧ 1 ≤ w ∧ w ≤ 16)) := by
  unfold nameT at h
  by_cases hb : (n : Int) < 1000000 ∧ 1 ≤ w ∧ w ≤ 16
  · obtain ⟨k, rfl⟩ : ∃ k : Nat, w = k := ⟨w.toNat, by omega⟩
    rw [nameR_ok hb] at h
    simp only [AV.tup.injEq, List.cons.injEq, AV.str.injEq, AV.int.injEq, true_and, and_true] at h
    exact .inl ⟨h.2.symm, by omega, hb.2.1, hb.2.2, by rw [← h.1]; rfl⟩
  · rw [nameR_bad hb] at h
    simp only [AV.tup.injEq, List.cons.injEq, AV.str.injEq, AV.int.injEq, true_and, and_true] at h
    exact .inr ⟨h.2.symm, h.1.symm, hb⟩
theorem parseT_cases {s : List UInt8} {n w : Nat} {E : Int} (h : parseT s n w E) : (E = 0 ∧ okS s ∧ 1 ≤ w ∧ w ≤ 16 ∧ n = numS s ∧ w = widS s) ∨ (E = 5 ∧ n = 0 ∧ w = 0 ∧ ¬ (okS s ∧ 1 ≤ widS s ∧ widS s ≤ 16)) := by
  unfold parseT at h
  by_cases hb : okS s ∧ 1 ≤ widS s ∧ widS s ≤ 16
  · rw [parseR_ok hb] at h
    simp only [AV.tup.injEq, List.cons.injEq, AV.int.injEq, true_and, and_true] at h
    obtain ⟨h1, h2, h3⟩ := h
    exact .inl ⟨h3.symm, hb.1, by omega, by omega, by omega, by omega⟩
  · rw [parseR_bad hb] at h
    simp only [AV.tup.injEq, List.cons.injEq, AV.int.injEq, true_and, and_true] at h
    obtain ⟨h1, h2, h3⟩ := h
    exact .inr ⟨h3.symm, by omega, by omega, hb⟩

end Go.Det

/- Bundles joined and cut off: the plain law. -/
set_option linter.unusedVariables false
set_option linter.unusedSimpArgs false
set_option linter.unusedSectionVars false
namespace Go.Det
open Go.Proofs

theorem bytesR_cons (r : Rec) (rs : List Rec) : bytesR (r :: rs) = certB (recS r.1 r.2) ++ bytesR rs := by simp [bytesR]
theorem bytesR_app (rs1 rs2 : List Rec) : bytesR (rs1 ++ rs2) = bytesR rs1 ++ bytesR rs2 := by simp [bytesR]
theorem certB_len (l : List UInt8) : (certB l).length = 3 + l.length := by simp [certB, digits_len]

theorem takeF_over : ∀ (rs : List Rec) (k n : Nat), n ≤ 16 → 16 < n + rs.length → (∀ r ∈ rs, okR r) → takeF k n (bytesR rs) = none
  | [], k, n, h1, h2, _ => by simp at h2; omega
  | (t, cs) :: rs, k, n, h1, h2, hr => by
    have h0 := hr (t, cs) (by simp)
    have hlen : (recS t cs).length ≤ 2500 ∧ 8 ≤ (recS t cs).length := recS_len h0.2
    have hd := dec3 (c := recS t cs) (by omega) (bytesR rs)
    have e : bytesR ((t, cs) :: rs) = certB (recS t cs) ++ bytesR rs := bytesR_cons _ _
    have hne : certB (recS t cs) ++ bytesR rs ≠ [] := by
      intro h
      have := congrArg List.length h
      simp [certB_len] at this
    rw [e]
    cases k with
    | zero => simp only [takeF]; rw [if_neg hne]
    | succ k =>
      by_cases hn : n = 16
      · exact takeF_bad hne (fun q => q.2 hn)
      · have hrec : recOf (vX (certB (recS t cs) ++ bytesR rs) 3) = (t, cs, 0) := by rw [hd.2.1]; exact rec_enc h0.1 h0.2
        simp only [List.length_cons] at h2
        rw [takeF_rec hne hd.1 hn hrec, if_pos rfl, hd.2.2, takeF_over rs k (n + 1) (by omega) (by omega) (fun r hr' => hr r (by simp [hr']))]
        rfl
theorem take_over {rs : List Rec} (hn : 16 < rs.length) (hr : ∀ r ∈ rs, okR r) : takeOf (bytesR rs) = ([], 5) := by
  have e : takeA (bytesR rs) = none := takeF_over rs _ 0 (by omega) (by omega) hr
  rw [takeOf, e]

theorem okR_all {rs : List Rec} (hm : mayR rs = true) (ht : ∀ r ∈ rs, r.1 < 2 ^ 64) : ∀ r ∈ rs, okR r := fun r hr => ⟨ht r hr, (mayR_iff.1 hm).2.2 r hr⟩
/-- What is read of both. -/
theorem join_take {rs1 rs2 cs : List Rec} {E : Int} (ha : mayR rs1 = true) (hb : mayR rs2 = true) (ta : ∀ r ∈ rs1, r.1 < 2 ^ 64) (tb : ∀ r ∈ rs2, r.1 < 2 ^ 64) (h : takeOf (bytesR rs1 ++ bytesR rs2) = (cs, E)) :
    (rs1.length + rs2.length ≤ 16 ∧ E = 0 ∧ cs = rs1 ++ rs2) ∨ (¬ rs1.length + rs2.length ≤ 16 ∧ E = 5 ∧ cs = []) := by
  rw [← bytesR_app] at h
  have ht : ∀ r ∈ rs1 ++ rs2, r.1 < 2 ^ 64 := fun r hr => (List.mem_append.1 hr).elim (ta r) (tb r)
  have hok : ∀ r ∈ rs1 ++ rs2, okR r := fun r hr => (List.mem_append.1 hr).elim (okR_all ha ta r) (okR_all hb tb r)
  by_cases hn : rs1.length + rs2.length ≤ 16
  · have hm : mayR (rs1 ++ rs2) = true := mayR_iff.2 ⟨by have := (mayR_iff.1 ha).1; rw [List.length_append]; omega, by rw [List.length_append]; exact hn, fun r hr => (hok r hr).2⟩
    rw [take_enc hm ht] at h
    simp only [Prod.mk.injEq] at h
    exact .inl ⟨hn, h.2.symm, h.1.symm⟩
  · rw [take_over (by rw [List.length_append]; omega) hok] at h
    simp only [Prod.mk.injEq] at h
    exact .inr ⟨hn, h.2.symm, h.1.symm⟩
end Go.Det

/- The laws of bundles, walked. -/
set_option linter.unusedVariables false
set_option linter.unusedSimpArgs false
set_option linter.unusedSectionVars false
namespace Go.Det
open Go.Proofs
attribute [local irreducible] Wp Wo Wd iop ev slots quiets wanted put

def FewR (rs : List Rec) : Prop := (rs.length + 1) * 32 ≤ 200000000000000 ∧ ∀ r ∈ rs, r.2.length * 24 ≤ 140737488355328 ∧ ∀ l ∈ r.2, l.length ≤ maxRow
theorem few_iff {xs : List Ent} : FewE xs ↔ FewR (recsE xs) := by
  unfold FewE FewR
  rw [recs_len]
  refine and_congr Iff.rfl ⟨fun h r hr => ?_, fun h e he => ?_⟩
  · obtain ⟨e, he, rfl⟩ := List.mem_map.1 hr
    refine ⟨?_, fun l hl => ?_⟩
    · have := (h e he).1
      show (says e.ps).length * 24 ≤ _
      rw [says_len]; exact this
    · obtain ⟨p, hp, rfl⟩ := List.mem_map.1 (show l ∈ says e.ps from hl)
      exact (h e he).2 p hp
  · have := h e.tell (List.mem_map_of_mem he)
    refine ⟨?_, fun p hp => this.2 p.2 (List.mem_map_of_mem hp)⟩
    have h1 : (says e.ps).length * 24 ≤ 140737488355328 := this.1
    rw [says_len] at h1; exact h1
theorem few_first {xs : List Ent} (hf : FewE xs) (n : Nat) : FewE (xs.take n) := ⟨by have := hf.1; rw [List.length_take]; omega, fun e he => hf.2 e (List.mem_of_mem_take he)⟩
theorem Es.times {h : H} {v : AV} {xs : List Ent} (c : Es h v xs) : ∀ r ∈ recsE xs, r.1 < 2 ^ 64 := fun r hr => by
  obtain ⟨e, he, rfl⟩ := List.mem_map.1 hr
  exact (c.el e he).2
theorem putE_zero {rs : List Rec} : putE rs = 0 ↔ mayR rs = true := by
  unfold putE; split <;> simp_all
theorem putX_len (rs : List Rec) : (putX rs).length ≤ 50000 := by
  unfold putX
  split
  · rename_i hm
    obtain ⟨h1, h2, h3⟩ := mayR_iff.1 hm
    have := bytesR_len rs h3
    omega
  · simp
/-- A range of entries' rows whose bytes may be spoiled. -/
structure OwEI (lo hi : Nat) (h : H) (v : AV) (xs : List Ent) : Prop where
  k : OwE lo h v xs
  hi : Go.Det.blk v ≤ hi ∧ ∀ e ∈ xs, Go.Det.blk e.z ≤ hi ∧ ∀ p ∈ e.ps, Go.Det.blk p.1 ≤ hi
theorem OwE.rng {lo : Nat} {h : H} {v : AV} {xs : List Ent} (o : OwE lo h v xs) : Go.Det.blk v ≤ h.n ∧ ∀ e ∈ xs, Go.Det.blk e.z ≤ h.n ∧ ∀ p ∈ e.ps, Go.Det.blk p.1 ≤ h.n :=
  ⟨o.row.bd.2, fun e he => ⟨(o.el e he).1.bd.2, fun p hp => ((o.el e he).1.el p hp).bd.2⟩⟩

def trueQ (k : Nat) : Ex → St → Prop := fun e s => (e = .normal ∨ e = .ret) ∧ ∃ v, retV s.2 s.1 [(k, none)] = some v ∧ v = .bool true
attribute [local irreducible] takeOf putX putE mayR recsE
end Go.Det

/- The law BundleJoins, walked. -/
set_option linter.unusedVariables false
set_option linter.unusedSimpArgs false
set_option linter.unusedSectionVars false
namespace Go.Det
open Go.Proofs
attribute [local irreducible] Wp Wo Wd iop ev slots quiets wanted put

/-- The first entries of a row. -/
theorem Es.up {h : H} {v : AV} {xs : List Ent} (c : Es h v xs) {n : Nat} (hn : n ≤ xs.length) : ∃ z, (∀ {x y : IX} {ρ : IX → AV} {h2 : H}, ρ x = v → ρ y = .int .i64 n → iop (.slL 2 x none (some y) none) ρ h2 = some (.val z h2)) ∧ Es h z (xs.take n) := by
  rcases c.row with ⟨rfl, rfl⟩ | ⟨a, q, rfl, ha, hld⟩
  · have : n = 0 := by simpa using hn
    subst this
    refine ⟨.nils, ?_, Es.nil0⟩
    intro x y ρ h2 hx hy
    simp [iop, hx, hy, bounds, asI]
  · have hd := ldn_take hld (n := n * 2) (by omega)
    have hr : (rowE xs).take (n * 2) = rowE (xs.take n) := by
      have e := rowE_app (xs.take n) (xs.drop n)
      rw [List.take_append_drop] at e
      rw [e, List.take_left' (by rw [rowE_len, List.length_take]; omega)]
    rw [hr] at hd
    have hln : (xs.take n).length = n := by rw [List.length_take]; omega
    have hel : ∀ e ∈ xs.take n, Ch h e.z e.ps ∧ e.t < 2 ^ 64 := fun e he => c.el e (List.mem_of_mem_take he)
    rcases c.cap a _ q rfl with ⟨k, rfl, hk⟩ | rfl
    · have h1 : (n : Int) ≤ (k : Int) := by omega
      by_cases hk0 : k = 0
      · have hn0 : n = 0 := by omega
        subst hn0
        refine ⟨.sl a 0 (.ex 0), ?_, ⟨.inr ⟨a, .ex 0, rfl, ha, by simpa using hd⟩, hel, ?_⟩⟩
        · intro x y ρ h2 hx hy
          simp [iop, hx, hy, bounds, asI, hk0]
        · rintro a' m c' e
          simp only [AV.sl.injEq] at e
          obtain ⟨_, rfl, rfl⟩ := e
          exact .inl ⟨0, rfl, Nat.le_refl _⟩
      · refine ⟨.sl a n (.ex k), ?_, ⟨.inr ⟨a, .ex k, by rw [hln], ha, by rw [hln]; exact hd⟩, hel, ?_⟩⟩
        · intro x y ρ h2 hx hy
          simp [iop, hx, hy, bounds, asI, h1, hk0]
        · rintro a' m c' e
          simp only [AV.sl.injEq] at e
          obtain ⟨_, rfl, rfl⟩ := e
          exact .inl ⟨k, rfl, by omega⟩
    · refine ⟨.sl a n (.op 2), ?_, ⟨.inr ⟨a, .op 2, by rw [hln], ha, by rw [hln]; exact hd⟩, hel, ?_⟩⟩
      · intro x y ρ h2 hx hy
        have h1 : (n : Int) ≤ (xs.length : Int) := by omega
        simp [iop, hx, hy, bounds, asI, h1]
      · rintro a' m c' e
        simp only [AV.sl.injEq] at e
        obtain ⟨_, rfl, rfl⟩ := e
        exact .inr rfl

attribute [local irreducible] takeOf putX putE mayR recsE
end Go.Det

/- The law BundleBack, walked. -/
set_option linter.unusedVariables false
set_option linter.unusedSimpArgs false
set_option linter.unusedSectionVars false
namespace Go.Det
open Go.Proofs
attribute [local irreducible] Wp Wo Wd iop ev slots quiets wanted put

attribute [local irreducible] takeOf putX putE mayR recsE nameT parseT
end Go.Det

/- Functions of the program in the form that the deterministic machine runs. -/
set_option maxRecDepth 100000
namespace Go.Det
open Go.Proofs
def l18_1 : IC := IC.seq (IC.seq (IC.region [{ dst := some 37, op := IOp.mv (IX.t 7), guard := none }, { dst := some 38, op := IOp.bin (BinOp.lss) (IX.t 37) (IX.c (AV.int (IntKind.i64) 17)), guard := none }]) (IC.cond (IX.t 38) (IC.skip) (IC.exit 2))) (IC.seq (IC.block 3 (IC.region [{ dst := some 41, op := IOp.mv (IX.t 6), guard := none }, { dst := some 42, op := IOp.mv (IX.t 7), guard := none }, { dst := some 43, op := IOp.cvI (IntKind.u64) (IX.t 42), guard := none }, { dst := some 44, op := IOp.mv (IX.t 7), guard := none }, { dst := some 45, op := IOp.cvI (IntKind.u8) (IX.t 44), guard := none }, { dst := some 46, op := IOp.bsl 5 [AV.int (IntKind.u8) 0] 1 [(0, 1, IX.t 45)], guard := none }, { dst := some 47, op := IOp.mkS 5 [AV.int (IntKind.u8) 0] 1 (IX.c (AV.int (IntKind.i64) 512)) (IX.c (AV.int (IntKind.i64) 512)), guard := none }, { dst := some 48, op := IOp.bsl 22 [AV.nils, AV.nils] 2 [(0, 1, IX.t 46), (1, 1, IX.t 47)], guard := none }, { dst := some 49, op := IOp.build [AV.int (IntKind.u64) 0, AV.nils] [(0, 1, IX.t 43), (1, 1, IX.t 48)], guard := none }, { dst := some 50, op := IOp.bsl 70 [AV.int (IntKind.u64) 0, AV.nils] 1 [(0, 2, IX.t 49)], guard := none }, { dst := some 51, op := IOp.app 70 2 32 false (IX.t 41) (IX.t 50), guard := none }, { dst := some 6, op := IOp.mv (IX.t 51), guard := none }])) (IC.region [{ dst := some 39, op := IOp.mv (IX.t 7), guard := none }, { dst := some 40, op := IOp.bin (BinOp.add) (IX.t 39) (IX.c (AV.int (IntKind.i64) 1)), guard := none }, { dst := some 7, op := IOp.mv (IX.t 40), guard := none }]))
def l18_2 : IC := IC.seq (IC.seq (IC.region [{ dst := some 23, op := IOp.mv (IX.t 2), guard := none }, { dst := some 24, op := IOp.bin (BinOp.lss) (IX.t 23) (IX.c (AV.int (IntKind.i64) 11)), guard := none }]) (IC.cond (IX.t 24) (IC.skip) (IC.exit 0))) (IC.seq (IC.block 1 (IC.seq (IC.region [{ dst := some 28, op := IOp.mv (IX.t 2), guard := none }, { dst := some 29, op := IOp.iaA 11 1 (IX.t 1) (IX.t 28), guard := none }, { dst := some 30, op := IOp.ld none (IX.t 29), guard := none }, { dst := some 31, op := IOp.call 60 [IX.t 30], guard := none }, { dst := some 27, op := IOp.mv (IX.t 31), guard := none }, { dst := some 32, op := IOp.ext (IX.t 27) 0, guard := none }, { dst := some 33, op := IOp.ext (IX.t 27) 1, guard := none }, { dst := some 34, op := IOp.ext (IX.t 27) 2, guard := none }, { dst := some 3, op := IOp.mv (IX.t 32), guard := none }, { dst := some 4, op := IOp.mv (IX.t 33), guard := none }, { dst := some 5, op := IOp.mv (IX.t 34), guard := none }]) (IC.seq (IC.region [{ dst := some 35, op := IOp.mv (IX.t 5), guard := none }, { dst := some 36, op := IOp.bin (BinOp.neq) (IX.t 35) (IX.c (AV.int (IntKind.i64) 5)), guard := none }]) (IC.cond (IX.t 36) (IC.seq (IC.region [{ dst := some 0, op := IOp.mv (IX.c (AV.bool false)), guard := none }]) (IC.ret)) (IC.skip))))) (IC.region [{ dst := some 25, op := IOp.mv (IX.t 2), guard := none }, { dst := some 26, op := IOp.bin (BinOp.add) (IX.t 25) (IX.c (AV.int (IntKind.i64) 1)), guard := none }, { dst := some 2, op := IOp.mv (IX.t 26), guard := none }]))
/-- escritoire/escritoirelaw17.BundleKnown params 0 -/
def ir18 : IFunc := { ntmps := 119, results := [(0, none)], body := IC.seq (IC.region [{ dst := some 0, op := IOp.mv (IX.c (AV.bool false)), guard := none }]) (IC.seq (IC.region [{ dst := some 22, op := IOp.build [AV.str [], AV.str [], AV.str [], AV.str [], AV.str [], AV.str [], AV.str [], AV.str [], AV.str [], AV.str [], AV.str []] [(0, 1, IX.c (AV.str [])), (1, 1, IX.c (AV.str [98, 45, 48, 48, 48, 48, 48, 51, 45, 55])), (2, 1, IX.c (AV.str [98, 45, 48, 48, 48, 48, 48, 51, 45, 48, 48, 55])), (3, 1, IX.c (AV.str [98, 45, 48, 48, 48, 48, 48, 51, 45, 49, 55])), (4, 1, IX.c (AV.str [98, 45, 51, 45, 48, 55])), (5, 1, IX.c (AV.str [98, 95, 48, 48, 48, 48, 48, 51, 45, 48, 55])), (6, 1, IX.c (AV.str [98, 45, 48, 48, 48, 48, 48, 51, 95, 48, 55])), (7, 1, IX.c (AV.str [116, 45, 48, 48, 48, 48, 48, 51, 45, 48, 55])), (8, 1, IX.c (AV.str [98, 45, 48, 48, 48, 48, 48, 97, 45, 48, 55])), (9, 1, IX.c (AV.str [98, 45, 48, 48, 48, 48, 48, 51, 45, 48, 97])), (10, 1, IX.c (AV.str [98, 45, 48, 48, 48, 48, 48, 51, 45, 48, 55, 120]))], guard := none }, { dst := some 1, op := IOp.new 116 (IX.c (AV.agg [AV.str [], AV.str [], AV.str [], AV.str [], AV.str [], AV.str [], AV.str [], AV.str [], AV.str [], AV.str [], AV.str []])), guard := none }, { dst := none, op := IOp.st 11 (IX.t 1) (IX.t 22), guard := none }]) (IC.seq (IC.seq (IC.region [{ dst := some 2, op := IOp.mv (IX.c (AV.int (IntKind.i64) 0)), guard := none }]) (IC.block 0 (IC.loop l18_2))) (IC.seq (IC.region [{ dst := some 6, op := IOp.mv (IX.c (AV.nils)), guard := none }]) (IC.seq (IC.seq (IC.region [{ dst := some 7, op := IOp.mv (IX.c (AV.int (IntKind.i64) 0)), guard := none }]) (IC.block 2 (IC.loop l18_1))) (IC.seq (IC.region [{ dst := some 53, op := IOp.mv (IX.t 6), guard := none }, { dst := some 54, op := IOp.call 64 [IX.t 53], guard := none }, { dst := some 52, op := IOp.mv (IX.t 54), guard := none }, { dst := some 55, op := IOp.ext (IX.t 52) 0, guard := none }, { dst := some 56, op := IOp.ext (IX.t 52) 1, guard := none }, { dst := some 8, op := IOp.mv (IX.t 55), guard := none }, { dst := some 9, op := IOp.mv (IX.t 56), guard := none }]) (IC.seq (IC.region [{ dst := some 58, op := IOp.mv (IX.t 6), guard := none }, { dst := some 59, op := IOp.slL 2 (IX.t 58) none (some (IX.c (AV.int (IntKind.i64) 16))) none, guard := none }, { dst := some 60, op := IOp.call 64 [IX.t 59], guard := none }, { dst := some 57, op := IOp.mv (IX.t 60), guard := none }, { dst := some 61, op := IOp.ext (IX.t 57) 0, guard := none }, { dst := some 62, op := IOp.ext (IX.t 57) 1, guard := none }, { dst := some 10, op := IOp.mv (IX.t 61), guard := none }, { dst := some 11, op := IOp.mv (IX.t 62), guard := none }]) (IC.seq (IC.region [{ dst := some 64, op := IOp.mv (IX.t 6), guard := none }, { dst := some 65, op := IOp.slL 2 (IX.t 64) (some (IX.c (AV.int (IntKind.i64) 16))) none none, guard := none }, { dst := some 66, op := IOp.call 64 [IX.t 65], guard := none }, { dst := some 63, op := IOp.mv (IX.t 66), guard := none }, { dst := some 67, op := IOp.ext (IX.t 63) 0, guard := none }, { dst := some 68, op := IOp.ext (IX.t 63) 1, guard := none }, { dst := some 12, op := IOp.mv (IX.t 67), guard := none }, { dst := some 13, op := IOp.mv (IX.t 68), guard := none }]) (IC.seq (IC.region [{ dst := some 70, op := IOp.mv (IX.t 10), guard := none }, { dst := some 71, op := IOp.mv (IX.t 12), guard := none }, { dst := some 72, op := IOp.app 5 1 1 false (IX.t 70) (IX.t 71), guard := none }, { dst := some 73, op := IOp.call 66 [IX.t 72], guard := none }, { dst := some 69, op := IOp.mv (IX.t 73), guard := none }, { dst := some 74, op := IOp.ext (IX.t 69) 0, guard := none }, { dst := some 75, op := IOp.ext (IX.t 69) 1, guard := none }, { dst := some 14, op := IOp.mv (IX.t 74), guard := none }, { dst := some 15, op := IOp.mv (IX.t 75), guard := none }]) (IC.seq (IC.region [{ dst := some 77, op := IOp.build [AV.int (IntKind.u64) 0, AV.nils] [], guard := none }, { dst := some 78, op := IOp.bsl 70 [AV.int (IntKind.u64) 0, AV.nils] 1 [(0, 2, IX.t 77)], guard := none }, { dst := some 79, op := IOp.call 64 [IX.t 78], guard := none }, { dst := some 76, op := IOp.mv (IX.t 79), guard := none }, { dst := some 80, op := IOp.ext (IX.t 76) 0, guard := none }, { dst := some 81, op := IOp.ext (IX.t 76) 1, guard := none }, { dst := some 16, op := IOp.mv (IX.t 80), guard := none }, { dst := some 17, op := IOp.mv (IX.t 81), guard := none }]) (IC.seq (IC.region [{ dst := some 83, op := IOp.call 58 [IX.c (AV.int (IntKind.u64) 1000000), IX.c (AV.int (IntKind.i64) 1)], guard := none }, { dst := some 82, op := IOp.mv (IX.t 83), guard := none }, { dst := some 84, op := IOp.ext (IX.t 82) 0, guard := none }, { dst := some 85, op := IOp.ext (IX.t 82) 1, guard := none }, { dst := some 18, op := IOp.mv (IX.t 84), guard := none }, { dst := some 19, op := IOp.mv (IX.t 85), guard := none }]) (IC.seq (IC.region [{ dst := some 87, op := IOp.call 58 [IX.c (AV.int (IntKind.u64) 0), IX.c (AV.int (IntKind.i64) 17)], guard := none }, { dst := some 86, op := IOp.mv (IX.t 87), guard := none }, { dst := some 88, op := IOp.ext (IX.t 86) 0, guard := none }, { dst := some 89, op := IOp.ext (IX.t 86) 1, guard := none }, { dst := some 20, op := IOp.mv (IX.t 88), guard := none }, { dst := some 21, op := IOp.mv (IX.t 89), guard := none }]) (IC.seq (IC.region [{ dst := some 90, op := IOp.mv (IX.t 9), guard := none }, { dst := some 91, op := IOp.bin (BinOp.eql) (IX.t 90) (IX.c (AV.int (IntKind.i64) 1)), guard := none }, { dst := some 92, op := IOp.mv (IX.t 91), guard := none }, { dst := some 93, op := IOp.mv (IX.t 11), guard := some (92, true) }, { dst := some 94, op := IOp.bin (BinOp.eql) (IX.t 93) (IX.c (AV.int (IntKind.i64) 0)), guard := some (92, true) }, { dst := some 95, op := IOp.pick (IX.t 92) (IX.t 94) (IX.c (AV.bool false)), guard := none }, { dst := some 96, op := IOp.mv (IX.t 95), guard := none }, { dst := some 97, op := IOp.mv (IX.t 13), guard := some (96, true) }, { dst := some 98, op := IOp.bin (BinOp.eql) (IX.t 97) (IX.c (AV.int (IntKind.i64) 0)), guard := some (96, true) }, { dst := some 99, op := IOp.pick (IX.t 96) (IX.t 98) (IX.c (AV.bool false)), guard := none }, { dst := some 100, op := IOp.mv (IX.t 99), guard := none }, { dst := some 101, op := IOp.mv (IX.t 15), guard := some (100, true) }, { dst := some 102, op := IOp.bin (BinOp.eql) (IX.t 101) (IX.c (AV.int (IntKind.i64) 5)), guard := some (100, true) }, { dst := some 103, op := IOp.pick (IX.t 100) (IX.t 102) (IX.c (AV.bool false)), guard := none }, { dst := some 104, op := IOp.mv (IX.t 103), guard := none }, { dst := some 105, op := IOp.mv (IX.t 17), guard := some (104, true) }, { dst := some 106, op := IOp.bin (BinOp.eql) (IX.t 105) (IX.c (AV.int (IntKind.i64) 1)), guard := some (104, true) }, { dst := some 107, op := IOp.pick (IX.t 104) (IX.t 106) (IX.c (AV.bool false)), guard := none }, { dst := some 108, op := IOp.mv (IX.t 107), guard := none }, { dst := some 109, op := IOp.mv (IX.t 19), guard := some (108, true) }, { dst := some 110, op := IOp.bin (BinOp.eql) (IX.t 109) (IX.c (AV.int (IntKind.i64) 1)), guard := some (108, true) }, { dst := some 111, op := IOp.pick (IX.t 108) (IX.t 110) (IX.c (AV.bool false)), guard := none }, { dst := some 112, op := IOp.mv (IX.t 111), guard := none }, { dst := some 113, op := IOp.mv (IX.t 21), guard := some (112, true) }, { dst := some 114, op := IOp.bin (BinOp.eql) (IX.t 113) (IX.c (AV.int (IntKind.i64) 1)), guard := some (112, true) }, { dst := some 115, op := IOp.pick (IX.t 112) (IX.t 114) (IX.c (AV.bool false)), guard := none }, { dst := some 116, op := IOp.mv (IX.t 115), guard := none }, { dst := some 117, op := IOp.call 62 [], guard := some (116, true) }, { dst := some 118, op := IOp.pick (IX.t 116) (IX.t 117) (IX.c (AV.bool false)), guard := none }, { dst := some 0, op := IOp.mv (IX.t 118), guard := none }]) (IC.ret))))))))))))), known := false } 
theorem f18 : TF 18 = some ir18 := by kernel_rfl
end Go.Det

/- The law BundleKnown, walked: its calls by their contracts. -/
set_option linter.unusedVariables false
set_option linter.unusedSimpArgs false
set_option linter.unusedSectionVars false
namespace Go.Det
open Go.Proofs
attribute [local irreducible] Wp Wo Wd iop ev slots quiets wanted put

/-- What a name must show. -/
def okB (s : List UInt8) : Bool := s.length == 11 && s.take 2 == [98, 45] && (s.drop 8).take 1 == [45] && ((s.take 8).drop 2).all (fun c => decide (48 ≤ c.toNat ∧ c.toNat ≤ 57)) && (s.drop 9).all (fun c => decide (48 ≤ c.toNat ∧ c.toNat ≤ 57))
theorem okB_of {s : List UInt8} (h : okS s) : okB s = true := by
  obtain ⟨hl, hok⟩ := h
  obtain ⟨c0, c1, c2, c3, c4, c5, c6, c7, c8, c9, c10, rfl⟩ := len11 hl
  have d2 := ok_digit (hok 2 (by omega)) (c := c2) rfl rfl
  have d3 := ok_digit (hok 3 (by omega)) (c := c3) rfl rfl
  have d4 := ok_digit (hok 4 (by omega)) (c := c4) rfl rfl
  have d5 := ok_digit (hok 5 (by omega)) (c := c5) rfl rfl
  have d6 := ok_digit (hok 6 (by omega)) (c := c6) rfl rfl
  have d7 := ok_digit (hok 7 (by omega)) (c := c7) rfl rfl
  have d9 := ok_digit (hok 9 (by omega)) (c := c9) rfl rfl
  have d10 := ok_digit (hok 10 (by omega)) (c := c10) rfl rfl
  have k0 : c0 = 98 := by
    obtain ⟨c, f, h1, h2, h3⟩ := hok 0 (by omega)
    cases h1; cases h2
    rw [if_neg (by decide)] at h3; exact h3
  have k1 : c1 = 45 := by
    obtain ⟨c, f, h1, h2, h3⟩ := hok 1 (by omega)
    cases h1; cases h2
    rw [if_neg (by decide)] at h3; exact h3
  have k8 : c8 = 45 := by
    obtain ⟨c, f, h1, h2, h3⟩ := hok 8 (by omega)
    cases h1; cases h2
    rw [if_neg (by decide)] at h3; exact h3
  subst k0; subst k1; subst k8
  simp [okB, d2, d3, d4, d5, d6, d7, d9, d10]
theorem parse_no {s : List UInt8} {n w : Nat} {E : Int} (h : parseT s n w E) (hb : (okB s && decide (1 ≤ widS s) && decide (widS s ≤ 16)) = false) : E = 5 := by
  rcases parseT_cases h with ⟨_, ok, h1, h2, _, h3⟩ | ⟨e, _⟩
  · rw [okB_of ok] at hb
    simp at hb
    have := hb (by omega)
    omega
  · exact e
theorem name_no {n : Nat} {w : Int} {s : List UInt8} {E : Int} (h : nameT n w s E) (hb : ¬ ((n : Int) < 1000000 ∧ 1 ≤ w ∧ w ≤ 16)) : E = 1 := by
  rcases nameT_cases h with ⟨_, h1, h2, h3, _⟩ | ⟨e, _⟩
  · exact absurd ⟨by omega, h2, h3⟩ hb
  · exact e
theorem nameK1 {h : H} : ∃ r h', Runs TF 58 [.int .u64 1000000, .int .i64 1] h r h' ∧ ∃ s E, r = .tup [.str s, .int .i64 E] ∧ Ext h h' ∧ nameT 1000000 1 s E := nameJ (n := 1000000) (by decide) 1
theorem nameK2 {h : H} : ∃ r h', Runs TF 58 [.int .u64 0, .int .i64 17] h r h' ∧ ∃ s E, r = .tup [.str s, .int .i64 E] ∧ Ext h h' ∧ nameT 0 17 s E := nameJ (n := 0) (by decide) 17

/-- The entries that the law makes. -/
def recK (i : Nat) : Rec := (i, [[UInt8.ofNat i], List.replicate 512 0])
def recsK (n : Nat) : List Rec := (List.range n).map recK
theorem recsK_succ (n : Nat) : recsK (n + 1) = recsK n ++ [recK n] := by simp [recsK, List.range_succ]
theorem recK_may (i : Nat) : mayS (recK i).2 = true := by
  have h : mayC (List.replicate 512 (0 : UInt8)) = true := by unfold mayC; rw [List.length_replicate]; rfl
  show (true && (mayC [UInt8.ofNat i] && (mayC (List.replicate 512 0) && true))) = true
  rw [h]; rfl
theorem recsK_len (n : Nat) : (recsK n).length = n := by simp [recsK]
theorem recsK_may {n : Nat} {r : Rec} (h : r ∈ recsK n) : mayS r.2 = true := by
  obtain ⟨i, _, rfl⟩ := List.mem_map.1 h
  exact recK_may i
theorem mayK {rs : List Rec} (h1 : 1 ≤ rs.length) (h2 : rs.length ≤ 16) (h : ∀ r ∈ rs, mayS r.2 = true) : mayR rs = true := mayR_iff.2 ⟨h1, h2, h⟩
theorem few_K {rs : List Rec} (h2 : rs.length ≤ 17) (h : ∀ r ∈ rs, mayS r.2 = true) : FewR rs := by
  have hmx : 200000000000000 = maxRow := rfl
  refine ⟨by omega, fun r hr => ?_⟩
  obtain ⟨g1, g2, g3⟩ := mayS_small (h r hr)
  exact ⟨by omega, fun l hl => by have := (g3 l hl).2; omega⟩

theorem zerosAV : ∀ n, (List.replicate n [AV.int .u8 0]).flatten = bytesAV (List.replicate n 0)
  | 0 => rfl
  | n + 1 => by rw [List.replicate_succ, List.replicate_succ, List.flatten_cons, zerosAV n]; rfl
/-- A row of zeros, made. -/
theorem Wo.mkZ {o : IOper} {x y : IX} {l : List IOper} {ts : List AV} {h : H} {Q : List AV → H → Prop} (n : Nat) (ho : o.op = .mkS 5 [.int .u8 0] 1 x y) (hg : wanted o.guard ts = true) (hx : ev ts x = .int .i64 n) (hy : ev ts y = .int .i64 n) (hn : n ≤ 1000000)
    (hQ : ∀ H', Fr No h H' → Ow h.n H' (.sl ⟨h.n, 0, 0⟩ n (.ex n)) (List.replicate n 0) → Wo TF l (put ts o.dst (.sl ⟨h.n, 0, 0⟩ n (.ex n))) H' Q) : Wo TF (o :: l) ts h Q := by
  have hmx : 200000000000000 = maxRow := rfl
  have e := zerosAV n
  have hi : iop o.op (ev ts) h = some (.val (.sl ⟨h.n, 0, 0⟩ n (.ex n)) (h.new (.cells 0 5 (bytesAV (List.replicate n 0)) 0 false))) := by
    rw [ho]
    simp only [iop, hx, hy, asI, e]
    rw [if_pos (by simp; omega)]
    have e2 : (List.replicate n (AV.int .u8 0)) = bytesAV (List.replicate n 0) := by simp [bytesAV]
    simp [e2]
  refine Wo.val _ _ hg hi (hQ _ (Ext.new h _).fr ?_)
  refine .inr ⟨h.n, 0, Nat.le_refl _, by simp, h.get_new _, .inr ?_⟩
  simp

/-- A row of one byte, written out. -/
theorem Wo.lit1 {o : IOper} {x : IX} {l : List IOper} {ts : List AV} {h : H} {Q : List AV → H → Prop} (c : UInt8) (ho : o.op = .bsl 5 [.int .u8 0] 1 [(0, 1, x)]) (hg : wanted o.guard ts = true) (hx : ev ts x = .int .u8 c.toNat)
    (hQ : ∀ H', Fr No h H' → Ow h.n H' (.sl ⟨h.n, 0, 0⟩ 1 (.ex 1)) [c] → Wo TF l (put ts o.dst (.sl ⟨h.n, 0, 0⟩ 1 (.ex 1))) H' Q) : Wo TF (o :: l) ts h Q := by
  have hi : iop o.op (ev ts) h = some (.val (.sl ⟨h.n, 0, 0⟩ 1 (.ex 1)) (h.new (.cells 0 5 (bytesAV [c]) 0 false))) := by
    rw [ho]
    simp [iop, fillL, hx, AV.cells, putAt, AV.one, bytesAV]
  exact Wo.val _ _ hg hi (hQ _ (Ext.new h _).fr (.inr ⟨h.n, 0, Nat.le_refl _, by simp, h.get_new _, .inr rfl⟩))
theorem iop_cv8 {x : IX} {ρ : IX → AV} {h : H} {i : Nat} (hx : ρ x = .int .i64 i) (hi : i < 256) : iop (.cvI .u8 x) ρ h = some (.val (.int .u8 (UInt8.ofNat i).toNat) h) := by
  have e : IntKind.u8.wrap (i : Int) = ((UInt8.ofNat i).toNat : Int) := by
    rw [u8_fit _ (by omega), UInt8.toNat_ofNat']; omega
  simp [iop, hx, asI, e]
/-- A chain of two, written out. -/
theorem Wo.lit22 {o : IOper} {x y : IX} {l : List IOper} {ts : List AV} {h : H} {Q : List AV → H → Prop} {lo lo1 lo2 : Nat} {c d : AV} {cl dl : List UInt8} (oc : Ow lo1 h c cl) (od : Ow lo2 h d dl) (l0 : lo ≤ h.n) (l1 : lo ≤ lo1) (l2 : lo ≤ lo2) (ho : o.op = .bsl 22 [.nils, .nils] 2 [(0, 1, x), (1, 1, y)]) (hg : wanted o.guard ts = true) (hx : ev ts x = c) (hy : ev ts y = d)
    (hQ : ∀ H', Fr No h H' → OwI lo H'.n H' (.sl ⟨h.n, 0, 0⟩ 2 (.ex 2)) [(c, cl), (d, dl)] → Wo TF l (put ts o.dst (.sl ⟨h.n, 0, 0⟩ 2 (.ex 2))) H' Q) : Wo TF (o :: l) ts h Q := by
  have p1 := oc.parts
  have p2 := od.parts
  have hi : iop o.op (ev ts) h = some (.val (.sl ⟨h.n, 0, 0⟩ 2 (.ex 2)) (h.new (.cells 0 22 [c, d] 0 false))) := by
    rw [ho]
    simp [iop, fillL, hx, hy, p1.1, p2.1, p1.2.1, p2.2.1, putAt]
  have X := Ext.new h (.cells 0 22 [c, d] 0 false)
  refine Wo.val _ _ hg hi (hQ _ X.fr (OwI.of ⟨.inr ⟨h.n, 0, .ex 2, l0, by simp, h.get_new _, rfl, .inr rfl⟩, fun p hp => ?_⟩))
  simp only [List.mem_cons, List.not_mem_nil, or_false] at hp
  rcases hp with rfl | rfl
  · exact (oc.ext X).mono l1
  · exact (od.ext X).mono l2
/-- A row of one entry without a chain. -/
theorem Wo.lit70 {o : IOper} {x : IX} {l : List IOper} {ts : List AV} {h : H} {Q : List AV → H → Prop} (ho : o.op = .bsl 70 [.int .u64 0, .nils] 1 [(0, 2, x)]) (hg : wanted o.guard ts = true) (hx : ev ts x = .agg [.int .u64 0, .nils])
    (hQ : ∀ H', Fr No h H' → OwE h.n H' (.sl ⟨h.n, 0, 0⟩ 1 (.ex 1)) [⟨0, .nils, []⟩] → Wo TF l (put ts o.dst (.sl ⟨h.n, 0, 0⟩ 1 (.ex 1))) H' Q) : Wo TF (o :: l) ts h Q := by
  have hi : iop o.op (ev ts) h = some (.val (.sl ⟨h.n, 0, 0⟩ 1 (.ex 1)) (h.new (.cells 0 70 [.int .u64 0, .nils] 0 false))) := by
    rw [ho]
    simp [iop, fillL, hx, AV.cells, putAt, AV.one]
  refine Wo.val _ _ hg hi (hQ _ (Ext.new h _).fr ⟨.inr ⟨h.n, 0, .ex 1, Nat.le_refl _, by simp, h.get_new _, rfl, rfl, .inr rfl⟩, fun e he => ?_⟩)
  simp only [List.mem_cons, List.not_mem_nil, or_false] at he
  subst he
  exact ⟨⟨.inl ⟨rfl, rfl⟩, fun p hp => by simp at hp⟩, by decide⟩

theorem recs_K {ys : List Ent} {i : Nat} {z c d : AV} (h : recsE ys = recsK i) : recsE (ys ++ [⟨i, z, [(c, [UInt8.ofNat i]), (d, List.replicate 512 0)]⟩]) = recsK (i + 1) := by
  rw [recs_add, h, recsK_succ]; rfl

set_option maxHeartbeats 8000000 in
theorem made18_loop {h0 : H} :
    ∀ (k i : Nat), i + k = 17 → ∀ (h : H) (lV : AV) (ys : List Ent) (ts : List AV), Ext h0 h → OwE h0.n h lV ys → recsE ys = recsK i → ys.length = i → ts.length = 119 → getL ts 6 = some lV → getL ts 7 = some (.int .i64 i) →
      ∀ (Q : Ex → St → Prop), (∀ ts' h' lV zs, Ext h0 h' → OwE h0.n h' lV zs → recsE zs = recsK 17 → ts'.length = 119 → getL ts' 6 = some lV → Q (.exit 2) (ts', h')) → Wp TF (.loop l18_1) (ts, h) Q := by
  have hmx : 200000000000000 = maxRow := rfl
  intro k
  induction k with
  | zero =>
    intro i hi h lV ys ts hE hO hr hl t0 t6 t7 Q hQ
    obtain rfl : i = 17 := by omega
    refine Wp.loop ?_
    rw [laid_eq t0 [(6, lV), (7, .int .i64 (17 : Nat))] (by simp [t6, t7])]
    have m1 := hO.bq
    have k2 := hO.parts
    have m3 := hE.1
    refine Wp.seq ?_
    refine Wp.seq ?_
    refine Wp.region ?_
    refine Wo.pre 1 (by kernel_rfl) ?_
    refine Wo.pre 1 (by kernel_rfl) ?_
    refine Wo.nil ?_
    refine Wp.cond false (by kernel_rfl) ?_
    refine Wp.exit ?_
    exact hQ _ _ lV ys hE hO hr (by kernel_rfl) (by kernel_rfl)
  | succ k ih =>
    intro i hi h lV ys ts hE hO hr hl t0 t6 t7 Q hQ
    have n0 := hE.1
    refine Wp.loop ?_
    rw [laid_eq t0 [(6, lV), (7, .int .i64 i)] (by simp [t6, t7])]
    have m1 := hO.bq
    have k2 := hO.parts
    have m3 := hE.1
    refine Wp.seq ?_
    refine Wp.seq ?_
    refine Wp.region ?_
    refine Wo.pre 1 (by kernel_rfl) ?_
    refine Wo.cmp (op := .lss) (x := IX.t 37) (y := IX.c (AV.int IntKind.i64 17)) (k := IntKind.i64) (a := ↑i) (b := 17) ((↑i : Int) < (17 : Int)) (by kernel_rfl) (by kernel_rfl) (by kernel_rfl) (by kernel_rfl) (by simp) (by kernel_rfl) (fun q4 => ?_) (fun q4 => ?_)
    rotate_left
    · (exfalso; omega)
    refine Wo.nil ?_
    refine Wp.cond true (by kernel_rfl) ?_
    refine Wp.skip ?_
    refine Wp.seq ?_
    refine Wp.block ?_
    refine Wp.region ?_
    refine Wo.pre 2 (by kernel_rfl) ?_
    refine Wo.val (.int IntKind.u64 (↑i)) h (by kernel_rfl) (iop_cvIfit (k := IntKind.u64) (kk := IntKind.i64) (a := ↑i) (by kernel_rfl) (by simp only [min_u64]; omega) (by simp only [max_u64]; omega)) ?_
    refine Wo.pre 1 (by kernel_rfl) ?_
    refine Wo.val (.int .u8 (UInt8.ofNat i).toNat) _ (by kernel_rfl) (iop_cv8 (i := i) (by kernel_rfl) (by omega)) ?_
    (refine Wo.lit1 (UInt8.ofNat i) rfl (by kernel_rfl) (by kernel_rfl) (fun Ha Xa Oa => ?_); have na := Xa.1; have qa := Oa.bq; have pa := Oa.parts)
    (refine Wo.mkZ 512 rfl (by kernel_rfl) (by kernel_rfl) (by kernel_rfl) (by decide) (fun Hb Xb Ob => ?_); have nb := Xb.1; have qb := Ob.bq; have pb := Ob.parts)
    ( refine Wo.lit22 (lo := h.n) (Oa.fr Xb (.inr id)) Ob (by have := Xa.1; have := Xb.1; omega) (by omega) (by have := Xa.1; omega) rfl (by kernel_rfl) (by kernel_rfl) (by kernel_rfl) (fun Hc Xc Oc => ?_); have nc := Xc.1; have qc := Oc.bq; have pc := Oc.parts)
    refine Wo.val (.agg [AV.int IntKind.u64 ↑i, AV.sl { b := Hb.n, g := 0, o := 0 } 2 (Cp.ex 2)]) Hc (by kernel_rfl) (iop_buildP (fill_cons (v := AV.int IntKind.u64 ↑i) (vs := [AV.int IntKind.u64 ↑i]) (by kernel_rfl) rfl (by kernel_rfl) (fill_cons (v := AV.sl { b := Hb.n, g := 0, o := 0 } 2 (Cp.ex 2)) (vs := [AV.sl { b := Hb.n, g := 0, o := 0 } 2 (Cp.ex 2)]) (by kernel_rfl) rfl (by kernel_rfl) rfl))) ?_
    obtain ⟨H5, e5, P5, X5, n5⟩ := bsl_new Hc 70 [AV.int IntKind.u64 ↑i, AV.sl { b := Hb.n, g := 0, o := 0 } 2 (Cp.ex 2)] (ones_cons rfl (ones_cons rfl ones_nil))
    refine Wo.val (.sl ⟨H.n Hc, 0, 0⟩ 1 (.ex 1)) H5 (by kernel_rfl) (e5 (fill_cons (v := AV.agg [AV.int IntKind.u64 ↑i, AV.sl { b := Hb.n, g := 0, o := 0 } 2 (Cp.ex 2)]) (vs := [AV.int IntKind.u64 ↑i, AV.sl { b := Hb.n, g := 0, o := 0 } 2 (Cp.ex 2)]) (by kernel_rfl) rfl (by kernel_rfl) rfl)) ?_
    clear e5
    have m6 := X5.1
    have F7 := (hO.fr (((Xa.trans0 Xb).trans0 Xc).trans0 X5) (fun _ e => e.elim))
    have F8 := (Oc.fr X5 (fun _ e => e.elim))
    obtain ⟨v9, H10, a11, q12, X13⟩ := app70_one (lo := h0.n) (lo2 := h.n) (hi2 := Hc.n) (b := Hc.n) (t := i) P5 F7 F8 (by first | omega | (simp; omega) | (simp; done) | assumption) (by first | omega | (simp; omega) | (simp; done) | assumption) n0 (by first | omega | (simp; omega) | (simp; done) | assumption)
    refine Wo.val _ _ (by kernel_rfl) (iop_appG (v := lV) (w := AV.sl { b := Hc.n, g := 0, o := 0 } 1 (Cp.ex 1)) (by kernel_rfl) (by kernel_rfl) rfl a11) ?_
    have m14 := q12.bq
    have k15 := q12.parts
    have m16 := X13.1
    refine Wo.pre 1 (by kernel_rfl) ?_
    refine Wo.nil ?_
    refine Wp.region ?_
    refine Wo.pre 1 (by kernel_rfl) ?_
    refine Wo.val (.int IntKind.i64 ((↑i : Int) + (1 : Int))) H10 (by kernel_rfl) (iop_arith (op := .add) (a := ↑i) (b := 1) (by kernel_rfl) (by kernel_rfl) (by simp) (bin_add IntKind.i64 (by simp only [min_i64]; omega) (by simp only [max_i64]; omega))) ?_
    refine Wo.pre 1 (by kernel_rfl) ?_
    refine Wo.nil ?_
    exact ih (i + 1) (by omega) _ _ _ _ ((((((hE.fr.trans0 Xa).trans0 Xb).trans0 Xc).trans0 X5).transL X13).ext (by have d0 := m1.1.e; intro s hs; first | omega | (dsimp only at hs; omega) | (simp only [blk_nils, blk_sl] at hs ⊢; omega))) q12 (by exact recs_K hr) (by ((rw [List.length_append]; simp only [List.length_cons, List.length_nil]; omega))) (by kernel_rfl) (by kernel_rfl) (by kernel_rfl) Q hQ

/-- The last entries of a row. -/
theorem Es.since {h : H} {v : AV} {xs : List Ent} (c : Es h v xs) {n : Nat} (hn : n ≤ xs.length) : ∃ z, (∀ {x y : IX} {ρ : IX → AV} {h2 : H}, ρ x = v → ρ y = .int .i64 n → iop (.slL 2 x (some y) none none) ρ h2 = some (.val z h2)) ∧ Es h z (xs.drop n) := by
  rcases c.row with ⟨rfl, rfl⟩ | ⟨a, q, rfl, ha, hld⟩
  · have : n = 0 := by simpa using hn
    subst this
    refine ⟨.nils, ?_, Es.nil0⟩
    intro x y ρ h2 hx hy
    simp [iop, hx, hy, bounds, asI]
  · have hd := ldn_drop hld (n := n * 2) (by omega)
    have hr : (rowE xs).drop (n * 2) = rowE (xs.drop n) := by
      have e := rowE_app (xs.take n) (xs.drop n)
      rw [List.take_append_drop] at e
      rw [e, List.drop_left' (by rw [rowE_len, List.length_take]; omega)]
    rw [hr, ← Nat.sub_mul] at hd
    have hln : (xs.drop n).length = xs.length - n := by rw [List.length_drop]
    have hel : ∀ e ∈ xs.drop n, Ch h e.z e.ps ∧ e.t < 2 ^ 64 := fun e he => c.el e (List.mem_of_mem_drop he)
    rcases c.cap a _ q rfl with ⟨k, rfl, hk⟩ | rfl
    · have h1 : (n : Int) ≤ (k : Int) := by omega
      have h3 : (n : Int) ≤ (xs.length : Int) := by omega
      by_cases hk0 : k = n
      · subst hk0
        have hz : xs.length - k = 0 := by omega
        refine ⟨.sl a 0 (.ex 0), ?_, ⟨.inr ⟨a, .ex 0, by rw [hln, hz], ha, ?_⟩, hel, ?_⟩⟩
        · intro x y ρ h2 hx hy
          have hk' : k = xs.length := by omega
          simp [iop, hx, hy, bounds, asI, hk']
        · rw [hln, hz]
          have := ldn_take hld (n := 0) (by omega)
          have e0 : xs.drop k = [] := List.drop_eq_nil_of_le (by omega)
          rw [e0]
          rw [Nat.zero_mul] at *
          rw [this]; rfl
        · rintro a' m c' e
          simp only [AV.sl.injEq] at e
          obtain ⟨_, rfl, rfl⟩ := e
          exact .inl ⟨0, rfl, Nat.le_refl _⟩
      · refine ⟨.sl ⟨a.b, a.g, a.o + n * 2⟩ (xs.length - n) (.ex (k - n)), ?_, ⟨.inr ⟨⟨a.b, a.g, a.o + n * 2⟩, .ex (k - n), by rw [hln], ha, by rw [hln]; exact hd⟩, hel, ?_⟩⟩
        · intro x y ρ h2 hx hy
          have h4 : (xs.length : Int) ≤ (k : Int) := by omega
          simp [iop, hx, hy, bounds, asI, h1, h3, h4, hk0]
        · rintro a' m c' e
          simp only [AV.sl.injEq] at e
          obtain ⟨_, rfl, rfl⟩ := e
          exact .inl ⟨_, rfl, by omega⟩
    · refine ⟨.sl ⟨a.b, a.g, a.o + n * 2⟩ (xs.length - n) (.op 2), ?_, ⟨.inr ⟨⟨a.b, a.g, a.o + n * 2⟩, .op 2, by rw [hln], ha, by rw [hln]; exact hd⟩, hel, ?_⟩⟩
      · intro x y ρ h2 hx hy
        have h3 : (n : Int) ≤ (xs.length : Int) := by omega
        simp [iop, hx, hy, bounds, asI, h3]
      · rintro a' m c' e
        simp only [AV.sl.injEq] at e
        obtain ⟨_, rfl, rfl⟩ := e
        exact .inr rfl

theorem recs_drop (xs : List Ent) (n : Nat) : recsE (xs.drop n) = (recsE xs).drop n := by simp [recsE]
theorem recs_takes (xs : List Ent) (n : Nat) : recsE (xs.take n) = (recsE xs).take n := by simp [recsE]
theorem putE_no {rs : List Rec} (h : ¬ mayR rs = true) : putE rs = 1 := by unfold putE; rw [if_neg h]
def kn1 : IC := sndS (sndS (sndS ir18.body))

set_option maxHeartbeats 16000000 in
theorem known_2 {h : H} {ts : List AV} (t0 : ts.length = 119) : Wp TF kn1 (ts, h) (trueQ 0) := by
  have hmx : 200000000000000 = maxRow := rfl
  rw [laid_eq t0 [] (by simp)]
  unfold trueQ
  refine Wp.seq ?_
  refine Wp.region ?_
  refine Wo.pre 1 (by kernel_rfl) ?_
  refine Wo.nil ?_
  refine Wp.seq ?_
  refine Wp.seq ?_
  refine Wp.region ?_
  refine Wo.pre 1 (by kernel_rfl) ?_
  refine Wo.nil ?_
  refine Wp.block ?_
  refine made18_loop 17 0 (by omega) h .nils [] _ (Ext.refl _) OwE.nil0 rfl rfl (by kernel_rfl) (by kernel_rfl) (by kernel_rfl) _ ?_
  intro ts' h' lV zs hE hO hr t0 t6
  show Wp TF _ _ _
  rw [laid_eq t0 [(6, lV)] (by simp [t6])]
  have hz17 : zs.length = 17 := by rw [← recs_len, hr, recsK_len]
  have hm : ∀ r ∈ recsE zs, mayS r.2 = true := fun r h => recsK_may (by rw [← hr]; exact h)
  have hf : FewE zs := few_iff.2 (few_K (by rw [recs_len]; omega) hm)
  have mA : mayR (recsE (zs.take 16)) = true := mayK (by rw [recs_len, List.length_take]; omega) (by rw [recs_len, List.length_take]; omega) (fun r h => hm r (by rw [recs_takes] at h; exact List.mem_of_mem_take h))
  have mB : mayR (recsE (zs.drop 16)) = true := mayK (by rw [recs_len, List.length_drop]; omega) (by rw [recs_len, List.length_drop]; omega) (fun r h => hm r (by rw [recs_drop] at h; exact List.mem_of_mem_drop h))
  have hP1 : putE (recsE zs) = 1 := putE_no (fun h => by have := (mayR_iff.1 h).2.1; rw [recs_len] at this; omega)
  have hP2 : putE (recsE (zs.take 16)) = 0 := putE_zero.2 mA
  have hP3 : putE (recsE (zs.drop 16)) = 0 := putE_zero.2 mB
  have hP4 : putE (recsE [⟨0, .nils, []⟩]) = 1 := putE_no (by decide)
  have hfA : FewE (zs.take 16) := few_first hf _
  have hfB : FewE (zs.drop 16) := ⟨by have := hf.1; rw [List.length_drop]; omega, fun e he => hf.2 e (List.mem_of_mem_drop he)⟩
  have hfD : FewE [⟨0, .nils, []⟩] := ⟨by simp, fun e he => by simp only [List.mem_cons, List.not_mem_nil, or_false] at he; subst he; exact ⟨by simp, fun p hp => by simp at hp⟩⟩
  have lA := putX_len (recsE (zs.take 16))
  have lB := putX_len (recsE (zs.drop 16))
  have lC : (putX (recsE (zs.take 16)) ++ putX (recsE (zs.drop 16))).length ≤ 100000 := by rw [List.length_append]; omega
  obtain ⟨zA, eA, bA⟩ := hO.es.up (n := 16) (by omega)
  obtain ⟨zB, eB, bB⟩ := hO.es.since (n := 16) (by omega)
  have hT : ∀ {ys : List Ent} {E : Int}, takeOf (putX (recsE (zs.take 16)) ++ putX (recsE (zs.drop 16))) = (recsE ys, E) → E = 5 := by
    intro ys E h
    rw [putX, putX, if_pos mA, if_pos mB] at h
    rcases join_take mA mB bA.times bB.times h with ⟨g1, _⟩ | ⟨_, g2, _⟩
    · rw [recs_len, recs_len, List.length_take, List.length_drop] at g1; omega
    · exact g2
  clear hE
  have m1 := hO.bq
  have k2 := hO.parts
  have m3 := bA.bq
  have k4 := bA.parts
  have m5 := bB.bq
  have k6 := bB.parts
  refine Wp.seq ?_
  refine Wp.region ?_
  refine Wo.pre 1 (by kernel_rfl) ?_
  obtain ⟨r7, H8, c9, z10, rfl, X12, q13⟩ := put64_run hO.es hf
  have m14 := X12.1
  have m15 := q13.bq
  have k16 := q13.parts
  refine Wo.call (by kernel_rfl) (by kernel_rfl) c9 ?_
  clear c9
  refine Wo.pre 5 (by kernel_rfl) ?_
  refine Wo.nil ?_
  refine Wp.seq ?_
  refine Wp.region ?_
  refine Wo.pre 1 (by kernel_rfl) ?_
  refine Wo.val zA _ (by kernel_rfl) (eA (by kernel_rfl) (by kernel_rfl)) ?_
  have F17 := (bA.fr X12.fr (fun _ e => e.elim))
  obtain ⟨r18, H19, c20, z21, rfl, X23, q24⟩ := put64_run F17 hfA
  have m25 := X23.1
  have m26 := q24.bq
  have k27 := q24.parts
  refine Wo.call (by kernel_rfl) (by kernel_rfl) c20 ?_
  clear c20
  refine Wo.pre 5 (by kernel_rfl) ?_
  refine Wo.nil ?_
  refine Wp.seq ?_
  refine Wp.region ?_
  refine Wo.pre 1 (by kernel_rfl) ?_
  refine Wo.val zB _ (by kernel_rfl) (eB (by kernel_rfl) (by kernel_rfl)) ?_
  have F28 := (bB.fr (X12.fr.trans0 X23.fr) (fun _ e => e.elim))
  obtain ⟨r29, H30, c31, z32, rfl, X34, q35⟩ := put64_run F28 hfB
  have m36 := X34.1
  have m37 := q35.bq
  have k38 := q35.parts
  refine Wo.call (by kernel_rfl) (by kernel_rfl) c31 ?_
  clear c31
  refine Wo.pre 5 (by kernel_rfl) ?_
  refine Wo.nil ?_
  refine Wp.seq ?_
  refine Wp.region ?_
  refine Wo.pre 2 (by kernel_rfl) ?_
  have F39 := (q24.fr X34.fr (.inr id))
  obtain ⟨v40, H41, a42, q43, X44, q45⟩ := Ow.appF (lo := H8.n) F39 q35.bs (by first | omega | (simp; omega) | (simp; done) | assumption) (by first | omega | (simp; omega) | (simp; done) | assumption)
  refine Wo.val _ _ (by kernel_rfl) (iop_appG (v := z21) (w := z32) (by kernel_rfl) (by kernel_rfl) k38.2.2 a42) ?_
  have m46 := q43.bq
  have k47 := q43.parts
  have m48 := X44.1
  obtain ⟨r49, H50, c51, z52, xs53, E54, rfl, X56, q57, q58⟩ := take66_run q43.bs (by first | omega | (simp; omega) | (simp; done) | assumption)
  have m59 := X56.1
  have m60 := q57.bq
  have k61 := q57.parts
  refine Wo.call (by kernel_rfl) (by kernel_rfl) c51 ?_
  clear c51
  refine Wo.pre 5 (by kernel_rfl) ?_
  refine Wo.nil ?_
  refine Wp.seq ?_
  refine Wp.region ?_
  refine Wo.val (.agg [AV.int IntKind.u64 0, AV.nils]) H50 (by kernel_rfl) (iop_buildP rfl) ?_
  (refine Wo.lit70 rfl (by kernel_rfl) (by kernel_rfl) (fun Hd Xd Od => ?_); have nd := Xd.1; have qd := Od.bq; have pd := Od.parts)
  obtain ⟨r62, H63, c64, z65, rfl, X67, q68⟩ := put64_run Od.es hfD
  have m69 := X67.1
  have m70 := q68.bq
  have k71 := q68.parts
  refine Wo.call (by kernel_rfl) (by kernel_rfl) c64 ?_
  clear c64
  refine Wo.pre 5 (by kernel_rfl) ?_
  refine Wo.nil ?_
  refine Wp.seq ?_
  refine Wp.region ?_
  obtain ⟨r72, H73, c74, s75, E76, rfl, X78, q79⟩ := nameK1 (h := H63) 
  have m80 := X78.1
  refine Wo.call (by kernel_rfl) (by kernel_rfl) c74 ?_
  clear c74
  refine Wo.pre 5 (by kernel_rfl) ?_
  refine Wo.nil ?_
  refine Wp.seq ?_
  refine Wp.region ?_
  obtain ⟨r81, H82, c83, s84, E85, rfl, X87, q88⟩ := nameK2 (h := H73) 
  have m89 := X87.1
  refine Wo.call (by kernel_rfl) (by kernel_rfl) c83 ?_
  clear c83
  refine Wo.pre 5 (by kernel_rfl) ?_
  refine Wo.nil ?_
  refine Wp.seq ?_
  refine Wp.region ?_
  refine Wo.pre 1 (by kernel_rfl) ?_
  refine Wo.cmp (op := .eql) (x := IX.t 90) (y := IX.c (AV.int IntKind.i64 1)) (k := IntKind.i64) (a := putE (recsE zs)) (b := 1) ((putE (recsE zs) : Int) = (1 : Int)) (by kernel_rfl) (by kernel_rfl) (by kernel_rfl) (by kernel_rfl) (by simp) (by kernel_rfl) (fun q90 => ?_) (fun q90 => ?_)
  rotate_left
  · (exfalso; omega)
  have m91 := F17.bq
  have k92 := F17.parts
  have m93 := F28.bq
  have k94 := F28.parts
  have m95 := F39.bq
  have k96 := F39.parts
  have m97 := Od.bq
  have k98 := Od.parts
  have m99 := Xd.1
  refine Wo.pre 2 (by kernel_rfl) ?_
  refine Wo.cmp (op := .eql) (x := IX.t 93) (y := IX.c (AV.int IntKind.i64 0)) (k := IntKind.i64) (a := putE (recsE (List.take 16 zs))) (b := 0) ((putE (recsE (List.take 16 zs)) : Int) = (0 : Int)) (by kernel_rfl) (by kernel_rfl) (by kernel_rfl) (by kernel_rfl) (by simp) (by kernel_rfl) (fun q100 => ?_) (fun q100 => ?_)
  rotate_left
  · (exfalso; omega)
  refine Wo.pre 3 (by kernel_rfl) ?_
  refine Wo.cmp (op := .eql) (x := IX.t 97) (y := IX.c (AV.int IntKind.i64 0)) (k := IntKind.i64) (a := putE (recsE (List.drop 16 zs))) (b := 0) ((putE (recsE (List.drop 16 zs)) : Int) = (0 : Int)) (by kernel_rfl) (by kernel_rfl) (by kernel_rfl) (by kernel_rfl) (by simp) (by kernel_rfl) (fun q101 => ?_) (fun q101 => ?_)
  rotate_left
  · (exfalso; omega)
  refine Wo.pre 3 (by kernel_rfl) ?_
  refine Wo.cmp (op := .eql) (x := IX.t 101) (y := IX.c (AV.int IntKind.i64 5)) (k := IntKind.i64) (a := E54) (b := 5) ((E54 : Int) = (5 : Int)) (by kernel_rfl) (by kernel_rfl) (by kernel_rfl) (by kernel_rfl) (by simp) (by kernel_rfl) (fun q102 => ?_) (fun q102 => ?_)
  rotate_left
  · exact (‹¬ (_ : Int) = 5› (hT (by with_reducible assumption))).elim
  refine Wo.pre 3 (by kernel_rfl) ?_
  refine Wo.pre 4 (by kernel_rfl) ?_
  refine Wo.cmp (op := .eql) (x := IX.t 109) (y := IX.c (AV.int IntKind.i64 1)) (k := IntKind.i64) (a := E76) (b := 1) ((E76 : Int) = (1 : Int)) (by kernel_rfl) (by kernel_rfl) (by kernel_rfl) (by kernel_rfl) (by simp) (by kernel_rfl) (fun q103 => ?_) (fun q103 => ?_)
  rotate_left
  · exact (‹¬ (_ : Int) = 1› (name_no (by with_reducible assumption) (by decide))).elim
  refine Wo.pre 3 (by kernel_rfl) ?_
  refine Wo.cmp (op := .eql) (x := IX.t 113) (y := IX.c (AV.int IntKind.i64 1)) (k := IntKind.i64) (a := E85) (b := 1) ((E85 : Int) = (1 : Int)) (by kernel_rfl) (by kernel_rfl) (by kernel_rfl) (by kernel_rfl) (by simp) (by kernel_rfl) (fun q104 => ?_) (fun q104 => ?_)
  rotate_left
  · exact (‹¬ (_ : Int) = 1› (name_no (by with_reducible assumption) (by decide))).elim
  refine Wo.pre 2 (by kernel_rfl) ?_
  have c105 := wakes_run (H82)
  refine Wo.call (by kernel_rfl) (by kernel_rfl) c105 ?_
  clear c105
  refine Wo.pre 2 (by kernel_rfl) ?_
  refine Wo.nil ?_
  refine Wp.ret ?_
  refine ⟨.inr rfl, (AV.bool true), (ret_one (res_tmp (by kernel_rfl) res_nil)), ?_⟩
  dsimp only

set_option maxHeartbeats 16000000 in
theorem known18_run {h : H} : ∃ r h', Runs TF 18 [] h r h' ∧ r = .bool true := by
  refine Runs.ofP f18 rfl ?_
  refine Wp.seq ?_
  refine Wp.region ?_
  refine Wo.pre 1 (by kernel_rfl) ?_
  refine Wo.nil ?_
  refine Wp.seq ?_
  refine Wp.region ?_
  refine Wo.val (.agg [AV.str [], AV.str [98, 45, 48, 48, 48, 48, 48, 51, 45, 55], AV.str [98, 45, 48, 48, 48, 48, 48, 51, 45, 48, 48, 55], AV.str [98, 45, 48, 48, 48, 48, 48, 51, 45, 49, 55], AV.str [98, 45, 51, 45, 48, 55], AV.str [98, 95, 48, 48, 48, 48, 48, 51, 45, 48, 55], AV.str [98, 45, 48, 48, 48, 48, 48, 51, 95, 48, 55], AV.str [116, 45, 48, 48, 48, 48, 48, 51, 45, 48, 55], AV.str [98, 45, 48, 48, 48, 48, 48, 97, 45, 48, 55], AV.str [98, 45, 48, 48, 48, 48, 48, 51, 45, 48, 97], AV.str [98, 45, 48, 48, 48, 48, 48, 51, 45, 48, 55, 120]]) h (by kernel_rfl) (iop_buildP (fill_cons (v := AV.str []) (vs := [AV.str []]) (by kernel_rfl) rfl (by kernel_rfl) (fill_cons (v := AV.str [98, 45, 48, 48, 48, 48, 48, 51, 45, 55]) (vs := [AV.str [98, 45, 48, 48, 48, 48, 48, 51, 45, 55]]) (by kernel_rfl) rfl (by kernel_rfl) (fill_cons (v := AV.str [98, 45, 48, 48, 48, 48, 48, 51, 45, 48, 48, 55]) (vs := [AV.str [98, 45, 48, 48, 48, 48, 48, 51, 45, 48, 48, 55]]) (by kernel_rfl) rfl (by kernel_rfl) (fill_cons (v := AV.str [98, 45, 48, 48, 48, 48, 48, 51, 45, 49, 55]) (vs := [AV.str [98, 45, 48, 48, 48, 48, 48, 51, 45, 49, 55]]) (by kernel_rfl) rfl (by kernel_rfl) (fill_cons (v := AV.str [98, 45, 51, 45, 48, 55]) (vs := [AV.str [98, 45, 51, 45, 48, 55]]) (by kernel_rfl) rfl (by kernel_rfl) (fill_cons (v := AV.str [98, 95, 48, 48, 48, 48, 48, 51, 45, 48, 55]) (vs := [AV.str [98, 95, 48, 48, 48, 48, 48, 51, 45, 48, 55]]) (by kernel_rfl) rfl (by kernel_rfl) (fill_cons (v := AV.str [98, 45, 48, 48, 48, 48, 48, 51, 95, 48, 55]) (vs := [AV.str [98, 45, 48, 48, 48, 48, 48, 51, 95, 48, 55]]) (by kernel_rfl) rfl (by kernel_rfl) (fill_cons (v := AV.str [116, 45, 48, 48, 48, 48, 48, 51, 45, 48, 55]) (vs := [AV.str [116, 45, 48, 48, 48, 48, 48, 51, 45, 48, 55]]) (by kernel_rfl) rfl (by kernel_rfl) (fill_cons (v := AV.str [98, 45, 48, 48, 48, 48, 48, 97, 45, 48, 55]) (vs := [AV.str [98, 45, 48, 48, 48, 48, 48, 97, 45, 48, 55]]) (by kernel_rfl) rfl (by kernel_rfl) (fill_cons (v := AV.str [98, 45, 48, 48, 48, 48, 48, 51, 45, 48, 97]) (vs := [AV.str [98, 45, 48, 48, 48, 48, 48, 51, 45, 48, 97]]) (by kernel_rfl) rfl (by kernel_rfl) (fill_cons (v := AV.str [98, 45, 48, 48, 48, 48, 48, 51, 45, 48, 55, 120]) (vs := [AV.str [98, 45, 48, 48, 48, 48, 48, 51, 45, 48, 55, 120]]) (by kernel_rfl) rfl (by kernel_rfl) rfl)))))))))))) ?_
  obtain ⟨H1, e1, P1, X1, n1⟩ := pt_new h 116 [AV.str [], AV.str [], AV.str [], AV.str [], AV.str [], AV.str [], AV.str [], AV.str [], AV.str [], AV.str [], AV.str []] (ones_cons rfl (ones_cons rfl (ones_cons rfl (ones_cons rfl (ones_cons rfl (ones_cons rfl (ones_cons rfl (ones_cons rfl (ones_cons rfl (ones_cons rfl (ones_cons rfl ones_nil)))))))))))
  refine Wo.val (.ptr ⟨H.n h, 0, 0⟩) H1 (by kernel_rfl) (e1 (v := AV.agg [AV.str [], AV.str [], AV.str [], AV.str [], AV.str [], AV.str [], AV.str [], AV.str [], AV.str [], AV.str [], AV.str []]) (by kernel_rfl) rfl) ?_
  clear e1
  have m2 := X1.1
  obtain ⟨H3, e3, P3, X3, n3⟩ := P1.st 0 [AV.str [], AV.str [98, 45, 48, 48, 48, 48, 48, 51, 45, 55], AV.str [98, 45, 48, 48, 48, 48, 48, 51, 45, 48, 48, 55], AV.str [98, 45, 48, 48, 48, 48, 48, 51, 45, 49, 55], AV.str [98, 45, 51, 45, 48, 55], AV.str [98, 95, 48, 48, 48, 48, 48, 51, 45, 48, 55], AV.str [98, 45, 48, 48, 48, 48, 48, 51, 95, 48, 55], AV.str [116, 45, 48, 48, 48, 48, 48, 51, 45, 48, 55], AV.str [98, 45, 48, 48, 48, 48, 48, 97, 45, 48, 55], AV.str [98, 45, 48, 48, 48, 48, 48, 51, 45, 48, 97], AV.str [98, 45, 48, 48, 48, 48, 48, 51, 45, 48, 55, 120]] (by simp) (ones_cons rfl (ones_cons rfl (ones_cons rfl (ones_cons rfl (ones_cons rfl (ones_cons rfl (ones_cons rfl (ones_cons rfl (ones_cons rfl (ones_cons rfl (ones_cons rfl ones_nil)))))))))))
  refine Wo.val .undef H3 (by kernel_rfl) (iop_stP (a := { b := h.n, g := 0, o := 0 }) (v := AV.agg [AV.str [], AV.str [98, 45, 48, 48, 48, 48, 48, 51, 45, 55], AV.str [98, 45, 48, 48, 48, 48, 48, 51, 45, 48, 48, 55], AV.str [98, 45, 48, 48, 48, 48, 48, 51, 45, 49, 55], AV.str [98, 45, 51, 45, 48, 55], AV.str [98, 95, 48, 48, 48, 48, 48, 51, 45, 48, 55], AV.str [98, 45, 48, 48, 48, 48, 48, 51, 95, 48, 55], AV.str [116, 45, 48, 48, 48, 48, 48, 51, 45, 48, 55], AV.str [98, 45, 48, 48, 48, 48, 48, 97, 45, 48, 55], AV.str [98, 45, 48, 48, 48, 48, 48, 51, 45, 48, 97], AV.str [98, 45, 48, 48, 48, 48, 48, 51, 45, 48, 55, 120]]) (vs := [AV.str [], AV.str [98, 45, 48, 48, 48, 48, 48, 51, 45, 55], AV.str [98, 45, 48, 48, 48, 48, 48, 51, 45, 48, 48, 55], AV.str [98, 45, 48, 48, 48, 48, 48, 51, 45, 49, 55], AV.str [98, 45, 51, 45, 48, 55], AV.str [98, 95, 48, 48, 48, 48, 48, 51, 45, 48, 55], AV.str [98, 45, 48, 48, 48, 48, 48, 51, 95, 48, 55], AV.str [116, 45, 48, 48, 48, 48, 48, 51, 45, 48, 55], AV.str [98, 45, 48, 48, 48, 48, 48, 97, 45, 48, 55], AV.str [98, 45, 48, 48, 48, 48, 48, 51, 45, 48, 97], AV.str [98, 45, 48, 48, 48, 48, 48, 51, 45, 48, 55, 120]]) (by kernel_rfl) (by kernel_rfl) rfl rfl e3) ?_
  have m4 := X3.1
  replace P3 : Pt H3 h.n (Blk.cells 0 116 [AV.str [], AV.str [98, 45, 48, 48, 48, 48, 48, 51, 45, 55], AV.str [98, 45, 48, 48, 48, 48, 48, 51, 45, 48, 48, 55], AV.str [98, 45, 48, 48, 48, 48, 48, 51, 45, 49, 55], AV.str [98, 45, 51, 45, 48, 55], AV.str [98, 95, 48, 48, 48, 48, 48, 51, 45, 48, 55], AV.str [98, 45, 48, 48, 48, 48, 48, 51, 95, 48, 55], AV.str [116, 45, 48, 48, 48, 48, 48, 51, 45, 48, 55], AV.str [98, 45, 48, 48, 48, 48, 48, 97, 45, 48, 55], AV.str [98, 45, 48, 48, 48, 48, 48, 51, 45, 48, 97], AV.str [98, 45, 48, 48, 48, 48, 48, 51, 45, 48, 55, 120]] 0 false) := P3
  refine Wo.nil ?_
  refine Wp.seq ?_
  refine Wp.seq ?_
  refine Wp.region ?_
  refine Wo.pre 1 (by kernel_rfl) ?_
  refine Wo.nil ?_
  refine Wp.block ?_
  refine Wp.loop ?_
  refine Wp.seq ?_
  refine Wp.seq ?_
  refine Wp.region ?_
  refine Wo.pre 1 (by kernel_rfl) ?_
  refine Wo.pre 1 (by kernel_rfl) ?_
  refine Wo.nil ?_
  refine Wp.cond true (by kernel_rfl) ?_
  refine Wp.skip ?_
  refine Wp.seq ?_
  refine Wp.block ?_
  refine Wp.seq ?_
  refine Wp.region ?_
  refine Wo.pre 2 (by kernel_rfl) ?_
  refine Wo.val (AV.str []) H3 (by kernel_rfl) (iop_ldP P3 (a := { b := h.n, g := 0, o := 0 }) (by kernel_rfl) rfl (by kernel_rfl)) ?_
  obtain ⟨r5, H6, c7, n8, w9, E10, rfl, X12, q13, q14⟩ := parseJ (h := H3) ([]) (by first | omega | (simp; omega) | (simp; done) | assumption)
  have m15 := X12.1
  refine Wo.call (by kernel_rfl) (by kernel_rfl) c7 ?_
  clear c7
  refine Wo.pre 7 (by kernel_rfl) ?_
  refine Wo.nil ?_
  refine Wp.seq ?_
  refine Wp.region ?_
  refine Wo.pre 1 (by kernel_rfl) ?_
  refine Wo.cmpN (op := .neq) (x := IX.t 35) (y := IX.c (AV.int IntKind.i64 5)) (k := IntKind.i64) (a := E10) (b := 5) ((E10 : Int) = (5 : Int)) (by kernel_rfl) (by kernel_rfl) (by kernel_rfl) (by kernel_rfl) (by simp) (by kernel_rfl) (fun q16 => ?_) (fun q16 => ?_)
  rotate_left
  · exact (‹¬ (_ : Int) = 5› (parse_no (by with_reducible assumption) (by decide))).elim
  have m17 := P1.1
  have m18 := P3.1
  refine Wo.nil ?_
  refine Wp.cond false (by kernel_rfl) ?_
  refine Wp.skip ?_
  refine Wp.region ?_
  refine Wo.pre 1 (by kernel_rfl) ?_
  refine Wo.pre 2 (by kernel_rfl) ?_
  refine Wo.nil ?_
  refine Wp.loop ?_
  refine Wp.seq ?_
  refine Wp.seq ?_
  refine Wp.region ?_
  refine Wo.pre 1 (by kernel_rfl) ?_
  refine Wo.pre 1 (by kernel_rfl) ?_
  refine Wo.nil ?_
  refine Wp.cond true (by kernel_rfl) ?_
  refine Wp.skip ?_
  refine Wp.seq ?_
  refine Wp.block ?_
  refine Wp.seq ?_
  refine Wp.region ?_
  refine Wo.pre 2 (by kernel_rfl) ?_
  have F19 := (P3.fr X12.fr id)
  refine Wo.val (AV.str [98, 45, 48, 48, 48, 48, 48, 51, 45, 55]) H6 (by kernel_rfl) (iop_ldP F19 (a := { b := h.n, g := 0, o := 1 }) (by kernel_rfl) rfl (by kernel_rfl)) ?_
  obtain ⟨r20, H21, c22, n23, w24, E25, rfl, X27, q28, q29⟩ := parseJ (h := H6) ([98, 45, 48, 48, 48, 48, 48, 51, 45, 55]) (by first | omega | (simp; omega) | (simp; done) | assumption)
  have m30 := X27.1
  refine Wo.call (by kernel_rfl) (by kernel_rfl) c22 ?_
  clear c22
  refine Wo.pre 7 (by kernel_rfl) ?_
  refine Wo.nil ?_
  refine Wp.seq ?_
  refine Wp.region ?_
  refine Wo.pre 1 (by kernel_rfl) ?_
  refine Wo.cmpN (op := .neq) (x := IX.t 35) (y := IX.c (AV.int IntKind.i64 5)) (k := IntKind.i64) (a := E25) (b := 5) ((E25 : Int) = (5 : Int)) (by kernel_rfl) (by kernel_rfl) (by kernel_rfl) (by kernel_rfl) (by simp) (by kernel_rfl) (fun q31 => ?_) (fun q31 => ?_)
  rotate_left
  · exact (‹¬ (_ : Int) = 5› (parse_no (by with_reducible assumption) (by decide))).elim
  have m32 := F19.1
  refine Wo.nil ?_
  refine Wp.cond false (by kernel_rfl) ?_
  refine Wp.skip ?_
  refine Wp.region ?_
  refine Wo.pre 1 (by kernel_rfl) ?_
  refine Wo.pre 2 (by kernel_rfl) ?_
  refine Wo.nil ?_
  refine Wp.loop ?_
  refine Wp.seq ?_
  refine Wp.seq ?_
  refine Wp.region ?_
  refine Wo.pre 1 (by kernel_rfl) ?_
  refine Wo.pre 1 (by kernel_rfl) ?_
  refine Wo.nil ?_
  refine Wp.cond true (by kernel_rfl) ?_
  refine Wp.skip ?_
  refine Wp.seq ?_
  refine Wp.block ?_
  refine Wp.seq ?_
  refine Wp.region ?_
  refine Wo.pre 2 (by kernel_rfl) ?_
  have F33 := (F19.fr X27.fr id)
  refine Wo.val (AV.str [98, 45, 48, 48, 48, 48, 48, 51, 45, 48, 48, 55]) H21 (by kernel_rfl) (iop_ldP F33 (a := { b := h.n, g := 0, o := 2 }) (by kernel_rfl) rfl (by kernel_rfl)) ?_
  obtain ⟨r34, H35, c36, n37, w38, E39, rfl, X41, q42, q43⟩ := parseJ (h := H21) ([98, 45, 48, 48, 48, 48, 48, 51, 45, 48, 48, 55]) (by first | omega | (simp; omega) | (simp; done) | assumption)
  have m44 := X41.1
  refine Wo.call (by kernel_rfl) (by kernel_rfl) c36 ?_
  clear c36
  refine Wo.pre 7 (by kernel_rfl) ?_
  refine Wo.nil ?_
  refine Wp.seq ?_
  refine Wp.region ?_
  refine Wo.pre 1 (by kernel_rfl) ?_
  refine Wo.cmpN (op := .neq) (x := IX.t 35) (y := IX.c (AV.int IntKind.i64 5)) (k := IntKind.i64) (a := E39) (b := 5) ((E39 : Int) = (5 : Int)) (by kernel_rfl) (by kernel_rfl) (by kernel_rfl) (by kernel_rfl) (by simp) (by kernel_rfl) (fun q45 => ?_) (fun q45 => ?_)
  rotate_left
  · exact (‹¬ (_ : Int) = 5› (parse_no (by with_reducible assumption) (by decide))).elim
  have m46 := F33.1
  refine Wo.nil ?_
  refine Wp.cond false (by kernel_rfl) ?_
  refine Wp.skip ?_
  refine Wp.region ?_
  refine Wo.pre 1 (by kernel_rfl) ?_
  refine Wo.pre 2 (by kernel_rfl) ?_
  refine Wo.nil ?_
  refine Wp.loop ?_
  refine Wp.seq ?_
  refine Wp.seq ?_
  refine Wp.region ?_
  refine Wo.pre 1 (by kernel_rfl) ?_
  refine Wo.pre 1 (by kernel_rfl) ?_
  refine Wo.nil ?_
  refine Wp.cond true (by kernel_rfl) ?_
  refine Wp.skip ?_
  refine Wp.seq ?_
  refine Wp.block ?_
  refine Wp.seq ?_
  refine Wp.region ?_
  refine Wo.pre 2 (by kernel_rfl) ?_
  have F47 := (F33.fr X41.fr id)
  refine Wo.val (AV.str [98, 45, 48, 48, 48, 48, 48, 51, 45, 49, 55]) H35 (by kernel_rfl) (iop_ldP F47 (a := { b := h.n, g := 0, o := 3 }) (by kernel_rfl) rfl (by kernel_rfl)) ?_
  obtain ⟨r48, H49, c50, n51, w52, E53, rfl, X55, q56, q57⟩ := parseJ (h := H35) ([98, 45, 48, 48, 48, 48, 48, 51, 45, 49, 55]) (by first | omega | (simp; omega) | (simp; done) | assumption)
  have m58 := X55.1
  refine Wo.call (by kernel_rfl) (by kernel_rfl) c50 ?_
  clear c50
  refine Wo.pre 7 (by kernel_rfl) ?_
  refine Wo.nil ?_
  refine Wp.seq ?_
  refine Wp.region ?_
  refine Wo.pre 1 (by kernel_rfl) ?_
  refine Wo.cmpN (op := .neq) (x := IX.t 35) (y := IX.c (AV.int IntKind.i64 5)) (k := IntKind.i64) (a := E53) (b := 5) ((E53 : Int) = (5 : Int)) (by kernel_rfl) (by kernel_rfl) (by kernel_rfl) (by kernel_rfl) (by simp) (by kernel_rfl) (fun q59 => ?_) (fun q59 => ?_)
  rotate_left
  · exact (‹¬ (_ : Int) = 5› (parse_no (by with_reducible assumption) (by decide))).elim
  have m60 := F47.1
  refine Wo.nil ?_
  refine Wp.cond false (by kernel_rfl) ?_
  refine Wp.skip ?_
  refine Wp.region ?_
  refine Wo.pre 1 (by kernel_rfl) ?_
  refine Wo.pre 2 (by kernel_rfl) ?_
  refine Wo.nil ?_
  refine Wp.loop ?_
  refine Wp.seq ?_
  refine Wp.seq ?_
  refine Wp.region ?_
  refine Wo.pre 1 (by kernel_rfl) ?_
  refine Wo.pre 1 (by kernel_rfl) ?_
  refine Wo.nil ?_
  refine Wp.cond true (by kernel_rfl) ?_
  refine Wp.skip ?_
  refine Wp.seq ?_
  refine Wp.block ?_
  refine Wp.seq ?_
  refine Wp.region ?_
  refine Wo.pre 2 (by kernel_rfl) ?_
  have F61 := (F47.fr X55.fr id)
  refine Wo.val (AV.str [98, 45, 51, 45, 48, 55]) H49 (by kernel_rfl) (iop_ldP F61 (a := { b := h.n, g := 0, o := 4 }) (by kernel_rfl) rfl (by kernel_rfl)) ?_
  obtain ⟨r62, H63, c64, n65, w66, E67, rfl, X69, q70, q71⟩ := parseJ (h := H49) ([98, 45, 51, 45, 48, 55]) (by first | omega | (simp; omega) | (simp; done) | assumption)
  have m72 := X69.1
  refine Wo.call (by kernel_rfl) (by kernel_rfl) c64 ?_
  clear c64
  refine Wo.pre 7 (by kernel_rfl) ?_
  refine Wo.nil ?_
  refine Wp.seq ?_
  refine Wp.region ?_
  refine Wo.pre 1 (by kernel_rfl) ?_
  refine Wo.cmpN (op := .neq) (x := IX.t 35) (y := IX.c (AV.int IntKind.i64 5)) (k := IntKind.i64) (a := E67) (b := 5) ((E67 : Int) = (5 : Int)) (by kernel_rfl) (by kernel_rfl) (by kernel_rfl) (by kernel_rfl) (by simp) (by kernel_rfl) (fun q73 => ?_) (fun q73 => ?_)
  rotate_left
  · exact (‹¬ (_ : Int) = 5› (parse_no (by with_reducible assumption) (by decide))).elim
  have m74 := F61.1
  refine Wo.nil ?_
  refine Wp.cond false (by kernel_rfl) ?_
  refine Wp.skip ?_
  refine Wp.region ?_
  refine Wo.pre 1 (by kernel_rfl) ?_
  refine Wo.pre 2 (by kernel_rfl) ?_
  refine Wo.nil ?_
  refine Wp.loop ?_
  refine Wp.seq ?_
  refine Wp.seq ?_
  refine Wp.region ?_
  refine Wo.pre 1 (by kernel_rfl) ?_
  refine Wo.pre 1 (by kernel_rfl) ?_
  refine Wo.nil ?_
  refine Wp.cond true (by kernel_rfl) ?_
  refine Wp.skip ?_
  refine Wp.seq ?_
  refine Wp.block ?_
  refine Wp.seq ?_
  refine Wp.region ?_
  refine Wo.pre 2 (by kernel_rfl) ?_
  have F75 := (F61.fr X69.fr id)
  refine Wo.val (AV.str [98, 95, 48, 48, 48, 48, 48, 51, 45, 48, 55]) H63 (by kernel_rfl) (iop_ldP F75 (a := { b := h.n, g := 0, o := 5 }) (by kernel_rfl) rfl (by kernel_rfl)) ?_
  obtain ⟨r76, H77, c78, n79, w80, E81, rfl, X83, q84, q85⟩ := parseJ (h := H63) ([98, 95, 48, 48, 48, 48, 48, 51, 45, 48, 55]) (by first | omega | (simp; omega) | (simp; done) | assumption)
  have m86 := X83.1
  refine Wo.call (by kernel_rfl) (by kernel_rfl) c78 ?_
  clear c78
  refine Wo.pre 7 (by kernel_rfl) ?_
  refine Wo.nil ?_
  refine Wp.seq ?_
  refine Wp.region ?_
  refine Wo.pre 1 (by kernel_rfl) ?_
  refine Wo.cmpN (op := .neq) (x := IX.t 35) (y := IX.c (AV.int IntKind.i64 5)) (k := IntKind.i64) (a := E81) (b := 5) ((E81 : Int) = (5 : Int)) (by kernel_rfl) (by kernel_rfl) (by kernel_rfl) (by kernel_rfl) (by simp) (by kernel_rfl) (fun q87 => ?_) (fun q87 => ?_)
  rotate_left
  · exact (‹¬ (_ : Int) = 5› (parse_no (by with_reducible assumption) (by decide))).elim
  have m88 := F75.1
  refine Wo.nil ?_
  refine Wp.cond false (by kernel_rfl) ?_
  refine Wp.skip ?_
  refine Wp.region ?_
  refine Wo.pre 1 (by kernel_rfl) ?_
  refine Wo.pre 2 (by kernel_rfl) ?_
  refine Wo.nil ?_
  refine Wp.loop ?_
  refine Wp.seq ?_
  refine Wp.seq ?_
  refine Wp.region ?_
  refine Wo.pre 1 (by kernel_rfl) ?_
  refine Wo.pre 1 (by kernel_rfl) ?_
  refine Wo.nil ?_
  refine Wp.cond true (by kernel_rfl) ?_
  refine Wp.skip ?_
  refine Wp.seq ?_
  refine Wp.block ?_
  refine Wp.seq ?_
  refine Wp.region ?_
  refine Wo.pre 2 (by kernel_rfl) ?_
  have F89 := (F75.fr X83.fr id)
  refine Wo.val (AV.str [98, 45, 48, 48, 48, 48, 48, 51, 95, 48, 55]) H77 (by kernel_rfl) (iop_ldP F89 (a := { b := h.n, g := 0, o := 6 }) (by kernel_rfl) rfl (by kernel_rfl)) ?_
  obtain ⟨r90, H91, c92, n93, w94, E95, rfl, X97, q98, q99⟩ := parseJ (h := H77) ([98, 45, 48, 48, 48, 48, 48, 51, 95, 48, 55]) (by first | omega | (simp; omega) | (simp; done) | assumption)
  have m100 := X97.1
  refine Wo.call (by kernel_rfl) (by kernel_rfl) c92 ?_
  clear c92
  refine Wo.pre 7 (by kernel_rfl) ?_
  refine Wo.nil ?_
  refine Wp.seq ?_
  refine Wp.region ?_
  refine Wo.pre 1 (by kernel_rfl) ?_
  refine Wo.cmpN (op := .neq) (x := IX.t 35) (y := IX.c (AV.int IntKind.i64 5)) (k := IntKind.i64) (a := E95) (b := 5) ((E95 : Int) = (5 : Int)) (by kernel_rfl) (by kernel_rfl) (by kernel_rfl) (by kernel_rfl) (by simp) (by kernel_rfl) (fun q101 => ?_) (fun q101 => ?_)
  rotate_left
  · exact (‹¬ (_ : Int) = 5› (parse_no (by with_reducible assumption) (by decide))).elim
  have m102 := F89.1
  refine Wo.nil ?_
  refine Wp.cond false (by kernel_rfl) ?_
  refine Wp.skip ?_
  refine Wp.region ?_
  refine Wo.pre 1 (by kernel_rfl) ?_
  refine Wo.pre 2 (by kernel_rfl) ?_
  refine Wo.nil ?_
  refine Wp.loop ?_
  refine Wp.seq ?_
  refine Wp.seq ?_
  refine Wp.region ?_
  refine Wo.pre 1 (by kernel_rfl) ?_
  refine Wo.pre 1 (by kernel_rfl) ?_
  refine Wo.nil ?_
  refine Wp.cond true (by kernel_rfl) ?_
  refine Wp.skip ?_
  refine Wp.seq ?_
  refine Wp.block ?_
  refine Wp.seq ?_
  refine Wp.region ?_
  refine Wo.pre 2 (by kernel_rfl) ?_
  have F103 := (F89.fr X97.fr id)
  refine Wo.val (AV.str [116, 45, 48, 48, 48, 48, 48, 51, 45, 48, 55]) H91 (by kernel_rfl) (iop_ldP F103 (a := { b := h.n, g := 0, o := 7 }) (by kernel_rfl) rfl (by kernel_rfl)) ?_
  obtain ⟨r104, H105, c106, n107, w108, E109, rfl, X111, q112, q113⟩ := parseJ (h := H91) ([116, 45, 48, 48, 48, 48, 48, 51, 45, 48, 55]) (by first | omega | (simp; omega) | (simp; done) | assumption)
  have m114 := X111.1
  refine Wo.call (by kernel_rfl) (by kernel_rfl) c106 ?_
  clear c106
  refine Wo.pre 7 (by kernel_rfl) ?_
  refine Wo.nil ?_
  refine Wp.seq ?_
  refine Wp.region ?_
  refine Wo.pre 1 (by kernel_rfl) ?_
  refine Wo.cmpN (op := .neq) (x := IX.t 35) (y := IX.c (AV.int IntKind.i64 5)) (k := IntKind.i64) (a := E109) (b := 5) ((E109 : Int) = (5 : Int)) (by kernel_rfl) (by kernel_rfl) (by kernel_rfl) (by kernel_rfl) (by simp) (by kernel_rfl) (fun q115 => ?_) (fun q115 => ?_)
  rotate_left
  · exact (‹¬ (_ : Int) = 5› (parse_no (by with_reducible assumption) (by decide))).elim
  have m116 := F103.1
  refine Wo.nil ?_
  refine Wp.cond false (by kernel_rfl) ?_
  refine Wp.skip ?_
  refine Wp.region ?_
  refine Wo.pre 1 (by kernel_rfl) ?_
  refine Wo.pre 2 (by kernel_rfl) ?_
  refine Wo.nil ?_
  refine Wp.loop ?_
  refine Wp.seq ?_
  refine Wp.seq ?_
  refine Wp.region ?_
  refine Wo.pre 1 (by kernel_rfl) ?_
  refine Wo.pre 1 (by kernel_rfl) ?_
  refine Wo.nil ?_
  refine Wp.cond true (by kernel_rfl) ?_
  refine Wp.skip ?_
  refine Wp.seq ?_
  refine Wp.block ?_
  refine Wp.seq ?_
  refine Wp.region ?_
  refine Wo.pre 2 (by kernel_rfl) ?_
  have F117 := (F103.fr X111.fr id)
  refine Wo.val (AV.str [98, 45, 48, 48, 48, 48, 48, 97, 45, 48, 55]) H105 (by kernel_rfl) (iop_ldP F117 (a := { b := h.n, g := 0, o := 8 }) (by kernel_rfl) rfl (by kernel_rfl)) ?_
  obtain ⟨r118, H119, c120, n121, w122, E123, rfl, X125, q126, q127⟩ := parseJ (h := H105) ([98, 45, 48, 48, 48, 48, 48, 97, 45, 48, 55]) (by first | omega | (simp; omega) | (simp; done) | assumption)
  have m128 := X125.1
  refine Wo.call (by kernel_rfl) (by kernel_rfl) c120 ?_
  clear c120
  refine Wo.pre 7 (by kernel_rfl) ?_
  refine Wo.nil ?_
  refine Wp.seq ?_
  refine Wp.region ?_
  refine Wo.pre 1 (by kernel_rfl) ?_
  refine Wo.cmpN (op := .neq) (x := IX.t 35) (y := IX.c (AV.int IntKind.i64 5)) (k := IntKind.i64) (a := E123) (b := 5) ((E123 : Int) = (5 : Int)) (by kernel_rfl) (by kernel_rfl) (by kernel_rfl) (by kernel_rfl) (by simp) (by kernel_rfl) (fun q129 => ?_) (fun q129 => ?_)
  rotate_left
  · exact (‹¬ (_ : Int) = 5› (parse_no (by with_reducible assumption) (by decide))).elim
  have m130 := F117.1
  refine Wo.nil ?_
  refine Wp.cond false (by kernel_rfl) ?_
  refine Wp.skip ?_
  refine Wp.region ?_
  refine Wo.pre 1 (by kernel_rfl) ?_
  refine Wo.pre 2 (by kernel_rfl) ?_
  refine Wo.nil ?_
  refine Wp.loop ?_
  refine Wp.seq ?_
  refine Wp.seq ?_
  refine Wp.region ?_
  refine Wo.pre 1 (by kernel_rfl) ?_
  refine Wo.pre 1 (by kernel_rfl) ?_
  refine Wo.nil ?_
  refine Wp.cond true (by kernel_rfl) ?_
  refine Wp.skip ?_
  refine Wp.seq ?_
  refine Wp.block ?_
  refine Wp.seq ?_
  refine Wp.region ?_
  refine Wo.pre 2 (by kernel_rfl) ?_
  have F131 := (F117.fr X125.fr id)
  refine Wo.val (AV.str [98, 45, 48, 48, 48, 48, 48, 51, 45, 48, 97]) H119 (by kernel_rfl) (iop_ldP F131 (a := { b := h.n, g := 0, o := 9 }) (by kernel_rfl) rfl (by kernel_rfl)) ?_
  obtain ⟨r132, H133, c134, n135, w136, E137, rfl, X139, q140, q141⟩ := parseJ (h := H119) ([98, 45, 48, 48, 48, 48, 48, 51, 45, 48, 97]) (by first | omega | (simp; omega) | (simp; done) | assumption)
  have m142 := X139.1
  refine Wo.call (by kernel_rfl) (by kernel_rfl) c134 ?_
  clear c134
  refine Wo.pre 7 (by kernel_rfl) ?_
  refine Wo.nil ?_
  refine Wp.seq ?_
  refine Wp.region ?_
  refine Wo.pre 1 (by kernel_rfl) ?_
  refine Wo.cmpN (op := .neq) (x := IX.t 35) (y := IX.c (AV.int IntKind.i64 5)) (k := IntKind.i64) (a := E137) (b := 5) ((E137 : Int) = (5 : Int)) (by kernel_rfl) (by kernel_rfl) (by kernel_rfl) (by kernel_rfl) (by simp) (by kernel_rfl) (fun q143 => ?_) (fun q143 => ?_)
  rotate_left
  · exact (‹¬ (_ : Int) = 5› (parse_no (by with_reducible assumption) (by decide))).elim
  have m144 := F131.1
  refine Wo.nil ?_
  refine Wp.cond false (by kernel_rfl) ?_
  refine Wp.skip ?_
  refine Wp.region ?_
  refine Wo.pre 1 (by kernel_rfl) ?_
  refine Wo.pre 2 (by kernel_rfl) ?_
  refine Wo.nil ?_
  refine Wp.loop ?_
  refine Wp.seq ?_
  refine Wp.seq ?_
  refine Wp.region ?_
  refine Wo.pre 1 (by kernel_rfl) ?_
  refine Wo.pre 1 (by kernel_rfl) ?_
  refine Wo.nil ?_
  refine Wp.cond true (by kernel_rfl) ?_
  refine Wp.skip ?_
  refine Wp.seq ?_
  refine Wp.block ?_
  refine Wp.seq ?_
  refine Wp.region ?_
  refine Wo.pre 2 (by kernel_rfl) ?_
  have F145 := (F131.fr X139.fr id)
  refine Wo.val (AV.str [98, 45, 48, 48, 48, 48, 48, 51, 45, 48, 55, 120]) H133 (by kernel_rfl) (iop_ldP F145 (a := { b := h.n, g := 0, o := 10 }) (by kernel_rfl) rfl (by kernel_rfl)) ?_
  obtain ⟨r146, H147, c148, n149, w150, E151, rfl, X153, q154, q155⟩ := parseJ (h := H133) ([98, 45, 48, 48, 48, 48, 48, 51, 45, 48, 55, 120]) (by first | omega | (simp; omega) | (simp; done) | assumption)
  have m156 := X153.1
  refine Wo.call (by kernel_rfl) (by kernel_rfl) c148 ?_
  clear c148
  refine Wo.pre 7 (by kernel_rfl) ?_
  refine Wo.nil ?_
  refine Wp.seq ?_
  refine Wp.region ?_
  refine Wo.pre 1 (by kernel_rfl) ?_
  refine Wo.cmpN (op := .neq) (x := IX.t 35) (y := IX.c (AV.int IntKind.i64 5)) (k := IntKind.i64) (a := E151) (b := 5) ((E151 : Int) = (5 : Int)) (by kernel_rfl) (by kernel_rfl) (by kernel_rfl) (by kernel_rfl) (by simp) (by kernel_rfl) (fun q157 => ?_) (fun q157 => ?_)
  rotate_left
  · exact (‹¬ (_ : Int) = 5› (parse_no (by with_reducible assumption) (by decide))).elim
  have m158 := F145.1
  refine Wo.nil ?_
  refine Wp.cond false (by kernel_rfl) ?_
  refine Wp.skip ?_
  refine Wp.region ?_
  refine Wo.pre 1 (by kernel_rfl) ?_
  refine Wo.pre 2 (by kernel_rfl) ?_
  refine Wo.nil ?_
  refine Wp.loop ?_
  refine Wp.seq ?_
  refine Wp.seq ?_
  refine Wp.region ?_
  refine Wo.pre 1 (by kernel_rfl) ?_
  refine Wo.pre 1 (by kernel_rfl) ?_
  refine Wo.nil ?_
  refine Wp.cond false (by kernel_rfl) ?_
  refine Wp.exit ?_
  exact  known_2 (by kernel_rfl)
end Go.Det

