/- Entries: lists of certificates. -/
import Derived.Test.YthahfhdibhgboaaEnt3
set_option linter.unusedVariables false
set_option linter.unusedSimpArgs false
set_option linter.unusedSectionVars false
namespace Go.Det
open Go.Proofs
attribute [local irreducible] Wp Wo Wd iop ev slots quiets wanted put

def certB (c : List UInt8) : List UInt8 := digits c.length 3 3 ++ c
def inner (xs : List (AV × List UInt8)) : List UInt8 := (xs.map fun p => certB p.2).flatten
def listB (xs : List (AV × List UInt8)) : List UInt8 := digits (inner xs).length 3 3 ++ inner xs
def Small (xs : List (AV × List UInt8)) : Prop := xs.length ≤ 4 ∧ ∀ p ∈ xs, p.2.length ≤ 512

theorem inner_snoc (xs : List (AV × List UInt8)) (p : AV × List UInt8) : inner (xs ++ [p]) = inner xs ++ certB p.2 := by simp [inner]
theorem inner_len : ∀ (xs : List (AV × List UInt8)), (∀ p ∈ xs, p.2.length ≤ 512) → (inner xs).length ≤ 515 * xs.length
  | [], _ => by simp [inner]
  | p :: xs, h => by
    have h1 := inner_len xs (fun q hq => h q (by simp [hq]))
    have h2 := h p (by simp)
    have : inner (p :: xs) = certB p.2 ++ inner xs := by simp [inner]
    rw [this, List.length_append]
    simp only [certB, List.length_append, digits_len, List.length_cons]
    omega
theorem take_step {α : Type} {xs : List α} {i : Nat} {p : α} (hp : xs[i]? = some p) : xs.take (i + 1) = xs.take i ++ [p] := by rw [List.take_add_one, hp]; rfl

set_option maxHeartbeats 1000000 in
theorem rlist_loop {h0 : H} {v : AV} {xs : List (AV × List UInt8)} (hc : Ch h0 v xs) (hs : Small xs) :
    ∀ (k i : Nat), i + k = xs.length → ∀ (h : H) (inV : AV) (ts : List AV), Ext h0 h → Ow h0.n h inV (inner (xs.take i)) → ts.length = 20 → getL ts 0 = some v → getL ts 3 = some inV → getL ts 4 = some (.int .i64 i) →
      ∀ (Q : Ex → St → Prop), (∀ ts' h' inV, ts'.length = 20 → Ext h0 h' → Ow h0.n h' inV (inner xs) → getL ts' 3 = some inV → Q (.exit 0) (ts', h')) → Wp TF (.loop l81_1) (ts, h) Q := by
  have hmx : 200000000000000 = maxRow := rfl
  intro k
  induction k with
  | zero =>
    intro i hi h inV ts hE hO t0 ta t3 t4 Q hQ
    obtain rfl : i = xs.length := by omega
    rw [List.take_length] at hO
    refine Wp.loop ?_
    rw [laid_eq t0 [(0, v), (3, inV), (4, .int .i64 xs.length)] (by simp [ta, t3, t4])]
    unfold l81_1
    refine Wp.seq ?_
    refine Wp.seq ?_
    refine Wp.region ?_
    refine Wo.pre 1 (by kernel_rfl) ?_
    refine Wo.pre 1 (by kernel_rfl) ?_
    refine Wo.val (.int .i64 xs.length) h (by kernel_rfl) (iop_lenS (v := v) (by kernel_rfl) hc.lenS) ?_
    refine Wo.val (.bool false) h (by kernel_rfl) (iop_cmp (op := .lss) (k := .i64) (a := xs.length) (b := xs.length) false (by kernel_rfl) (by kernel_rfl) (by simp) (by simp [binInt])) ?_
    refine Wo.nil ?_
    refine Wp.cond false (by kernel_rfl) ?_
    exact Wp.exit (hQ _ _ inV (by kernel_rfl) hE hO (by kernel_rfl))
  | succ k ih =>
    intro i hi h inV ts hE hO t0 ta t3 t4 Q hQ
    have hlt : i < xs.length := by omega
    obtain ⟨p, hp⟩ : ∃ p, xs[i]? = some p := ⟨xs[i], List.getElem?_eq_getElem hlt⟩
    have hps := hs.2 p (List.mem_of_getElem? hp)
    have hB := ((hc.el p (List.mem_of_getElem? hp)).1).ext hE
    have hls := hc.lenS
    obtain ⟨a, q, rfl, hld⟩ := (hc.ext hE).at hp
    have wi : IntKind.i64.wrap ((i : Int) + 1) = ((i + 1 : Nat) : Int) := by rw [i64_fit _ (by have := hs.1; omega)]; omega
    have hil : (inner (xs.take i)).length ≤ 515 * 4 := by
      have := inner_len (xs.take i) (fun q hq => hs.2 q (List.mem_of_mem_take hq))
      have h2 : (xs.take i).length ≤ 4 := by rw [List.length_take]; have := hs.1; omega
      omega
    obtain ⟨y, H1, c1, X1, o1⟩ := rvecq_run hB (3 : Nat) (by omega)
    rw [if_pos (vecE_small (by omega) (.inr rfl))] at o1
    have n0 := hE.1
    have n1 := X1.1
    obtain ⟨z, G1, a1, w1, Y1, _⟩ := (hO.ext X1).app o1.bs (by omega) (by simp [digits_len]; omega)
    have E1 : Ext h0 G1 := (hE.trans X1).then2 Y1
    have hstep : inner (xs.take i) ++ (digits p.2.length ((3 : Nat) : Int).toNat ((3 : Nat) : Int).toNat ++ p.2) = inner (xs.take (i + 1)) := by
      rw [take_step hp, inner_snoc]; rfl
    rw [hstep] at w1
    refine Wp.loop ?_
    rw [laid_eq t0 [(0, .sl a xs.length q), (3, inV), (4, .int .i64 i)] (by simp [ta, t3, t4])]
    unfold l81_1
    refine Wp.seq ?_
    refine Wp.seq ?_
    refine Wp.region ?_
    refine Wo.pre 1 (by kernel_rfl) ?_
    refine Wo.pre 1 (by kernel_rfl) ?_
    refine Wo.val (.int .i64 xs.length) h (by kernel_rfl) (iop_lenS (v := .sl a xs.length q) (by kernel_rfl) hls) ?_
    refine Wo.val (.bool true) h (by kernel_rfl) (iop_cmp (op := .lss) (k := .i64) (a := i) (b := xs.length) true (by kernel_rfl) (by kernel_rfl) (by simp) (by simp [binInt]; omega)) ?_
    refine Wo.nil ?_
    refine Wp.cond true (by kernel_rfl) ?_
    refine Wp.skip ?_
    refine Wp.seq ?_
    refine Wp.block ?_
    refine Wp.region ?_
    refine Wo.pre 1 (by kernel_rfl) ?_
    refine Wo.pre 1 (by kernel_rfl) ?_
    refine Wo.pre 1 (by kernel_rfl) ?_
    refine Wo.val _ h (by kernel_rfl) (iop_ia (a := a) (n := xs.length) (c := q) (i := i) (by kernel_rfl) (by kernel_rfl) hlt) ?_
    refine Wo.val p.1 h (by kernel_rfl) (iop_ld (a := ⟨a.b, a.g, a.o + i * 1⟩) (by kernel_rfl) hld) ?_
    refine Wo.call (by kernel_rfl) (by kernel_rfl) (c1) ?_
    refine Wo.val z G1 (by kernel_rfl) (iop_app (v := inV) (w := y) (by kernel_rfl) (by kernel_rfl) o1.bs.parts.2.2 a1) ?_
    refine Wo.pre 1 (by kernel_rfl) ?_
    refine Wo.nil ?_
    refine Wp.region ?_
    refine Wo.pre 1 (by kernel_rfl) ?_
    refine Wo.pre 1 (by kernel_rfl) ?_
    refine Wo.pre 1 (by kernel_rfl) ?_
    refine Wo.nil ?_
    exact ih (i + 1) (by omega) G1 z _ E1 w1 (by kernel_rfl) (by kernel_rfl) (by kernel_rfl) (by rw [← wi]; kernel_rfl) Q hQ

theorem rlist_run {h : H} {v : AV} {xs : List (AV × List UInt8)} (hc : Ch h v xs) (hs : Small xs) : ∃ z h', Runs TF 81 [v] h z h' ∧ Ext h h' ∧ Ow h.n h' z (listB xs) := by
  refine Runs.ofP f81 rfl ?_
  have hmx : 200000000000000 = maxRow := rfl
  refine Wp.seq ?_
  refine Wp.region ?_
  refine Wo.pre 8 (by kernel_rfl) ?_
  refine Wo.nil ?_
  refine Wp.seq ?_
  refine Wp.region ?_
  refine Wo.pre 8 (by kernel_rfl) ?_
  refine Wo.nil ?_
  refine Wp.seq ?_
  refine Wp.seq ?_
  refine Wp.region ?_
  refine Wo.pre 8 (by kernel_rfl) ?_
  refine Wo.nil ?_
  refine Wp.block ?_
  refine rlist_loop hc hs xs.length 0 (by omega) h .nils _ (Ext.refl h) (.inl ⟨rfl, by simp [inner]⟩) (by kernel_rfl) (by kernel_rfl) (by kernel_rfl) (by kernel_rfl) _ ?_
  intro ts' h' inV d0 hE hO d3
  rw [laid_eq d0 [(3, inV)] (by simp [d3])]
  have hil := inner_len xs hs.2
  have h4 := hs.1
  obtain ⟨z, H1, c1, X1, o1⟩ := rvecq_run hO.bs (3 : Nat) (by omega)
  rw [if_pos (vecE_small (by omega) (.inr rfl))] at o1
  refine Wp.seq ?_
  refine Wp.region ?_
  refine Wo.pre 1 (by kernel_rfl) ?_
  refine Wo.call (by kernel_rfl) (by kernel_rfl) (c1) ?_
  refine Wo.pre 8 (by kernel_rfl) ?_
  refine Wo.nil ?_
  exact Wp.ret ⟨.inr rfl, z, (by kernel_rfl), hE.trans X1, o1.mono hE.1⟩

/-- The closure: a certificate is laid behind. -/
theorem add_run {h : H} {ib : Nat} {inV c : AV} {l cl : List UInt8} (hg : h.get ib = some (.cells 0 22 [inV] 0 false)) (hib : ib < h.n) (hi : Bs h inV l) (hc : Bs h c cl) (hcl : cl.length < 65536) (hl : l.length + 16777224 ≤ maxRow) :
    ∃ r h', Runs TF 87 [c, .ptr ⟨ib, 0, 0⟩] h r h' ∧ ∃ z, h'.get ib = some (.cells 0 22 [z] 0 false) ∧ Ow h.n h' z (l ++ certB cl) ∧ ExtB ib h h' := by
  have hmx : 200000000000000 = maxRow := rfl
  obtain ⟨r1, H1, c1, z, rfl, X1, o1⟩ := wvec_any hi hc (3 : Nat) hl (by omega)
  rw [vecE_small hcl (.inr rfl)] at c1
  rw [if_pos (vecE_small hcl (.inr rfl)), List.append_assoc] at o1
  have o1 : Ow h.n H1 z (l ++ certB cl) := o1
  have hp := o1.bs.parts
  have g1 : H1.get ib = some (.cells 0 22 [inV] 0 false) := by rw [X1.2 _ hib]; exact hg
  have L0 : h.ldg ⟨ib, 0, 0⟩ none = some inV := by simp [H.ldg, H.ld, H.row, hg, getL]
  obtain ⟨H2, hH2⟩ : ∃ H2, H2 = H1.set ib (.cells 0 22 [z] 0 false) := ⟨_, rfl⟩
  have st : H1.st ⟨ib, 0, 0⟩ [z] = some H2 := by
    unfold H.st
    simp only [g1]
    rw [if_pos (by simp [hp.2.1]), hH2]
    rfl
  have n1 := X1.1
  refine Runs.ofP f87 rfl ?_
  refine Wp.seq ?_
  refine Wp.region ?_
  refine Wo.val inV h (by kernel_rfl) (iop_ld (a := ⟨ib, 0, 0⟩) (by kernel_rfl) L0) ?_
  refine Wo.pre 1 (by kernel_rfl) ?_
  refine Wo.call (by kernel_rfl) (by kernel_rfl) (c1) ?_
  refine Wo.pre 8 (by kernel_rfl) ?_
  refine Wo.nil ?_
  refine Wp.seq ?_
  refine Wp.region ?_
  refine Wo.pre 8 (by kernel_rfl) ?_
  refine Wo.nil ?_
  refine Wp.cond true (by kernel_rfl) ?_
  refine Wp.region ?_
  refine Wo.pre 1 (by kernel_rfl) ?_
  refine Wo.val .undef H2 (by kernel_rfl) (iop_st1 (a := ⟨ib, 0, 0⟩) (v := z) (by kernel_rfl) (by kernel_rfl) hp.1 st) ?_
  refine Wo.nil ?_
  refine ⟨.inl rfl, .tup [], (by kernel_rfl), z, by rw [hH2, H1.get_set], ?_, by rw [hH2]; exact n1, fun b hb hne => by rw [hH2, H1.get_set_ne _ b _ hne]; exact X1.2 b hb⟩
  rcases o1 with h0 | ⟨b, g, q1, q2, q3, q4⟩
  · exact .inl h0
  · exact .inr ⟨b, g, q1, by rw [hH2]; exact q2, by rw [hH2, H1.get_set_ne _ b _ (by omega)]; exact q3, q4⟩

set_option maxHeartbeats 1000000 in
theorem list_loop {h0 : H} {v : AV} {xs : List (AV × List UInt8)} {ib : Nat} (hc : Ch h0 v xs) (hs : Small xs) (hib0 : h0.n ≤ ib) :
    ∀ (k i : Nat), i + k = xs.length → ∀ (h : H) (inV : AV) (ts : List AV), Ext h0 h → ib < h.n → h.get ib = some (.cells 0 22 [inV] 0 false) → Bs h inV (inner (xs.take i)) → ts.length = 26 → getL ts 3 = some (.ptr ⟨ib, 0, 0⟩) → getL ts 4 = some (.fn (.func 87) [] [.ptr ⟨ib, 0, 0⟩]) → getL ts 10 = some v → getL ts 11 = some (.int .i64 xs.length) → getL ts 12 = some (.int .i64 i) →
      ∀ (Q : Ex → St → Prop), (∀ ts' h' inV, ts'.length = 26 → Ext h0 h' → h'.get ib = some (.cells 0 22 [inV] 0 false) → Bs h' inV (inner xs) → getL ts' 3 = some (.ptr ⟨ib, 0, 0⟩) → Q (.exit 0) (ts', h')) → Wp TF (.loop l80_1) (ts, h) Q := by
  have hmx : 200000000000000 = maxRow := rfl
  intro k
  induction k with
  | zero =>
    intro i hi h inV ts hE hib hg hO t0 t3 t4 t10 t11 t12 Q hQ
    obtain rfl : i = xs.length := by omega
    rw [List.take_length] at hO
    refine Wp.loop ?_
    rw [laid_eq t0 [(3, .ptr ⟨ib, 0, 0⟩), (4, .fn (.func 87) [] [.ptr ⟨ib, 0, 0⟩]), (10, v), (11, .int .i64 xs.length), (12, .int .i64 xs.length)] (by simp [t3, t4, t10, t11, t12])]
    unfold l80_1
    refine Wp.seq ?_
    refine Wp.region ?_
    refine Wo.val (.bool false) h (by kernel_rfl) (iop_cmp (op := .lss) (k := .i64) (a := xs.length) (b := xs.length) false (by kernel_rfl) (by kernel_rfl) (by simp) (by simp [binInt])) ?_
    refine Wo.nil ?_
    refine Wp.seq ?_
    refine Wp.cond false (by kernel_rfl) ?_
    exact Wp.exit (hQ _ _ inV (by kernel_rfl) hE hg hO (by kernel_rfl))
  | succ k ih =>
    intro i hi h inV ts hE hib hg hO t0 t3 t4 t10 t11 t12 Q hQ
    have hlt : i < xs.length := by omega
    obtain ⟨p, hp⟩ : ∃ p, xs[i]? = some p := ⟨xs[i], List.getElem?_eq_getElem hlt⟩
    have hps := hs.2 p (List.mem_of_getElem? hp)
    have hB := ((hc.el p (List.mem_of_getElem? hp)).1).ext hE
    obtain ⟨a, q, rfl, hld⟩ := (hc.ext hE).at hp
    have wi : IntKind.i64.wrap ((i : Int) + 1) = ((i + 1 : Nat) : Int) := by rw [i64_fit _ (by have := hs.1; omega)]; omega
    have hil : (inner (xs.take i)).length ≤ 515 * 4 := by
      have := inner_len (xs.take i) (fun q hq => hs.2 q (List.mem_of_mem_take hq))
      have h2 : (xs.take i).length ≤ 4 := by rw [List.length_take]; have := hs.1; omega
      omega
    obtain ⟨r1, H1, c1, z, g1, o1, X1⟩ := add_run hg hib hO hB (by omega) (by omega)
    have n0 := hE.1
    have n1 := X1.1
    have E1 : Ext h0 H1 := ⟨by omega, fun b hb => by rw [X1.2 b (by omega) (by omega)]; exact hE.2 b hb⟩
    have hstep : inner (xs.take i) ++ certB p.2 = inner (xs.take (i + 1)) := by rw [take_step hp, inner_snoc]
    rw [hstep] at o1
    refine Wp.loop ?_
    rw [laid_eq t0 [(3, .ptr ⟨ib, 0, 0⟩), (4, .fn (.func 87) [] [.ptr ⟨ib, 0, 0⟩]), (10, .sl a xs.length q), (11, .int .i64 xs.length), (12, .int .i64 i)] (by simp [t3, t4, t10, t11, t12])]
    unfold l80_1
    refine Wp.seq ?_
    refine Wp.region ?_
    refine Wo.val (.bool true) h (by kernel_rfl) (iop_cmp (op := .lss) (k := .i64) (a := i) (b := xs.length) true (by kernel_rfl) (by kernel_rfl) (by simp) (by simp [binInt]; omega)) ?_
    refine Wo.nil ?_
    refine Wp.seq ?_
    refine Wp.cond true (by kernel_rfl) ?_
    refine Wp.skip ?_
    refine Wp.seq ?_
    refine Wp.block ?_
    refine Wp.seq ?_
    refine Wp.region ?_
    refine Wo.val _ h (by kernel_rfl) (iop_ia (a := a) (n := xs.length) (c := q) (i := i) (by kernel_rfl) (by kernel_rfl) hlt) ?_
    refine Wo.val p.1 h (by kernel_rfl) (iop_ld (a := ⟨a.b, a.g, a.o + i * 1⟩) (by kernel_rfl) hld) ?_
    refine Wo.pre 1 (by kernel_rfl) ?_
    refine Wo.nil ?_
    refine Wp.region ?_
    refine Wo.pre 1 (by kernel_rfl) ?_
    refine Wo.pre 1 (by kernel_rfl) ?_
    refine Wo.call (by kernel_rfl) (by kernel_rfl) (c1) ?_
    refine Wo.nil ?_
    refine Wp.region ?_
    refine Wo.pre 1 (by kernel_rfl) ?_
    refine Wo.pre 1 (by kernel_rfl) ?_
    refine Wo.nil ?_
    exact ih (i + 1) (by omega) H1 z _ E1 (by omega) g1 o1.bs (by kernel_rfl) (by kernel_rfl) (by kernel_rfl) (by kernel_rfl) (by kernel_rfl) (by rw [← wi]; kernel_rfl) Q hQ

theorem list_run {h : H} {v : AV} {xs : List (AV × List UInt8)} (hc : Ch h v xs) (hs : Small xs) : ∃ z h', Runs TF 80 [v] h z h' ∧ Ext h h' ∧ Ow h.n h' z (listB xs) := by
  refine Runs.ofP f80 rfl ?_
  have hmx : 200000000000000 = maxRow := rfl
  obtain ⟨H1, hH1⟩ : ∃ H1, H1 = h.new (.cells 0 22 [.nils] 0 false) := ⟨_, rfl⟩
  have X1 : Ext h H1 := by rw [hH1]; exact Ext.new _ _
  have g1 : H1.get h.n = some (.cells 0 22 [.nils] 0 false) := by rw [hH1]; exact h.get_new _
  have en : ∀ ts, iop (.new 22 (.c .nils)) (ev ts) h = some (.val (.ptr ⟨h.n, 0, 0⟩) H1) := fun ts => by rw [hH1]; kernel_rfl
  refine Wp.seq ?_
  refine Wp.region ?_
  refine Wo.pre 8 (by kernel_rfl) ?_
  refine Wo.nil ?_
  refine Wp.seq ?_
  refine Wp.region ?_
  refine Wo.val _ _ (by kernel_rfl) (en _) ?_
  refine Wo.nil ?_
  refine Wp.seq ?_
  refine Wp.region ?_
  refine Wo.pre 8 (by kernel_rfl) ?_
  refine Wo.nil ?_
  refine Wp.seq ?_
  refine Wp.seq ?_
  refine Wp.region ?_
  refine Wo.pre 1 (by kernel_rfl) ?_
  refine Wo.val (.int .i64 xs.length) H1 (by kernel_rfl) (iop_lenS (v := v) (by kernel_rfl) hc.lenS) ?_
  refine Wo.pre 8 (by kernel_rfl) ?_
  refine Wo.nil ?_
  refine Wp.block ?_
  refine list_loop (ib := h.n) hc hs (Nat.le_refl _) xs.length 0 (by omega) H1 .nils _ X1 (by rw [hH1]; simp) g1 (.inl ⟨rfl, by simp [inner]⟩) (by kernel_rfl) (by kernel_rfl) (by kernel_rfl) (by kernel_rfl) (by kernel_rfl) (by kernel_rfl) _ ?_
  intro ts' h' inV d0 hE hg hO d3
  rw [laid_eq d0 [(3, .ptr ⟨h.n, 0, 0⟩)] (by simp [d3])]
  have hil := inner_len xs hs.2
  have h4 := hs.1
  have L0 : h'.ldg ⟨h.n, 0, 0⟩ none = some inV := by simp [H.ldg, H.ld, H.row, hg, getL]
  obtain ⟨r2, H2, c2, z, rfl, X2, o2⟩ := wvec_any (h := h') (x := .nils) (lx := []) (.inl ⟨rfl, rfl⟩) hO (3 : Nat) (by simp; omega) (by omega)
  rw [vecE_small (by omega) (.inr rfl)] at c2
  rw [if_pos (vecE_small (by omega) (.inr rfl)), List.nil_append] at o2
  refine Wp.seq ?_
  refine Wp.region ?_
  refine Wo.val inV h' (by kernel_rfl) (iop_ld (a := ⟨h.n, 0, 0⟩) (by kernel_rfl) L0) ?_
  refine Wo.call (by kernel_rfl) (by kernel_rfl) (c2) ?_
  refine Wo.pre 8 (by kernel_rfl) ?_
  refine Wo.nil ?_
  refine Wp.seq ?_
  refine Wp.region ?_
  refine Wo.pre 8 (by kernel_rfl) ?_
  refine Wo.nil ?_
  exact Wp.ret ⟨.inr rfl, z, (by kernel_rfl), hE.trans X2, o2.mono hE.1⟩
end Go.Det
