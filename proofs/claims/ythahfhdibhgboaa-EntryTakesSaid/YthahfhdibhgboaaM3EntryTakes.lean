/- Texts of the proof, one behind the other (List, Ent4, SameE, SameF, SpoilE, Own, SpoilR, Makes, CertL, Certs, TakeRec, ItemL, Fr, TakeItem, SpoilI, ChOf). -/
import Derived.Test.YthahfhdibhgboaaM2EntryTakes
/- Entries: lists of certificates. -/
set_option linter.unusedVariables false
set_option linter.unusedSimpArgs false
set_option linter.unusedSectionVars false
namespace Go.Det
open Go.Proofs
attribute [local irreducible] Wp Wo Wd iop ev slots quiets wanted put

def certB (c : List UInt8) : List UInt8 := digits c.length 3 3 ++ c
def inner (xs : List (AV × List UInt8)) : List UInt8 := (xs.map fun p => certB p.2).flatten
def listB (xs : List (AV × List UInt8)) : List UInt8 := digits (inner xs).length 3 3 ++ inner xs
def Small (xs : List (AV × List UInt8)) : Prop := xs.length ≤ 4 ∧ ∀ p ∈ xs, p.2.length ≤ 512

theorem inner_snoc (xs : List (AV × List UInt8)) (p : AV × List UInt8) : inner (xs ++ [p]) = inner xs ++ certB p.2 := by simp [inner]
theorem inner_len : ∀ (xs : List (AV × List UInt8)), (∀ p ∈ xs, p.2.length ≤ 512) → (inner xs).length ≤ 515 * xs.length
  | [], _ => by simp [inner]
  | p :: xs, h => by
    have h1 := inner_len xs (fun q hq => h q (by simp [hq]))
    have h2 := h p (by simp)
    have : inner (p :: xs) = certB p.2 ++ inner xs := by simp [inner]
    rw [this, List.length_append]
    simp only [certB, List.length_append, digits_len, List.length_cons]
    omega
theorem take_step {α : Type} {xs : List α} {i : Nat} {p : α} (hp : xs[i]? = some p) : xs.take (i + 1) = xs.take i ++ [p] := by rw [List.take_add_one, hp]; rfl

set_option maxHeartbeats 1000000 in
theorem rlist_loop {h0 : H} {v : AV} {xs : List (AV × List UInt8)} (hc : Ch h0 v xs) (hs : Small xs) :
    ∀ (k i : Nat), i + k = xs.length → ∀ (h : H) (inV : AV) (ts : List AV), Ext h0 h → Ow h0.n h inV (inner (xs.take i)) → ts.length = 20 → getL ts 0 = some v → getL ts 3 = some inV → getL ts 4 = some (.int .i64 i) →
      ∀ (Q : Ex → St → Prop), (∀ ts' h' inV, ts'.length = 20 → Ext h0 h' → Ow h0.n h' inV (inner xs) → getL ts' 3 = some inV → Q (.exit 0) (ts', h')) → Wp TF (.loop l81_1) (ts, h) Q := by
  have hmx : 200000000000000 = maxRow := rfl
  intro k
  induction k with
  | zero =>
    intro i hi h inV ts hE hO t0 ta t3 t4 Q hQ
    obtain rfl : i = xs.length := by omega
    rw [List.take_length] at hO
    refine Wp.loop ?_
    rw [laid_eq t0 [(0, v), (3, inV), (4, .int .i64 xs.length)] (by simp [ta, t3, t4])]
    unfold l81_1
    refine Wp.seq ?_
    refine Wp.seq ?_
    refine Wp.region ?_
    refine Wo.pre 1 (by kernel_rfl) ?_
    refine Wo.pre 1 (by kernel_rfl) ?_
    refine Wo.val (.int .i64 xs.length) h (by kernel_rfl) (iop_lenS (v := v) (by kernel_rfl) hc.lenS) ?_
    refine Wo.val (.bool false) h (by kernel_rfl) (iop_cmp (op := .lss) (k := .i64) (a := xs.length) (b := xs.length) false (by kernel_rfl) (by kernel_rfl) (by simp) (by simp [binInt])) ?_
    refine Wo.nil ?_
    refine Wp.cond false (by kernel_rfl) ?_
    exact Wp.exit (hQ _ _ inV (by kernel_rfl) hE hO (by kernel_rfl))
  | succ k ih =>
    intro i hi h inV ts hE hO t0 ta t3 t4 Q hQ
    have hlt : i < xs.length := by omega
    obtain ⟨p, hp⟩ : ∃ p, xs[i]? = some p := ⟨xs[i], List.getElem?_eq_getElem hlt⟩
    have hps := hs.2 p (List.mem_of_getElem? hp)
    have hB := ((hc.el p (List.mem_of_getElem? hp)).1).ext hE
    have hls := hc.lenS
    obtain ⟨a, q, rfl, hld⟩ := (hc.ext hE).at hp
    have wi : IntKind.i64.wrap ((i : Int) + 1) = ((i + 1 : Nat) : Int) := by rw [i64_fit _ (by have := hs.1; omega)]; omega
    have hil : (inner (xs.take i)).length ≤ 515 * 4 := by
      have := inner_len (xs.take i) (fun q hq => hs.2 q (List.mem_of_mem_take hq))
      have h2 : (xs.take i).length ≤ 4 := by rw [List.length_take]; have := hs.1; omega
      omega
    obtain ⟨y, H1, c1, X1, o1⟩ := rvecq_run hB (3 : Nat) (by omega)
    rw [if_pos (vecE_small (by omega) (.inr rfl))] at o1
    have n0 := hE.1
    have n1 := X1.1
    obtain ⟨z, G1, a1, w1, Y1, _⟩ := (hO.ext X1).app o1.bs (by omega) (by simp [digits_len]; omega)
    have E1 : Ext h0 G1 := (hE.trans X1).then2 Y1
    have hstep : inner (xs.take i) ++ (digits p.2.length ((3 : Nat) : Int).toNat ((3 : Nat) : Int).toNat ++ p.2) = inner (xs.take (i + 1)) := by
      rw [take_step hp, inner_snoc]; rfl
    rw [hstep] at w1
    refine Wp.loop ?_
    rw [laid_eq t0 [(0, .sl a xs.length q), (3, inV), (4, .int .i64 i)] (by simp [ta, t3, t4])]
    unfold l81_1
    refine Wp.seq ?_
    refine Wp.seq ?_
    refine Wp.region ?_
    refine Wo.pre 1 (by kernel_rfl) ?_
    refine Wo.pre 1 (by kernel_rfl) ?_
    refine Wo.val (.int .i64 xs.length) h (by kernel_rfl) (iop_lenS (v := .sl a xs.length q) (by kernel_rfl) hls) ?_
    refine Wo.val (.bool true) h (by kernel_rfl) (iop_cmp (op := .lss) (k := .i64) (a := i) (b := xs.length) true (by kernel_rfl) (by kernel_rfl) (by simp) (by simp [binInt]; omega)) ?_
    refine Wo.nil ?_
    refine Wp.cond true (by kernel_rfl) ?_
    refine Wp.skip ?_
    refine Wp.seq ?_
    refine Wp.block ?_
    refine Wp.region ?_
    refine Wo.pre 1 (by kernel_rfl) ?_
    refine Wo.pre 1 (by kernel_rfl) ?_
    refine Wo.pre 1 (by kernel_rfl) ?_
    refine Wo.val _ h (by kernel_rfl) (iop_ia (a := a) (n := xs.length) (c := q) (i := i) (by kernel_rfl) (by kernel_rfl) hlt) ?_
    refine Wo.val p.1 h (by kernel_rfl) (iop_ld (a := ⟨a.b, a.g, a.o + i * 1⟩) (by kernel_rfl) hld) ?_
    refine Wo.call (by kernel_rfl) (by kernel_rfl) (c1) ?_
    refine Wo.val z G1 (by kernel_rfl) (iop_app (v := inV) (w := y) (by kernel_rfl) (by kernel_rfl) o1.bs.parts.2.2 a1) ?_
    refine Wo.pre 1 (by kernel_rfl) ?_
    refine Wo.nil ?_
    refine Wp.region ?_
    refine Wo.pre 1 (by kernel_rfl) ?_
    refine Wo.pre 1 (by kernel_rfl) ?_
    refine Wo.pre 1 (by kernel_rfl) ?_
    refine Wo.nil ?_
    exact ih (i + 1) (by omega) G1 z _ E1 w1 (by kernel_rfl) (by kernel_rfl) (by kernel_rfl) (by rw [← wi]; kernel_rfl) Q hQ

theorem rlist_run {h : H} {v : AV} {xs : List (AV × List UInt8)} (hc : Ch h v xs) (hs : Small xs) : ∃ z h', Runs TF 81 [v] h z h' ∧ Ext h h' ∧ Ow h.n h' z (listB xs) := by
  refine Runs.ofP f81 rfl ?_
  have hmx : 200000000000000 = maxRow := rfl
  refine Wp.seq ?_
  refine Wp.region ?_
  refine Wo.pre 8 (by kernel_rfl) ?_
  refine Wo.nil ?_
  refine Wp.seq ?_
  refine Wp.region ?_
  refine Wo.pre 8 (by kernel_rfl) ?_
  refine Wo.nil ?_
  refine Wp.seq ?_
  refine Wp.seq ?_
  refine Wp.region ?_
  refine Wo.pre 8 (by kernel_rfl) ?_
  refine Wo.nil ?_
  refine Wp.block ?_
  refine rlist_loop hc hs xs.length 0 (by omega) h .nils _ (Ext.refl h) (.inl ⟨rfl, by simp [inner]⟩) (by kernel_rfl) (by kernel_rfl) (by kernel_rfl) (by kernel_rfl) _ ?_
  intro ts' h' inV d0 hE hO d3
  rw [laid_eq d0 [(3, inV)] (by simp [d3])]
  have hil := inner_len xs hs.2
  have h4 := hs.1
  obtain ⟨z, H1, c1, X1, o1⟩ := rvecq_run hO.bs (3 : Nat) (by omega)
  rw [if_pos (vecE_small (by omega) (.inr rfl))] at o1
  refine Wp.seq ?_
  refine Wp.region ?_
  refine Wo.pre 1 (by kernel_rfl) ?_
  refine Wo.call (by kernel_rfl) (by kernel_rfl) (c1) ?_
  refine Wo.pre 8 (by kernel_rfl) ?_
  refine Wo.nil ?_
  exact Wp.ret ⟨.inr rfl, z, (by kernel_rfl), hE.trans X1, o1.mono hE.1⟩

/-- The closure: a certificate is laid behind. -/
theorem add_run {h : H} {ib : Nat} {inV c : AV} {l cl : List UInt8} (hg : h.get ib = some (.cells 0 22 [inV] 0 false)) (hib : ib < h.n) (hi : Bs h inV l) (hc : Bs h c cl) (hcl : cl.length < 65536) (hl : l.length + 16777224 ≤ maxRow) :
    ∃ r h', Runs TF 87 [c, .ptr ⟨ib, 0, 0⟩] h r h' ∧ ∃ z, h'.get ib = some (.cells 0 22 [z] 0 false) ∧ Ow h.n h' z (l ++ certB cl) ∧ ExtB ib h h' := by
  have hmx : 200000000000000 = maxRow := rfl
  obtain ⟨r1, H1, c1, z, rfl, X1, o1⟩ := wvec_any hi hc (3 : Nat) hl (by omega)
  rw [vecE_small hcl (.inr rfl)] at c1
  rw [if_pos (vecE_small hcl (.inr rfl)), List.append_assoc] at o1
  have o1 : Ow h.n H1 z (l ++ certB cl) := o1
  have hp := o1.bs.parts
  have g1 : H1.get ib = some (.cells 0 22 [inV] 0 false) := by rw [X1.2 _ hib]; exact hg
  have L0 : h.ldg ⟨ib, 0, 0⟩ none = some inV := by simp [H.ldg, H.ld, H.row, hg, getL]
  obtain ⟨H2, hH2⟩ : ∃ H2, H2 = H1.set ib (.cells 0 22 [z] 0 false) := ⟨_, rfl⟩
  have st : H1.st ⟨ib, 0, 0⟩ [z] = some H2 := by
    unfold H.st
    simp only [g1]
    rw [if_pos (by simp [hp.2.1]), hH2]
    rfl
  have n1 := X1.1
  refine Runs.ofP f87 rfl ?_
  refine Wp.seq ?_
  refine Wp.region ?_
  refine Wo.val inV h (by kernel_rfl) (iop_ld (a := ⟨ib, 0, 0⟩) (by kernel_rfl) L0) ?_
  refine Wo.pre 1 (by kernel_rfl) ?_
  refine Wo.call (by kernel_rfl) (by kernel_rfl) (c1) ?_
  refine Wo.pre 8 (by kernel_rfl) ?_
  refine Wo.nil ?_
  refine Wp.seq ?_
  refine Wp.region ?_
  refine Wo.pre 8 (by kernel_rfl) ?_
  refine Wo.nil ?_
  refine Wp.cond true (by kernel_rfl) ?_
  refine Wp.region ?_
  refine Wo.pre 1 (by kernel_rfl) ?_
  refine Wo.val .undef H2 (by kernel_rfl) (iop_st1 (a := ⟨ib, 0, 0⟩) (v := z) (by kernel_rfl) (by kernel_rfl) hp.1 st) ?_
  refine Wo.nil ?_
  refine ⟨.inl rfl, .tup [], (by kernel_rfl), z, by rw [hH2, H1.get_set], ?_, by rw [hH2]; exact n1, fun b hb hne => by rw [hH2, H1.get_set_ne _ b _ hne]; exact X1.2 b hb⟩
  rcases o1 with h0 | ⟨b, g, q1, q2, q3, q4⟩
  · exact .inl h0
  · exact .inr ⟨b, g, q1, by rw [hH2]; exact q2, by rw [hH2, H1.get_set_ne _ b _ (by omega)]; exact q3, q4⟩

set_option maxHeartbeats 1000000 in
theorem list_loop {h0 : H} {v : AV} {xs : List (AV × List UInt8)} {ib : Nat} (hc : Ch h0 v xs) (hs : Small xs) (hib0 : h0.n ≤ ib) :
    ∀ (k i : Nat), i + k = xs.length → ∀ (h : H) (inV : AV) (ts : List AV), Ext h0 h → ib < h.n → h.get ib = some (.cells 0 22 [inV] 0 false) → Bs h inV (inner (xs.take i)) → ts.length = 26 → getL ts 3 = some (.ptr ⟨ib, 0, 0⟩) → getL ts 4 = some (.fn (.func 87) [] [.ptr ⟨ib, 0, 0⟩]) → getL ts 10 = some v → getL ts 11 = some (.int .i64 xs.length) → getL ts 12 = some (.int .i64 i) →
      ∀ (Q : Ex → St → Prop), (∀ ts' h' inV, ts'.length = 26 → Ext h0 h' → h'.get ib = some (.cells 0 22 [inV] 0 false) → Bs h' inV (inner xs) → getL ts' 3 = some (.ptr ⟨ib, 0, 0⟩) → Q (.exit 0) (ts', h')) → Wp TF (.loop l80_1) (ts, h) Q := by
  have hmx : 200000000000000 = maxRow := rfl
  intro k
  induction k with
  | zero =>
    intro i hi h inV ts hE hib hg hO t0 t3 t4 t10 t11 t12 Q hQ
    obtain rfl : i = xs.length := by omega
    rw [List.take_length] at hO
    refine Wp.loop ?_
    rw [laid_eq t0 [(3, .ptr ⟨ib, 0, 0⟩), (4, .fn (.func 87) [] [.ptr ⟨ib, 0, 0⟩]), (10, v), (11, .int .i64 xs.length), (12, .int .i64 xs.length)] (by simp [t3, t4, t10, t11, t12])]
    unfold l80_1
    refine Wp.seq ?_
    refine Wp.region ?_
    refine Wo.val (.bool false) h (by kernel_rfl) (iop_cmp (op := .lss) (k := .i64) (a := xs.length) (b := xs.length) false (by kernel_rfl) (by kernel_rfl) (by simp) (by simp [binInt])) ?_
    refine Wo.nil ?_
    refine Wp.seq ?_
    refine Wp.cond false (by kernel_rfl) ?_
    exact Wp.exit (hQ _ _ inV (by kernel_rfl) hE hg hO (by kernel_rfl))
  | succ k ih =>
    intro i hi h inV ts hE hib hg hO t0 t3 t4 t10 t11 t12 Q hQ
    have hlt : i < xs.length := by omega
    obtain ⟨p, hp⟩ : ∃ p, xs[i]? = some p := ⟨xs[i], List.getElem?_eq_getElem hlt⟩
    have hps := hs.2 p (List.mem_of_getElem? hp)
    have hB := ((hc.el p (List.mem_of_getElem? hp)).1).ext hE
    obtain ⟨a, q, rfl, hld⟩ := (hc.ext hE).at hp
    have wi : IntKind.i64.wrap ((i : Int) + 1) = ((i + 1 : Nat) : Int) := by rw [i64_fit _ (by have := hs.1; omega)]; omega
    have hil : (inner (xs.take i)).length ≤ 515 * 4 := by
      have := inner_len (xs.take i) (fun q hq => hs.2 q (List.mem_of_mem_take hq))
      have h2 : (xs.take i).length ≤ 4 := by rw [List.length_take]; have := hs.1; omega
      omega
    obtain ⟨r1, H1, c1, z, g1, o1, X1⟩ := add_run hg hib hO hB (by omega) (by omega)
    have n0 := hE.1
    have n1 := X1.1
    have E1 : Ext h0 H1 := ⟨by omega, fun b hb => by rw [X1.2 b (by omega) (by omega)]; exact hE.2 b hb⟩
    have hstep : inner (xs.take i) ++ certB p.2 = inner (xs.take (i + 1)) := by rw [take_step hp, inner_snoc]
    rw [hstep] at o1
    refine Wp.loop ?_
    rw [laid_eq t0 [(3, .ptr ⟨ib, 0, 0⟩), (4, .fn (.func 87) [] [.ptr ⟨ib, 0, 0⟩]), (10, .sl a xs.length q), (11, .int .i64 xs.length), (12, .int .i64 i)] (by simp [t3, t4, t10, t11, t12])]
    unfold l80_1
    refine Wp.seq ?_
    refine Wp.region ?_
    refine Wo.val (.bool true) h (by kernel_rfl) (iop_cmp (op := .lss) (k := .i64) (a := i) (b := xs.length) true (by kernel_rfl) (by kernel_rfl) (by simp) (by simp [binInt]; omega)) ?_
    refine Wo.nil ?_
    refine Wp.seq ?_
    refine Wp.cond true (by kernel_rfl) ?_
    refine Wp.skip ?_
    refine Wp.seq ?_
    refine Wp.block ?_
    refine Wp.seq ?_
    refine Wp.region ?_
    refine Wo.val _ h (by kernel_rfl) (iop_ia (a := a) (n := xs.length) (c := q) (i := i) (by kernel_rfl) (by kernel_rfl) hlt) ?_
    refine Wo.val p.1 h (by kernel_rfl) (iop_ld (a := ⟨a.b, a.g, a.o + i * 1⟩) (by kernel_rfl) hld) ?_
    refine Wo.pre 1 (by kernel_rfl) ?_
    refine Wo.nil ?_
    refine Wp.region ?_
    refine Wo.pre 1 (by kernel_rfl) ?_
    refine Wo.pre 1 (by kernel_rfl) ?_
    refine Wo.call (by kernel_rfl) (by kernel_rfl) (c1) ?_
    refine Wo.nil ?_
    refine Wp.region ?_
    refine Wo.pre 1 (by kernel_rfl) ?_
    refine Wo.pre 1 (by kernel_rfl) ?_
    refine Wo.nil ?_
    exact ih (i + 1) (by omega) H1 z _ E1 (by omega) g1 o1.bs (by kernel_rfl) (by kernel_rfl) (by kernel_rfl) (by kernel_rfl) (by kernel_rfl) (by rw [← wi]; kernel_rfl) Q hQ

theorem list_run {h : H} {v : AV} {xs : List (AV × List UInt8)} (hc : Ch h v xs) (hs : Small xs) : ∃ z h', Runs TF 80 [v] h z h' ∧ Ext h h' ∧ Ow h.n h' z (listB xs) := by
  refine Runs.ofP f80 rfl ?_
  have hmx : 200000000000000 = maxRow := rfl
  obtain ⟨H1, hH1⟩ : ∃ H1, H1 = h.new (.cells 0 22 [.nils] 0 false) := ⟨_, rfl⟩
  have X1 : Ext h H1 := by rw [hH1]; exact Ext.new _ _
  have g1 : H1.get h.n = some (.cells 0 22 [.nils] 0 false) := by rw [hH1]; exact h.get_new _
  have en : ∀ ts, iop (.new 22 (.c .nils)) (ev ts) h = some (.val (.ptr ⟨h.n, 0, 0⟩) H1) := fun ts => by rw [hH1]; kernel_rfl
  refine Wp.seq ?_
  refine Wp.region ?_
  refine Wo.pre 8 (by kernel_rfl) ?_
  refine Wo.nil ?_
  refine Wp.seq ?_
  refine Wp.region ?_
  refine Wo.val _ _ (by kernel_rfl) (en _) ?_
  refine Wo.nil ?_
  refine Wp.seq ?_
  refine Wp.region ?_
  refine Wo.pre 8 (by kernel_rfl) ?_
  refine Wo.nil ?_
  refine Wp.seq ?_
  refine Wp.seq ?_
  refine Wp.region ?_
  refine Wo.pre 1 (by kernel_rfl) ?_
  refine Wo.val (.int .i64 xs.length) H1 (by kernel_rfl) (iop_lenS (v := v) (by kernel_rfl) hc.lenS) ?_
  refine Wo.pre 8 (by kernel_rfl) ?_
  refine Wo.nil ?_
  refine Wp.block ?_
  refine list_loop (ib := h.n) hc hs (Nat.le_refl _) xs.length 0 (by omega) H1 .nils _ X1 (by rw [hH1]; simp) g1 (.inl ⟨rfl, by simp [inner]⟩) (by kernel_rfl) (by kernel_rfl) (by kernel_rfl) (by kernel_rfl) (by kernel_rfl) (by kernel_rfl) _ ?_
  intro ts' h' inV d0 hE hg hO d3
  rw [laid_eq d0 [(3, .ptr ⟨h.n, 0, 0⟩)] (by simp [d3])]
  have hil := inner_len xs hs.2
  have h4 := hs.1
  have L0 : h'.ldg ⟨h.n, 0, 0⟩ none = some inV := by simp [H.ldg, H.ld, H.row, hg, getL]
  obtain ⟨r2, H2, c2, z, rfl, X2, o2⟩ := wvec_any (h := h') (x := .nils) (lx := []) (.inl ⟨rfl, rfl⟩) hO (3 : Nat) (by simp; omega) (by omega)
  rw [vecE_small (by omega) (.inr rfl)] at c2
  rw [if_pos (vecE_small (by omega) (.inr rfl)), List.nil_append] at o2
  refine Wp.seq ?_
  refine Wp.region ?_
  refine Wo.val inV h' (by kernel_rfl) (iop_ld (a := ⟨h.n, 0, 0⟩) (by kernel_rfl) L0) ?_
  refine Wo.call (by kernel_rfl) (by kernel_rfl) (c2) ?_
  refine Wo.pre 8 (by kernel_rfl) ?_
  refine Wo.nil ?_
  refine Wp.seq ?_
  refine Wp.region ?_
  refine Wo.pre 8 (by kernel_rfl) ?_
  refine Wo.nil ?_
  exact Wp.ret ⟨.inr rfl, z, (by kernel_rfl), hE.trans X2, o2.mono hE.1⟩
end Go.Det

/- Entries: what stands beside, records, items. -/
set_option linter.unusedVariables false
set_option linter.unusedSimpArgs false
set_option linter.unusedSectionVars false
namespace Go.Det
open Go.Proofs
attribute [local irreducible] Wp Wo Wd iop ev slots quiets wanted put

/-- A chain without its first. -/
theorem Ch.rest {h : H} {v : AV} {xs : List (AV × List UInt8)} (hc : Ch h v xs) (h1 : 1 ≤ xs.length) :
    ∃ v', (∀ (x y : IX) (ρ : IX → AV), ρ x = v → ρ y = .int .i64 1 → iop (.slL 1 x (some y) none none) ρ h = some (.val v' h)) ∧ Ch h v' (xs.drop 1) := by
  rcases hc.row with ⟨_, rfl⟩ | ⟨a, c, rfl, ha, hld⟩
  · simp at h1
  · have hel : ∀ p ∈ xs.drop 1, Bs h p.1 p.2 ∧ Cok p.1 := fun p hp => hc.el p (List.mem_of_mem_drop hp)
    have hd := ldn_drop hld (n := 1) h1
    have hm : (xs.map (·.1)).drop 1 = (xs.drop 1).map (·.1) := by rw [List.map_drop]
    rw [hm] at hd
    have hl : (xs.drop 1).length = xs.length - 1 := by simp
    have q1 : (1 : Int) ≤ (xs.length : Int) := by omega
    rcases hc.cok a _ c rfl with ⟨k, rfl, hk⟩ | rfl
    · have q2 : (xs.length : Int) ≤ (k : Int) := by omega
      by_cases hk1 : k = 1
      · have hx1 : xs.length = 1 := by omega
        have hnil : xs.drop 1 = [] := List.eq_nil_of_length_eq_zero (by omega)
        refine ⟨.sl a (xs.length - 1) (.ex (k - 1)), ?_, ?_⟩
        · intro x y ρ hx hy
          simp [iop, hx, hy, bounds, asI, q1, q2, hk1]
        · rw [hnil]
          refine ⟨.inr ⟨a, .ex (k - 1), by simp [hx1], ha, ?_⟩, fun p hp => by simp at hp, ?_⟩
          · exact ldn_take hld (n := 0) (by omega)
          · rintro a' m c' e
            simp only [AV.sl.injEq] at e
            obtain ⟨rfl, rfl, rfl⟩ := e
            exact .inl ⟨_, rfl, by omega⟩
      · refine ⟨.sl ⟨a.b, a.g, a.o + 1⟩ (xs.length - 1) (.ex (k - 1)), ?_, ⟨.inr ⟨⟨a.b, a.g, a.o + 1⟩, _, by rw [hl], ha, by rw [hl]; exact hd⟩, hel, ?_⟩⟩
        · intro x y ρ hx hy
          simp [iop, hx, hy, bounds, asI, q1, q2, hk1]
        · rintro a' m c' e
          simp only [AV.sl.injEq] at e
          obtain ⟨rfl, rfl, rfl⟩ := e
          exact .inl ⟨_, rfl, by omega⟩
    · refine ⟨.sl ⟨a.b, a.g, a.o + 1⟩ (xs.length - 1) (.op 1), ?_, ⟨.inr ⟨⟨a.b, a.g, a.o + 1⟩, _, by rw [hl], ha, by rw [hl]; exact hd⟩, hel, ?_⟩⟩
      · intro x y ρ hx hy
        simp [iop, hx, hy, bounds, asI, q1]
      · rintro a' m c' e
        simp only [AV.sl.injEq] at e
        obtain ⟨rfl, rfl, rfl⟩ := e
        exact .inr rfl

theorem mayE_small {xs : List (AV × List UInt8)} (hm : mayE xs = true) : Small xs ∧ 1 ≤ xs.length := by
  unfold mayE at hm
  simp only [Bool.and_eq_true, decide_eq_true_eq, List.all_eq_true] at hm
  obtain ⟨⟨h1, h4⟩, h2⟩ := hm
  refine ⟨⟨h4, fun p hp => ?_⟩, h1⟩
  have := h2 p hp
  simp only [mayC, decide_eq_true_eq] at this
  exact this.2

def extraX (xs : List (AV × List UInt8)) : List UInt8 := if mayE xs = true then listB (xs.drop 1) else []
def recX (t : Nat) (xs : List (AV × List UInt8)) : List UInt8 := if mayE xs = true then digits t 8 8 ++ listB xs else []

set_option maxHeartbeats 1000000 in
theorem extra_run {h : H} {v : AV} {xs : List (AV × List UInt8)} (hc : Ch h v xs) (hlen : xs.length < 2 ^ 62) {t : Nat} (ht : t < 2 ^ 64) : ∃ r h', Runs TF 42 [entV t v] h r h' ∧ ∃ z, r = .tup [z, .int .i64 (leafE xs)] ∧ Ext h h' ∧ Ow h.n h' z (extraX xs) := by
  refine Runs.ofP f42 rfl ?_
  have hmx : 200000000000000 = maxRow := rfl
  obtain ⟨H1, X1, n1, enew, Ld⟩ := ent_new hc t
  obtain ⟨r2, H2, c2, rfl, X2⟩ := may_run (hc.ext X1) hlen t
  have l1 := Ld H1 (Ext.refl _)
  have l2 := Ld H2 X2
  by_cases hm : mayE xs = true
  rotate_left
  · have hm : mayE xs = false := by simpa using hm
    rw [hm] at c2
    have e1 : leafE xs = 1 := by rw [leafE, hm]; rfl
    have e2 : extraX xs = [] := by simp [extraX, recX, hm]
    refine Wp.seq ?_
    refine Wp.region ?_
    refine Wo.val _ _ (by kernel_rfl) (enew (by kernel_rfl)) ?_
    refine Wo.pre 8 (by kernel_rfl) ?_
    refine Wo.nil ?_
    refine Wp.seq ?_
    refine Wp.seq ?_
    refine Wp.region ?_
    refine Wo.val (entV t v) H1 (by kernel_rfl) (iop_ld (a := ⟨h.n, 0, 0⟩) (by kernel_rfl) l1.2.2) ?_
    refine Wo.call (by kernel_rfl) (by kernel_rfl) (c2) ?_
    refine Wo.pre 8 (by kernel_rfl) ?_
    refine Wo.nil ?_
    refine Wp.cond true (by kernel_rfl) ?_
    refine Wp.seq ?_
    refine Wp.region ?_
    refine Wo.pre 8 (by kernel_rfl) ?_
    refine Wo.nil ?_
    refine Wp.ret ⟨.inr rfl, .tup [.nils, .int .i64 1], (by kernel_rfl), .nils, by rw [e1], X1.trans X2, by rw [e2]; exact .inl ⟨rfl, rfl⟩⟩
  rw [hm] at c2
  have eE : leafE xs = 0 := by rw [leafE, hm]; rfl
  obtain ⟨hs, hx1⟩ := mayE_small hm
  have X12 := X1.trans X2
  rw [eE]
  have eX : extraX xs = listB (xs.drop 1) := by rw [extraX, if_pos hm]
  rw [eX]
  obtain ⟨v', s1, s2⟩ := (hc.ext X12).rest hx1
  have hs' : Small (xs.drop 1) := ⟨by have := hs.1; simp; omega, fun p hp => hs.2 p (List.mem_of_mem_drop hp)⟩
  obtain ⟨z, H3, c3, X3, o3⟩ := list_run s2 hs'
  refine Wp.seq ?_
  refine Wp.region ?_
  refine Wo.val _ _ (by kernel_rfl) (enew (by kernel_rfl)) ?_
  refine Wo.pre 8 (by kernel_rfl) ?_
  refine Wo.nil ?_
  refine Wp.seq ?_
  refine Wp.seq ?_
  refine Wp.region ?_
  refine Wo.val (entV t v) H1 (by kernel_rfl) (iop_ld (a := ⟨h.n, 0, 0⟩) (by kernel_rfl) l1.2.2) ?_
  refine Wo.call (by kernel_rfl) (by kernel_rfl) (c2) ?_
  refine Wo.pre 8 (by kernel_rfl) ?_
  refine Wo.nil ?_
  refine Wp.cond false (by kernel_rfl) ?_
  refine Wp.skip ?_
  refine Wp.seq ?_
  refine Wp.region ?_
  refine Wo.pre 1 (by kernel_rfl) ?_
  refine Wo.val v H2 (by kernel_rfl) (iop_ld (a := ⟨h.n, 0, 1⟩) (by kernel_rfl) l2.2.1) ?_
  refine Wo.val v' H2 (by kernel_rfl) (s1 _ _ _ (by kernel_rfl) (by kernel_rfl)) ?_
  refine Wo.call (by kernel_rfl) (by kernel_rfl) (c3) ?_
  refine Wo.pre 8 (by kernel_rfl) ?_
  refine Wo.nil ?_
  exact Wp.ret ⟨.inr rfl, .tup [z, .int .i64 0], (by kernel_rfl), z, rfl, X12.trans X3, o3.mono X12.1⟩

set_option maxHeartbeats 1000000 in
theorem rextra_run {h : H} {v : AV} {xs : List (AV × List UInt8)} (hc : Ch h v xs) (hlen : xs.length < 2 ^ 62) {t : Nat} (ht : t < 2 ^ 64) : ∃ r h', Runs TF 43 [entV t v] h r h' ∧ ∃ z, r = .tup [z, .int .i64 (leafE xs)] ∧ Ext h h' ∧ Ow h.n h' z (extraX xs) := by
  refine Runs.ofP f43 rfl ?_
  have hmx : 200000000000000 = maxRow := rfl
  obtain ⟨H1, X1, n1, enew, Ld⟩ := ent_new hc t
  obtain ⟨r2, H2, c2, rfl, X2⟩ := rmay_run (hc.ext X1) hlen t
  have l1 := Ld H1 (Ext.refl _)
  have l2 := Ld H2 X2
  by_cases hm : mayE xs = true
  rotate_left
  · have hm : mayE xs = false := by simpa using hm
    rw [hm] at c2
    have e1 : leafE xs = 1 := by rw [leafE, hm]; rfl
    have e2 : extraX xs = [] := by simp [extraX, recX, hm]
    refine Wp.seq ?_
    refine Wp.region ?_
    refine Wo.val _ _ (by kernel_rfl) (enew (by kernel_rfl)) ?_
    refine Wo.pre 8 (by kernel_rfl) ?_
    refine Wo.nil ?_
    refine Wp.seq ?_
    refine Wp.seq ?_
    refine Wp.region ?_
    refine Wo.val (entV t v) H1 (by kernel_rfl) (iop_ld (a := ⟨h.n, 0, 0⟩) (by kernel_rfl) l1.2.2) ?_
    refine Wo.call (by kernel_rfl) (by kernel_rfl) (c2) ?_
    refine Wo.pre 8 (by kernel_rfl) ?_
    refine Wo.nil ?_
    refine Wp.cond true (by kernel_rfl) ?_
    refine Wp.seq ?_
    refine Wp.region ?_
    refine Wo.pre 8 (by kernel_rfl) ?_
    refine Wo.nil ?_
    refine Wp.ret ⟨.inr rfl, .tup [.nils, .int .i64 1], (by kernel_rfl), .nils, by rw [e1], X1.trans X2, by rw [e2]; exact .inl ⟨rfl, rfl⟩⟩
  rw [hm] at c2
  have eE : leafE xs = 0 := by rw [leafE, hm]; rfl
  obtain ⟨hs, hx1⟩ := mayE_small hm
  have X12 := X1.trans X2
  rw [eE]
  have eX : extraX xs = listB (xs.drop 1) := by rw [extraX, if_pos hm]
  rw [eX]
  obtain ⟨v', s1, s2⟩ := (hc.ext X12).rest hx1
  have hs' : Small (xs.drop 1) := ⟨by have := hs.1; simp; omega, fun p hp => hs.2 p (List.mem_of_mem_drop hp)⟩
  obtain ⟨z, H3, c3, X3, o3⟩ := rlist_run s2 hs'
  refine Wp.seq ?_
  refine Wp.region ?_
  refine Wo.val _ _ (by kernel_rfl) (enew (by kernel_rfl)) ?_
  refine Wo.pre 8 (by kernel_rfl) ?_
  refine Wo.nil ?_
  refine Wp.seq ?_
  refine Wp.seq ?_
  refine Wp.region ?_
  refine Wo.val (entV t v) H1 (by kernel_rfl) (iop_ld (a := ⟨h.n, 0, 0⟩) (by kernel_rfl) l1.2.2) ?_
  refine Wo.call (by kernel_rfl) (by kernel_rfl) (c2) ?_
  refine Wo.pre 8 (by kernel_rfl) ?_
  refine Wo.nil ?_
  refine Wp.cond false (by kernel_rfl) ?_
  refine Wp.skip ?_
  refine Wp.seq ?_
  refine Wp.region ?_
  refine Wo.pre 1 (by kernel_rfl) ?_
  refine Wo.val v H2 (by kernel_rfl) (iop_ld (a := ⟨h.n, 0, 1⟩) (by kernel_rfl) l2.2.1) ?_
  refine Wo.val v' H2 (by kernel_rfl) (s1 _ _ _ (by kernel_rfl) (by kernel_rfl)) ?_
  refine Wo.call (by kernel_rfl) (by kernel_rfl) (c3) ?_
  refine Wo.pre 8 (by kernel_rfl) ?_
  refine Wo.nil ?_
  exact Wp.ret ⟨.inr rfl, .tup [z, .int .i64 0], (by kernel_rfl), z, rfl, X12.trans X3, o3.mono X12.1⟩

theorem retI {ts : List AV} {h : H} {k j ag : Nat} {a : AA} {v w : AV} (LA : h.ldg a (some ag) = some v) (h1 : getL ts k = some (.ptr a)) (h2 : getL ts j = some w) : retV h ts [(k, some (some ag)), (j, none)] = some (.tup [v, w]) := by
  simp [retV, resOf, iop, ev, h1, h2, LA]

/-- An item as a value. -/
def itemV (a b : AV) : AV := .agg [a, b]

set_option maxHeartbeats 1000000 in
theorem item_run {h : H} {v : AV} {xs : List (AV × List UInt8)} (hc : Ch h v xs) (hlen : xs.length < 2 ^ 62) {t : Nat} (ht : t < 2 ^ 64) : ∃ r h', Runs TF 47 [entV t v] h r h' ∧ ∃ z w, r = .tup [itemV z w, .int .i64 (leafE xs)] ∧ Ext h h' ∧ Ow h.n h' z (leafX t xs) ∧ Ow h.n h' w (extraX xs) ∧ (∀ a n c a' n' c', z = .sl a n c → w = .sl a' n' c' → a.b ≠ a'.b) := by
  refine Runs.ofP f47 rfl ?_
  have hmx : 200000000000000 = maxRow := rfl
  obtain ⟨H1, X1, n1, enew, Ld⟩ := ent_new hc t
  obtain ⟨H2, hH2⟩ : ∃ H2, H2 = H1.new (.cells 0 78 [.nils, .nils] 0 false) := ⟨_, rfl⟩
  have X2 : Ext H1 H2 := by rw [hH2]; exact Ext.new _ _
  have g2 : H2.get H1.n = some (.cells 0 78 [.nils, .nils] 0 false) := by rw [hH2]; exact H1.get_new _
  have en2 : ∀ ts, iop (.new 78 (.c (.agg [.nils, .nils]))) (ev ts) H1 = some (.val (.ptr ⟨H1.n, 0, 0⟩) H2) := fun ts => by rw [hH2]; exact iop_new (by kernel_rfl) rfl
  have X12 := X1.trans X2
  have n2 : H1.n < H2.n := by rw [hH2]; simp
  obtain ⟨r3, H3, c3, z, rfl, X3, o3⟩ := leaf_run (hc.ext X12) hlen ht
  obtain ⟨r4, H4, c4, w, rfl, X4, o4⟩ := extra_run (hc.ext (X12.trans X3)) hlen ht
  have l2 := Ld H2 X2
  have l3 := Ld H3 (X2.trans X3)
  have m1 := X1.1
  have m3 := X3.1
  have m4 := X4.1
  by_cases hm : mayE xs = true
  · have eE : leafE xs = 0 := by rw [leafE, if_pos hm]
    rw [eE] at c3 c4 ⊢
    have g4 : H4.get H1.n = some (.cells 0 78 [.nils, .nils] 0 false) := by rw [X4.2 _ (by omega), X3.2 _ (by omega)]; exact g2
    have pz := o3.bs.parts
    have pw := o4.bs.parts
    obtain ⟨H5, hH5⟩ : ∃ H5, H5 = H4.set H1.n (.cells 0 78 [z, w] 0 false) := ⟨_, rfl⟩
    have st : H4.st ⟨H1.n, 0, 0⟩ [z, w] = some H5 := by
      unfold H.st
      simp only [g4]
      rw [if_pos (by simp [pz.2.1, pw.2.1]), hH5]
      rfl
    have g5 : H5.get H1.n = some (.cells 0 78 [z, w] 0 false) := by rw [hH5, H4.get_set]
    have eb : ∀ {x y : IX} {ρ : IX → AV}, ρ x = z → ρ y = w → iop (.build [.nils, .nils] [(0, 1, x), (1, 1, y)]) ρ H4 = some (.val (.agg [z, w]) H4) := by
      intro x y ρ hx hy
      simp [iop, fillL, hx, hy, pz.1, pw.1, putAt]
    have kp : ∀ b, b ≠ H1.n → H5.get b = H4.get b := fun b hb => by rw [hH5, H4.get_set_ne _ b _ hb]
    refine Wp.seq ?_
    refine Wp.region ?_
    refine Wo.val _ _ (by kernel_rfl) (enew (by kernel_rfl)) ?_
    refine Wo.val _ _ (by kernel_rfl) (en2 _) ?_
    refine Wo.pre 8 (by kernel_rfl) ?_
    refine Wo.nil ?_
    refine Wp.seq ?_
    refine Wp.region ?_
    refine Wo.val (entV t v) H2 (by kernel_rfl) (iop_ld (a := ⟨h.n, 0, 0⟩) (by kernel_rfl) l2.2.2) ?_
    refine Wo.call (by kernel_rfl) (by kernel_rfl) (c3) ?_
    refine Wo.pre 8 (by kernel_rfl) ?_
    refine Wo.nil ?_
    refine Wp.seq ?_
    refine Wp.seq ?_
    refine Wp.region ?_
    refine Wo.pre 8 (by kernel_rfl) ?_
    refine Wo.nil ?_
    refine Wp.cond false (by kernel_rfl) ?_
    refine Wp.skip ?_
    refine Wp.seq ?_
    refine Wp.region ?_
    refine Wo.val (entV t v) H3 (by kernel_rfl) (iop_ld (a := ⟨h.n, 0, 0⟩) (by kernel_rfl) l3.2.2) ?_
    refine Wo.call (by kernel_rfl) (by kernel_rfl) (c4) ?_
    refine Wo.pre 8 (by kernel_rfl) ?_
    refine Wo.nil ?_
    refine Wp.seq ?_
    refine Wp.seq ?_
    refine Wp.region ?_
    refine Wo.pre 8 (by kernel_rfl) ?_
    refine Wo.nil ?_
    refine Wp.cond false (by kernel_rfl) ?_
    refine Wp.skip ?_
    refine Wp.seq ?_
    refine Wp.region ?_
    refine Wo.pre 1 (by kernel_rfl) ?_
    refine Wo.pre 1 (by kernel_rfl) ?_
    refine Wo.val (.agg [z, w]) H4 (by kernel_rfl) (eb (by kernel_rfl) (by kernel_rfl)) ?_
    refine Wo.val .undef H5 (by kernel_rfl) (iop_stA (a := ⟨H1.n, 0, 0⟩) (cs := [z, w]) (by kernel_rfl) (by kernel_rfl) rfl st) ?_
    refine Wo.pre 8 (by kernel_rfl) ?_
    refine Wo.nil ?_
    refine Wp.ret ⟨.inr rfl, .tup [itemV z w, .int .i64 0], ?_, z, w, rfl, ⟨by rw [hH5]; show h.n ≤ H4.n; omega, fun b hb => ?_⟩, ?_, ?_, ?_⟩
    · have LA : H5.ldg ⟨H1.n, 0, 0⟩ (some 2) = some (itemV z w) := by simp [H.ldg, H.ldn, H.row, g5, cut, itemV]
      exact retI LA (by kernel_rfl) (by kernel_rfl)
    · rw [kp b (by omega), X4.2 b (by omega), X3.2 b (by omega)]; exact X12.2 b hb
    · rcases o3 with h0 | ⟨b, g, q1, q2, q3, q4⟩
      · exact .inl h0
      · exact .inr ⟨b, g, by omega, by rw [hH5]; show b < H4.n; omega, by rw [kp b (by omega), X4.2 b q2]; exact q3, q4⟩
    · rcases o4 with h0 | ⟨b, g, q1, q2, q3, q4⟩
      · exact .inl h0
      · exact .inr ⟨b, g, by omega, by rw [hH5]; exact q2, by rw [kp b (by omega)]; exact q3, q4⟩
    · intro a n c a' n' c' e1 e2
      have b1 := o3.blk e1
      have b2 := o4.blk e2
      omega
  · have eE : leafE xs = 1 := by rw [leafE, if_neg hm]
    rw [eE] at c3 ⊢
    have eX : leafX t xs = [] := by rw [leafX, if_neg hm]
    have eX' : extraX xs = [] := by rw [extraX, if_neg hm]
    have g3 : H3.get H1.n = some (.cells 0 78 [.nils, .nils] 0 false) := by rw [X3.2 _ (by omega)]; exact g2
    obtain ⟨H5, hH5⟩ : ∃ H5, H5 = H3.set H1.n (.cells 0 78 [.nils, .nils] 0 false) := ⟨_, rfl⟩
    have st : H3.st ⟨H1.n, 0, 0⟩ [.nils, .nils] = some H5 := by
      unfold H.st
      simp only [g3]
      rw [if_pos (by simp [AV.one]), hH5]
      rfl
    have g5 : H5.get H1.n = some (.cells 0 78 [.nils, .nils] 0 false) := by rw [hH5, H3.get_set]
    refine Wp.seq ?_
    refine Wp.region ?_
    refine Wo.val _ _ (by kernel_rfl) (enew (by kernel_rfl)) ?_
    refine Wo.val _ _ (by kernel_rfl) (en2 _) ?_
    refine Wo.pre 8 (by kernel_rfl) ?_
    refine Wo.nil ?_
    refine Wp.seq ?_
    refine Wp.region ?_
    refine Wo.val (entV t v) H2 (by kernel_rfl) (iop_ld (a := ⟨h.n, 0, 0⟩) (by kernel_rfl) l2.2.2) ?_
    refine Wo.call (by kernel_rfl) (by kernel_rfl) (c3) ?_
    refine Wo.pre 8 (by kernel_rfl) ?_
    refine Wo.nil ?_
    refine Wp.seq ?_
    refine Wp.seq ?_
    refine Wp.region ?_
    refine Wo.pre 8 (by kernel_rfl) ?_
    refine Wo.nil ?_
    refine Wp.cond true (by kernel_rfl) ?_
    refine Wp.seq ?_
    refine Wp.region ?_
    refine Wo.pre 1 (by kernel_rfl) ?_
    refine Wo.pre 1 (by kernel_rfl) ?_
    refine Wo.val .undef H5 (by kernel_rfl) (iop_stA (a := ⟨H1.n, 0, 0⟩) (cs := [.nils, .nils]) (by kernel_rfl) (by kernel_rfl) rfl st) ?_
    refine Wo.pre 8 (by kernel_rfl) ?_
    refine Wo.nil ?_
    refine Wp.ret ⟨.inr rfl, .tup [itemV .nils .nils, .int .i64 1], ?_, .nils, .nils, rfl, ⟨by rw [hH5]; show h.n ≤ H3.n; omega, fun b hb => ?_⟩, by rw [eX]; exact .inl ⟨rfl, rfl⟩, by rw [eX']; exact .inl ⟨rfl, rfl⟩, fun a n c a' n' c' e1 _ => by simp at e1⟩
    · have LA : H5.ldg ⟨H1.n, 0, 0⟩ (some 2) = some (itemV .nils .nils) := by simp [H.ldg, H.ldn, H.row, g5, cut, itemV]
      exact retI LA (by kernel_rfl) (by kernel_rfl)
    · rw [hH5, H3.get_set_ne _ b _ (by omega), X3.2 b (by omega)]; exact X12.2 b hb

set_option maxHeartbeats 1000000 in
theorem ritem_run {h : H} {v : AV} {xs : List (AV × List UInt8)} (hc : Ch h v xs) (hlen : xs.length < 2 ^ 62) {t : Nat} (ht : t < 2 ^ 64) : ∃ r h', Runs TF 48 [entV t v] h r h' ∧ ∃ z w, r = .tup [itemV z w, .int .i64 (leafE xs)] ∧ Ext h h' ∧ Ow h.n h' z (leafX t xs) ∧ Ow h.n h' w (extraX xs) ∧ (∀ a n c a' n' c', z = .sl a n c → w = .sl a' n' c' → a.b ≠ a'.b) := by
  refine Runs.ofP f48 rfl ?_
  have hmx : 200000000000000 = maxRow := rfl
  obtain ⟨H1, X1, n1, enew, Ld⟩ := ent_new hc t
  obtain ⟨H2, hH2⟩ : ∃ H2, H2 = H1.new (.cells 0 78 [.nils, .nils] 0 false) := ⟨_, rfl⟩
  have X2 : Ext H1 H2 := by rw [hH2]; exact Ext.new _ _
  have g2 : H2.get H1.n = some (.cells 0 78 [.nils, .nils] 0 false) := by rw [hH2]; exact H1.get_new _
  have en2 : ∀ ts, iop (.new 78 (.c (.agg [.nils, .nils]))) (ev ts) H1 = some (.val (.ptr ⟨H1.n, 0, 0⟩) H2) := fun ts => by rw [hH2]; exact iop_new (by kernel_rfl) rfl
  have X12 := X1.trans X2
  have n2 : H1.n < H2.n := by rw [hH2]; simp
  obtain ⟨r3, H3, c3, z, rfl, X3, o3⟩ := rleaf_run (hc.ext X12) hlen ht
  obtain ⟨r4, H4, c4, w, rfl, X4, o4⟩ := rextra_run (hc.ext (X12.trans X3)) hlen ht
  have l2 := Ld H2 X2
  have l3 := Ld H3 (X2.trans X3)
  have m1 := X1.1
  have m3 := X3.1
  have m4 := X4.1
  by_cases hm : mayE xs = true
  · have eE : leafE xs = 0 := by rw [leafE, if_pos hm]
    rw [eE] at c3 c4 ⊢
    have g4 : H4.get H1.n = some (.cells 0 78 [.nils, .nils] 0 false) := by rw [X4.2 _ (by omega), X3.2 _ (by omega)]; exact g2
    have pz := o3.bs.parts
    have pw := o4.bs.parts
    obtain ⟨H5, hH5⟩ : ∃ H5, H5 = H4.set H1.n (.cells 0 78 [z, w] 0 false) := ⟨_, rfl⟩
    have st : H4.st ⟨H1.n, 0, 0⟩ [z, w] = some H5 := by
      unfold H.st
      simp only [g4]
      rw [if_pos (by simp [pz.2.1, pw.2.1]), hH5]
      rfl
    have g5 : H5.get H1.n = some (.cells 0 78 [z, w] 0 false) := by rw [hH5, H4.get_set]
    have eb : ∀ {x y : IX} {ρ : IX → AV}, ρ x = z → ρ y = w → iop (.build [.nils, .nils] [(0, 1, x), (1, 1, y)]) ρ H4 = some (.val (.agg [z, w]) H4) := by
      intro x y ρ hx hy
      simp [iop, fillL, hx, hy, pz.1, pw.1, putAt]
    have kp : ∀ b, b ≠ H1.n → H5.get b = H4.get b := fun b hb => by rw [hH5, H4.get_set_ne _ b _ hb]
    refine Wp.seq ?_
    refine Wp.region ?_
    refine Wo.val _ _ (by kernel_rfl) (enew (by kernel_rfl)) ?_
    refine Wo.val _ _ (by kernel_rfl) (en2 _) ?_
    refine Wo.pre 8 (by kernel_rfl) ?_
    refine Wo.nil ?_
    refine Wp.seq ?_
    refine Wp.region ?_
    refine Wo.val (entV t v) H2 (by kernel_rfl) (iop_ld (a := ⟨h.n, 0, 0⟩) (by kernel_rfl) l2.2.2) ?_
    refine Wo.call (by kernel_rfl) (by kernel_rfl) (c3) ?_
    refine Wo.pre 8 (by kernel_rfl) ?_
    refine Wo.nil ?_
    refine Wp.seq ?_
    refine Wp.seq ?_
    refine Wp.region ?_
    refine Wo.pre 8 (by kernel_rfl) ?_
    refine Wo.nil ?_
    refine Wp.cond false (by kernel_rfl) ?_
    refine Wp.skip ?_
    refine Wp.seq ?_
    refine Wp.region ?_
    refine Wo.val (entV t v) H3 (by kernel_rfl) (iop_ld (a := ⟨h.n, 0, 0⟩) (by kernel_rfl) l3.2.2) ?_
    refine Wo.call (by kernel_rfl) (by kernel_rfl) (c4) ?_
    refine Wo.pre 8 (by kernel_rfl) ?_
    refine Wo.nil ?_
    refine Wp.seq ?_
    refine Wp.region ?_
    refine Wo.pre 1 (by kernel_rfl) ?_
    refine Wo.pre 1 (by kernel_rfl) ?_
    refine Wo.val (.agg [z, w]) H4 (by kernel_rfl) (eb (by kernel_rfl) (by kernel_rfl)) ?_
    refine Wo.val .undef H5 (by kernel_rfl) (iop_stA (a := ⟨H1.n, 0, 0⟩) (cs := [z, w]) (by kernel_rfl) (by kernel_rfl) rfl st) ?_
    refine Wo.pre 8 (by kernel_rfl) ?_
    refine Wo.nil ?_
    refine Wp.ret ⟨.inr rfl, .tup [itemV z w, .int .i64 0], ?_, z, w, rfl, ⟨by rw [hH5]; show h.n ≤ H4.n; omega, fun b hb => ?_⟩, ?_, ?_, ?_⟩
    · have LA : H5.ldg ⟨H1.n, 0, 0⟩ (some 2) = some (itemV z w) := by simp [H.ldg, H.ldn, H.row, g5, cut, itemV]
      exact retI LA (by kernel_rfl) (by kernel_rfl)
    · rw [kp b (by omega), X4.2 b (by omega), X3.2 b (by omega)]; exact X12.2 b hb
    · rcases o3 with h0 | ⟨b, g, q1, q2, q3, q4⟩
      · exact .inl h0
      · exact .inr ⟨b, g, by omega, by rw [hH5]; show b < H4.n; omega, by rw [kp b (by omega), X4.2 b q2]; exact q3, q4⟩
    · rcases o4 with h0 | ⟨b, g, q1, q2, q3, q4⟩
      · exact .inl h0
      · exact .inr ⟨b, g, by omega, by rw [hH5]; exact q2, by rw [kp b (by omega)]; exact q3, q4⟩
    · intro a n c a' n' c' e1 e2
      have b1 := o3.blk e1
      have b2 := o4.blk e2
      omega
  · have eE : leafE xs = 1 := by rw [leafE, if_neg hm]
    rw [eE] at c3 ⊢
    have eX : leafX t xs = [] := by rw [leafX, if_neg hm]
    have eX' : extraX xs = [] := by rw [extraX, if_neg hm]
    have g3 : H3.get H1.n = some (.cells 0 78 [.nils, .nils] 0 false) := by rw [X3.2 _ (by omega)]; exact g2
    obtain ⟨H5, hH5⟩ : ∃ H5, H5 = H3.set H1.n (.cells 0 78 [.nils, .nils] 0 false) := ⟨_, rfl⟩
    have st : H3.st ⟨H1.n, 0, 0⟩ [.nils, .nils] = some H5 := by
      unfold H.st
      simp only [g3]
      rw [if_pos (by simp [AV.one]), hH5]
      rfl
    have g5 : H5.get H1.n = some (.cells 0 78 [.nils, .nils] 0 false) := by rw [hH5, H3.get_set]
    refine Wp.seq ?_
    refine Wp.region ?_
    refine Wo.val _ _ (by kernel_rfl) (enew (by kernel_rfl)) ?_
    refine Wo.val _ _ (by kernel_rfl) (en2 _) ?_
    refine Wo.pre 8 (by kernel_rfl) ?_
    refine Wo.nil ?_
    refine Wp.seq ?_
    refine Wp.region ?_
    refine Wo.val (entV t v) H2 (by kernel_rfl) (iop_ld (a := ⟨h.n, 0, 0⟩) (by kernel_rfl) l2.2.2) ?_
    refine Wo.call (by kernel_rfl) (by kernel_rfl) (c3) ?_
    refine Wo.pre 8 (by kernel_rfl) ?_
    refine Wo.nil ?_
    refine Wp.seq ?_
    refine Wp.seq ?_
    refine Wp.region ?_
    refine Wo.pre 8 (by kernel_rfl) ?_
    refine Wo.nil ?_
    refine Wp.cond true (by kernel_rfl) ?_
    refine Wp.seq ?_
    refine Wp.region ?_
    refine Wo.pre 1 (by kernel_rfl) ?_
    refine Wo.pre 1 (by kernel_rfl) ?_
    refine Wo.val .undef H5 (by kernel_rfl) (iop_stA (a := ⟨H1.n, 0, 0⟩) (cs := [.nils, .nils]) (by kernel_rfl) (by kernel_rfl) rfl st) ?_
    refine Wo.pre 8 (by kernel_rfl) ?_
    refine Wo.nil ?_
    refine Wp.ret ⟨.inr rfl, .tup [itemV .nils .nils, .int .i64 1], ?_, .nils, .nils, rfl, ⟨by rw [hH5]; show h.n ≤ H3.n; omega, fun b hb => ?_⟩, by rw [eX]; exact .inl ⟨rfl, rfl⟩, by rw [eX']; exact .inl ⟨rfl, rfl⟩, fun a n c a' n' c' e1 _ => by simp at e1⟩
    · have LA : H5.ldg ⟨H1.n, 0, 0⟩ (some 2) = some (itemV .nils .nils) := by simp [H.ldg, H.ldn, H.row, g5, cut, itemV]
      exact retI LA (by kernel_rfl) (by kernel_rfl)
    · rw [hH5, H3.get_set_ne _ b _ (by omega), X3.2 b (by omega)]; exact X12.2 b hb
end Go.Det

/- Entries: whether two say the same. -/
set_option linter.unusedVariables false
set_option linter.unusedSimpArgs false
set_option linter.unusedSectionVars false
namespace Go.Det
open Go.Proofs
attribute [local irreducible] Wp Wo Wd iop ev slots quiets wanted put

def says (xs : List (AV × List UInt8)) : List (List UInt8) := xs.map (·.2)
theorem says_drop {xs : List (AV × List UInt8)} {i : Nat} {p : AV × List UInt8} (hp : xs[i]? = some p) : says (xs.drop i) = p.2 :: says (xs.drop (i + 1)) := by
  have hlt : i < xs.length := (List.getElem?_eq_some_iff.1 hp).1
  rw [List.drop_eq_getElem_cons hlt, (List.getElem?_eq_some_iff.1 hp).2]
  rfl
theorem says_len (xs : List (AV × List UInt8)) : (says xs).length = xs.length := by simp [says]

def sameE (t : Nat) (xs : List (AV × List UInt8)) (t' : Nat) (ys : List (AV × List UInt8)) : Bool := decide (t = t') && decide (says xs = says ys)

end Go.Det

/- Entries: whether two say the same, by the reference. -/
set_option linter.unusedVariables false
set_option linter.unusedSimpArgs false
set_option linter.unusedSectionVars false
namespace Go.Det
open Go.Proofs
attribute [local irreducible] Wp Wo Wd iop ev slots quiets wanted put

theorem iop_neStr {x y : IX} {ρ : IX → AV} {h : H} {a b : List UInt8} (c : Bool) (hx : ρ x = .str a) (hy : ρ y = .str b) (e : (!(a == b)) = c) : iop (.bin .neq x y) ρ h = some (.val (.bool c) h) := by
  simp [iop, binop, binStr, hx, hy, ← e]
theorem rd_cvBS {h : H} {v : AV} {l : List UInt8} (hb : Bs h v l) : readsAs (.cvBS (.c v)) (.str l) h = true := reads_ok (h' := h) (iop_cvBS (v := v) (by kernel_rfl) hb)

set_option maxHeartbeats 2000000 in
theorem rsame_loop {h : H} {v w : AV} {xs ys : List (AV × List UInt8)} {b1 b2 : Nat} (hc : Ch h v xs) (hd : Ch h w ys) (hl : xs.length = ys.length) (hlen : xs.length < 2 ^ 62) (L1 : h.ldg ⟨b1, 0, 1⟩ none = some v) (L2 : h.ldg ⟨b2, 0, 1⟩ none = some w) :
    ∀ (k i : Nat), i + k = xs.length → ∀ (ts : List AV), ts.length = 40 → getL ts 2 = some (.ptr ⟨b1, 0, 0⟩) → getL ts 3 = some (.ptr ⟨b2, 0, 0⟩) → getL ts 5 = some (.int .i64 i) →
      ∀ (Q : Ex → St → Prop), (says (xs.drop i) ≠ says (ys.drop i) → ∀ ts', ts'.length = 40 → getL ts' 4 = some (.bool false) → Q .ret (ts', h)) →
        (says (xs.drop i) = says (ys.drop i) → ∀ ts', ts'.length = 40 → Q (.exit 0) (ts', h)) → Wp TF (.loop l52_1) (ts, h) Q := by
  intro k
  induction k with
  | zero =>
    intro i hi ts t0 t2 t3 t5 Q hbad hgood
    obtain rfl : i = xs.length := by omega
    refine Wp.loop ?_
    rw [laid_eq t0 [(2, .ptr ⟨b1, 0, 0⟩), (3, .ptr ⟨b2, 0, 0⟩), (5, .int .i64 xs.length)] (by simp [t2, t3, t5])]
    unfold l52_1
    refine Wp.seq ?_
    refine Wp.seq ?_
    refine Wp.region ?_
    refine Wo.pre 1 (by kernel_rfl) ?_
    refine Wo.pre 1 (by kernel_rfl) ?_
    refine Wo.val v h (by kernel_rfl) (iop_ld (a := ⟨b1, 0, 1⟩) (by kernel_rfl) L1) ?_
    refine Wo.val (.int .i64 xs.length) h (by kernel_rfl) (iop_lenS (v := v) (by kernel_rfl) hc.lenS) ?_
    refine Wo.val (.bool false) h (by kernel_rfl) (iop_cmp (op := .lss) (k := .i64) (a := xs.length) (b := xs.length) false (by kernel_rfl) (by kernel_rfl) (by simp) (by simp [binInt])) ?_
    refine Wo.nil ?_
    refine Wp.cond false (by kernel_rfl) ?_
    exact Wp.exit (hgood (by rw [List.drop_length, hl, List.drop_length]) _ (by kernel_rfl))
  | succ k ih =>
    intro i hi ts t0 t2 t3 t5 Q hbad hgood
    have hlt : i < xs.length := by omega
    have hlt2 : i < ys.length := by omega
    obtain ⟨p, hp⟩ : ∃ p, xs[i]? = some p := ⟨xs[i], List.getElem?_eq_getElem hlt⟩
    obtain ⟨q, hq⟩ : ∃ p, ys[i]? = some p := ⟨ys[i], List.getElem?_eq_getElem hlt2⟩
    rw [says_drop hp, says_drop hq] at hbad hgood
    have hls := hc.lenS
    obtain ⟨a, c, rfl, hld⟩ := hc.at hp
    obtain ⟨a', c', rfl, hld'⟩ := hd.at hq
    have pB := (hc.el p (List.mem_of_getElem? hp)).1
    have qB := (hd.el q (List.mem_of_getElem? hq)).1
    have wi : IntKind.i64.wrap ((i : Int) + 1) = ((i + 1 : Nat) : Int) := by rw [i64_fit _ (by omega)]; omega
    have hp6 : Pend.holds [(.cvBS (.c q.1), .str q.2, 11), (.ld none (.c (.ptr ⟨a'.b, a'.g, a'.o + i * 1⟩)), q.1, 10), (.ld none (.c (.ptr ⟨b2, 0, 1⟩)), .sl a' ys.length c', 7), (.cvBS (.c p.1), .str p.2, 5), (.ld none (.c (.ptr ⟨a.b, a.g, a.o + i * 1⟩)), p.1, 4), (.ld none (.c (.ptr ⟨b1, 0, 1⟩)), .sl a xs.length c, 1)] h = true :=
      holds_and (rd_cvBS qB) (holds_and (rd_ld hld') (holds_and (rd_ld L2) (holds_and (rd_cvBS pB) (holds_and (rd_ld hld) (holds_and (rd_ld L1) rfl)))))
    obtain ⟨eb, heb⟩ : ∃ eb, eb = (!(p.2 == q.2)) := ⟨_, rfl⟩
    refine Wp.loop ?_
    rw [laid_eq t0 [(2, .ptr ⟨b1, 0, 0⟩), (3, .ptr ⟨b2, 0, 0⟩), (5, .int .i64 i)] (by simp [t2, t3, t5])]
    unfold l52_1
    refine Wp.seq ?_
    refine Wp.seq ?_
    refine Wp.region ?_
    refine Wo.pre 1 (by kernel_rfl) ?_
    refine Wo.pre 1 (by kernel_rfl) ?_
    refine Wo.val (.sl a xs.length c) h (by kernel_rfl) (iop_ld (a := ⟨b1, 0, 1⟩) (by kernel_rfl) L1) ?_
    refine Wo.val (.int .i64 xs.length) h (by kernel_rfl) (iop_lenS (v := .sl a xs.length c) (by kernel_rfl) hls) ?_
    refine Wo.val (.bool true) h (by kernel_rfl) (iop_cmp (op := .lss) (k := .i64) (a := i) (b := xs.length) true (by kernel_rfl) (by kernel_rfl) (by simp) (by simp [binInt]; omega)) ?_
    refine Wo.nil ?_
    refine Wp.cond true (by kernel_rfl) ?_
    refine Wp.skip ?_
    refine Wp.seq ?_
    refine Wp.block ?_
    refine Wp.seq ?_
    refine Wp.draw ?_
    refine Wd.pure (by kernel_rfl) (by kernel_rfl) ?_
    refine Wd.read (.sl a xs.length c) (.ld none (.c (.ptr ⟨b1, 0, 1⟩))) (by kernel_rfl) (by kernel_rfl) (iop_ld (a := ⟨b1, 0, 1⟩) (by kernel_rfl) L1) ?_
    refine Wd.pure (by kernel_rfl) (by kernel_rfl) ?_
    refine Wd.make _ h (by kernel_rfl) (by kernel_rfl) (iop_ia (a := a) (n := xs.length) (c := c) (i := i) (by kernel_rfl) (by kernel_rfl) hlt) ?_
    refine Wd.read p.1 (.ld none (.c (.ptr ⟨a.b, a.g, a.o + i * 1⟩))) (by kernel_rfl) (by kernel_rfl) (iop_ld (a := ⟨a.b, a.g, a.o + i * 1⟩) (by kernel_rfl) hld) ?_
    refine Wd.read (.str p.2) (.cvBS (.c p.1)) (by kernel_rfl) (by kernel_rfl) (iop_cvBS (v := p.1) (by kernel_rfl) pB) ?_
    refine Wd.pure (by kernel_rfl) (by kernel_rfl) ?_
    refine Wd.read (.sl a' ys.length c') (.ld none (.c (.ptr ⟨b2, 0, 1⟩))) (by kernel_rfl) (by kernel_rfl) (iop_ld (a := ⟨b2, 0, 1⟩) (by kernel_rfl) L2) ?_
    refine Wd.pure (by kernel_rfl) (by kernel_rfl) ?_
    refine Wd.make _ h (by kernel_rfl) (by kernel_rfl) (iop_ia (a := a') (n := ys.length) (c := c') (i := i) (by kernel_rfl) (by kernel_rfl) hlt2) ?_
    refine Wd.read q.1 (.ld none (.c (.ptr ⟨a'.b, a'.g, a'.o + i * 1⟩))) (by kernel_rfl) (by kernel_rfl) (iop_ld (a := ⟨a'.b, a'.g, a'.o + i * 1⟩) (by kernel_rfl) hld') ?_
    refine Wd.read (.str q.2) (.cvBS (.c q.1)) (by kernel_rfl) (by kernel_rfl) (iop_cvBS (v := q.1) (by kernel_rfl) qB) ?_
    refine Wd.make (.bool eb) h (by kernel_rfl) (by kernel_rfl) (iop_neStr (a := p.2) (b := q.2) eb (by kernel_rfl) (by kernel_rfl) heb.symm) ?_
    refine Wd.done (holds_of _ (by kernel_rfl) hp6) ?_
    by_cases he : p.2 = q.2
    · have : eb = false := by rw [heb]; simp [he]
      subst this
      rw [he] at hbad hgood
      refine Wp.cond false (by kernel_rfl) ?_
      refine Wp.skip ?_
      refine Wp.region ?_
      refine Wo.pre 8 (by kernel_rfl) ?_
      refine Wo.nil ?_
      exact ih (i + 1) (by omega) _ (by kernel_rfl) (by kernel_rfl) (by kernel_rfl) (by rw [← wi]; kernel_rfl) Q (fun hn => hbad (fun e => hn (List.cons.inj e).2)) (fun e => hgood (by rw [e]))
    · have : eb = true := by rw [heb]; simp [he]
      subst this
      refine Wp.cond true (by kernel_rfl) ?_
      refine Wp.seq ?_
      refine Wp.region ?_
      refine Wo.pre 8 (by kernel_rfl) ?_
      refine Wo.nil ?_
      exact Wp.ret (hbad (fun e => he (List.cons.inj e).1) _ (by kernel_rfl) (by kernel_rfl))

set_option maxHeartbeats 1000000 in
theorem rsamee_run {h : H} {v w : AV} {xs ys : List (AV × List UInt8)} (hc : Ch h v xs) (hd : Ch h w ys) (hlen : xs.length < 2 ^ 62) (t t' : Nat) : ∃ r h', Runs TF 52 [entV t v, entV t' w] h r h' ∧ r = .bool (sameE t xs t' ys) ∧ Ext h h' := by
  refine Runs.ofP f52 rfl ?_
  obtain ⟨H1, X1, n1, enew, Ld⟩ := ent_new hc t
  obtain ⟨H2, X2, n2, enew2, Ld2⟩ := ent_new (hd.ext X1) t'
  have l1 := Ld H2 X2
  have l2 := Ld2 H2 (Ext.refl _)
  have X12 := X1.trans X2
  have hc2 := hc.ext X12
  have hd2 := hd.ext X12
  by_cases ht : t = t'
  · by_cases hl : xs.length = ys.length
    · refine Wp.seq ?_
      refine Wp.region ?_
      refine Wo.val _ _ (by kernel_rfl) (enew (by kernel_rfl)) ?_
      refine Wo.val _ _ (by kernel_rfl) (enew2 (by kernel_rfl)) ?_
      refine Wo.pre 1 (by kernel_rfl) ?_
      refine Wo.nil ?_
      refine Wp.seq ?_
      refine Wp.seq ?_
      refine Wp.region ?_
      refine Wo.pre 1 (by kernel_rfl) ?_
      refine Wo.val (.int .u64 t) H2 (by kernel_rfl) (iop_ld (a := ⟨h.n, 0, 0⟩) (by kernel_rfl) l1.1) ?_
      refine Wo.pre 1 (by kernel_rfl) ?_
      refine Wo.val (.int .u64 t') H2 (by kernel_rfl) (iop_ld (a := ⟨H1.n, 0, 0⟩) (by kernel_rfl) l2.1) ?_
      refine Wo.val (.bool false) H2 (by kernel_rfl) (iop_cmp (op := .neq) (k := .u64) (a := t) (b := t') false (by kernel_rfl) (by kernel_rfl) (by simp) (by simp [binInt, ht])) ?_
      refine Wo.pre 1 (by kernel_rfl) ?_
      refine Wo.pre 1 (by kernel_rfl) ?_
      refine Wo.val v H2 (by kernel_rfl) (iop_ld (a := ⟨h.n, 0, 1⟩) (by kernel_rfl) l1.2.1) ?_
      refine Wo.val (.int .i64 xs.length) H2 (by kernel_rfl) (iop_lenS (v := v) (by kernel_rfl) hc.lenS) ?_
      refine Wo.pre 1 (by kernel_rfl) ?_
      refine Wo.val w H2 (by kernel_rfl) (iop_ld (a := ⟨H1.n, 0, 1⟩) (by kernel_rfl) l2.2.1) ?_
      refine Wo.val (.int .i64 ys.length) H2 (by kernel_rfl) (iop_lenS (v := w) (by kernel_rfl) hd.lenS) ?_
      refine Wo.val (.bool false) H2 (by kernel_rfl) (iop_cmp (op := .neq) (k := .i64) (a := xs.length) (b := ys.length) false (by kernel_rfl) (by kernel_rfl) (by simp) (by simp [binInt, hl])) ?_
      refine Wo.pre 1 (by kernel_rfl) ?_
      refine Wo.nil ?_
      refine Wp.cond false (by kernel_rfl) ?_
      refine Wp.skip ?_
      refine Wp.seq ?_
      refine Wp.seq ?_
      refine Wp.region ?_
      refine Wo.pre 1 (by kernel_rfl) ?_
      refine Wo.nil ?_
      refine Wp.block ?_
      refine rsame_loop hc2 hd2 hl hlen l1.2.1 l2.2.1 xs.length 0 (by omega) _ (by kernel_rfl) (by kernel_rfl) (by kernel_rfl) (by kernel_rfl) _ ?_ ?_
      · intro hn ts' d0 d4
        rw [laid_eq d0 [(4, .bool false)] (by simp [d4])]
        have : sameE t xs t' ys = false := by
          have hn : ¬ says xs = says ys := hn
          simp [sameE, hn]
        exact ⟨.inr rfl, .bool false, (by kernel_rfl), by rw [this], X12⟩
      · intro he ts' d0
        have he : says xs = says ys := he
        rw [laid_eq d0 [] (by simp)]
        refine Wp.seq ?_
        refine Wp.region ?_
        refine Wo.pre 8 (by kernel_rfl) ?_
        refine Wo.nil ?_
        have : sameE t xs t' ys = true := by simp [sameE, he, ht]
        exact Wp.ret ⟨.inr rfl, .bool true, (by kernel_rfl), by rw [this], X12⟩
    · have hl' : (xs.length : Int) ≠ ys.length := by omega
      have : sameE t xs t' ys = false := by
        have : ¬ says xs = says ys := fun e => hl (by rw [← says_len xs, e, says_len])
        simp [sameE, this]
      refine Wp.seq ?_
      refine Wp.region ?_
      refine Wo.val _ _ (by kernel_rfl) (enew (by kernel_rfl)) ?_
      refine Wo.val _ _ (by kernel_rfl) (enew2 (by kernel_rfl)) ?_
      refine Wo.pre 1 (by kernel_rfl) ?_
      refine Wo.nil ?_
      refine Wp.seq ?_
      refine Wp.seq ?_
      refine Wp.region ?_
      refine Wo.pre 1 (by kernel_rfl) ?_
      refine Wo.val (.int .u64 t) H2 (by kernel_rfl) (iop_ld (a := ⟨h.n, 0, 0⟩) (by kernel_rfl) l1.1) ?_
      refine Wo.pre 1 (by kernel_rfl) ?_
      refine Wo.val (.int .u64 t') H2 (by kernel_rfl) (iop_ld (a := ⟨H1.n, 0, 0⟩) (by kernel_rfl) l2.1) ?_
      refine Wo.val (.bool false) H2 (by kernel_rfl) (iop_cmp (op := .neq) (k := .u64) (a := t) (b := t') false (by kernel_rfl) (by kernel_rfl) (by simp) (by simp [binInt, ht])) ?_
      refine Wo.pre 1 (by kernel_rfl) ?_
      refine Wo.pre 1 (by kernel_rfl) ?_
      refine Wo.val v H2 (by kernel_rfl) (iop_ld (a := ⟨h.n, 0, 1⟩) (by kernel_rfl) l1.2.1) ?_
      refine Wo.val (.int .i64 xs.length) H2 (by kernel_rfl) (iop_lenS (v := v) (by kernel_rfl) hc.lenS) ?_
      refine Wo.pre 1 (by kernel_rfl) ?_
      refine Wo.val w H2 (by kernel_rfl) (iop_ld (a := ⟨H1.n, 0, 1⟩) (by kernel_rfl) l2.2.1) ?_
      refine Wo.val (.int .i64 ys.length) H2 (by kernel_rfl) (iop_lenS (v := w) (by kernel_rfl) hd.lenS) ?_
      refine Wo.val (.bool true) H2 (by kernel_rfl) (iop_cmp (op := .neq) (k := .i64) (a := xs.length) (b := ys.length) true (by kernel_rfl) (by kernel_rfl) (by simp) (by simp only [binInt]; rw [bne_iff_ne.2 hl'])) ?_
      refine Wo.pre 1 (by kernel_rfl) ?_
      refine Wo.nil ?_
      refine Wp.cond true (by kernel_rfl) ?_
      refine Wp.seq ?_
      refine Wp.region ?_
      refine Wo.pre 1 (by kernel_rfl) ?_
      refine Wo.nil ?_
      exact Wp.ret ⟨.inr rfl, .bool false, (by kernel_rfl), by rw [this], X12⟩
  · have ht' : (t : Int) ≠ t' := by omega
    have : sameE t xs t' ys = false := by simp [sameE, ht]
    refine Wp.seq ?_
    refine Wp.region ?_
    refine Wo.val _ _ (by kernel_rfl) (enew (by kernel_rfl)) ?_
    refine Wo.val _ _ (by kernel_rfl) (enew2 (by kernel_rfl)) ?_
    refine Wo.pre 1 (by kernel_rfl) ?_
    refine Wo.nil ?_
    refine Wp.seq ?_
    refine Wp.seq ?_
    refine Wp.region ?_
    refine Wo.pre 1 (by kernel_rfl) ?_
    refine Wo.val (.int .u64 t) H2 (by kernel_rfl) (iop_ld (a := ⟨h.n, 0, 0⟩) (by kernel_rfl) l1.1) ?_
    refine Wo.pre 1 (by kernel_rfl) ?_
    refine Wo.val (.int .u64 t') H2 (by kernel_rfl) (iop_ld (a := ⟨H1.n, 0, 0⟩) (by kernel_rfl) l2.1) ?_
    refine Wo.val (.bool true) H2 (by kernel_rfl) (iop_cmp (op := .neq) (k := .u64) (a := t) (b := t') true (by kernel_rfl) (by kernel_rfl) (by simp) (by simp only [binInt]; rw [bne_iff_ne.2 ht'])) ?_
    refine Wo.pre 1 (by kernel_rfl) ?_
    refine Wo.pre 1 (by kernel_rfl) ?_
    refine Wo.pre 1 (by kernel_rfl) ?_
    refine Wo.pre 1 (by kernel_rfl) ?_
    refine Wo.pre 1 (by kernel_rfl) ?_
    refine Wo.pre 1 (by kernel_rfl) ?_
    refine Wo.pre 1 (by kernel_rfl) ?_
    refine Wo.pre 1 (by kernel_rfl) ?_
    refine Wo.pre 1 (by kernel_rfl) ?_
    refine Wo.nil ?_
    refine Wp.cond true (by kernel_rfl) ?_
    refine Wp.seq ?_
    refine Wp.region ?_
    refine Wo.pre 1 (by kernel_rfl) ?_
    refine Wo.nil ?_
    exact Wp.ret ⟨.inr rfl, .bool false, (by kernel_rfl), by rw [this], X12⟩
end Go.Det

/- Rows that are spoiled: entries' laws. -/
set_option linter.unusedVariables false
set_option linter.unusedSimpArgs false
set_option linter.unusedSectionVars false
namespace Go.Det
open Go.Proofs
attribute [local simp] skip_iff ret_iff exit_iff seq_iff block_iff thenQ_normal thenQ_ret thenQ_exit thenQ_goto blockQ_normal blockQ_ret blockQ_exit blockQ_goto condQ_bool cond_iff region_iff wo_nil ansQ_val ansQ_call wo_cons wo_guard wanted put setL getL ev iop binop binInt shInt asI retV resOf unop
attribute [local congr] ansQ_congr condQ_congr Wo_congr Wp_congr

theorem spoil53_1 {blk g n : Nat} (hn : n ≤ maxRow) :
    ∀ (k i : Nat), i + k = n → ∀ (h : H) (ts : List AV) (x : AV), ts.length = 24 → getL ts 3 = some x → getL ts 12 = some (.int .i64 n) → getL ts 13 = some (.int .i64 i) →
      (n = 0 ∨ ((∃ cc, x = .sl ⟨blk, g, 0⟩ n cc) ∧ ∃ r : List UInt8, r.length = n ∧ h.get blk = some (.cells g 5 (bytesAV r) 0 false))) →
      ∀ (Q : Ex → St → Prop), (∀ ts' h', ts'.length = 24 → (∀ j, j < 12 → j ≠ 4 → getL ts' j = getL ts j) → h'.n = h.n → (∀ b, b ≠ blk → h'.get b = h.get b) → (n = 0 ∨ ∃ r : List UInt8, r.length = n ∧ h'.get blk = some (.cells g 5 (bytesAV r) 0 false)) → (n = 0 → h' = h) → Q (.exit 2) (ts', h')) → Wp TF (.loop l53_1) (ts, h) Q := by
  have hmx : maxRow < 2 ^ 62 := by decide
  intro k
  induction k with
  | zero =>
    intro i hi h ts x t0 tx tl ti hx Q hQ
    obtain rfl : i = n := by omega
    refine Wp.loop ?_
    simp [l53_1, t0, tl, ti, getL_put, len_put]
    refine hQ _ _ (by simp [t0, len_put]) (fun j hj hk => ?_) rfl (fun _ _ => rfl) (hx.imp id (fun y => y.2)) (fun _ => rfl)
    repeat rw [getL_ne _ _ (by omega)]
  | succ k ih =>
    intro i hi h ts x t0 tx tl ti hx Q hQ
    refine Wp.loop ?_
    obtain ⟨⟨cc, rfl⟩, r, hr, hg⟩ := hx.resolve_left (by omega)
    have hlt : i < n := by omega
    obtain ⟨c, hc⟩ : ∃ c, r[i]? = some c := ⟨r[i]'(by omega), by simp [hr, hlt]⟩
    have hld : h.ldg ⟨blk, g, i⟩ none = some (.int .u8 c.toNat) := by simp [H.ldg, H.ld, H.row, hg, get_byte, hc]
    have w1 : IntKind.i64.wrap ((i : Int) + 1) = (i : Int) + 1 := i64_fit _ (by omega)
    simp only [l53_1]
    simp [t0, tx, tl, ti, getL_put, len_put, hlt, hld, IntKind.bits, wrap_u8, AV.cells, st_byte hg (k := i) (by omega)]
    refine ih (i + 1) (by omega) _ _ _ (by simp [t0, len_put]) (by simp [tx, getL_put]) (by simp [tl, getL_put]) (by simp [t0, getL_put, len_put, w1]) (.inr ⟨⟨cc, rfl⟩, ⟨_, ?hl, h.get_set _ _⟩⟩) Q ?_
    case hl => rw [List.length_set, hr]
    intro ts' h' g1 g2 g3 g4 g5 g6
    refine hQ ts' h' g1 (fun j hj hk => ?_) (by rw [g3]; rfl) (fun b hb => by rw [g4 b hb, h.get_set_ne _ b _ hb]) g5 (fun e => by omega)
    rw [g2 j hj hk]
    repeat rw [getL_ne _ _ (by omega)]

end Go.Det

/- Entries: one in new memory; rows that are spoiled. -/
set_option linter.unusedVariables false
set_option linter.unusedSimpArgs false
set_option linter.unusedSectionVars false
namespace Go.Det
open Go.Proofs
attribute [local irreducible] Wp Wo Wd iop ev slots quiets wanted put

/-- A chain of its own, its rows too. -/
structure OwnCh (lo : Nat) (h : H) (v : AV) (ys : List (AV × List UInt8)) : Prop where
  row : OwC 22 1 lo h v (ys.map (·.1)) ys.length
  el : ∀ p ∈ ys, Ow lo h p.1 p.2

theorem OwnCh.ch {lo : Nat} {h : H} {v : AV} {ys : List (AV × List UInt8)} (o : OwnCh lo h v ys) : Ch h v ys := by
  refine ⟨?_, fun p hp => ⟨(o.el p hp).bs, (o.el p hp).cok⟩, ?_⟩
  · rcases o.row with ⟨h1, _, h2⟩ | ⟨b, g, h1, h2, h3, h4, h5⟩
    · exact .inl ⟨h1, List.length_eq_zero_iff.1 h2⟩
    · refine .inr ⟨⟨b, g, 0⟩, .op 1, h4, h2, ?_⟩
      unfold H.ldn H.row
      simp only [h3, BEq.rfl, Bool.not_false, Bool.true_or, Bool.and_self, if_true]
      have : ys.length = (ys.map (·.1)).length := by simp
      rw [this]
      exact cut_all _
  · rintro a m c e
    rcases o.row with ⟨h1, _⟩ | ⟨b, g, _, _, _, h4, _⟩
    · rw [h1] at e; simp at e
    · rw [h4] at e; simp only [AV.sl.injEq] at e; exact .inr e.2.2.symm

theorem OwnCh.ext {lo : Nat} {h h' : H} {v : AV} {ys : List (AV × List UInt8)} (o : OwnCh lo h v ys) (hx : Ext h h') : OwnCh lo h' v ys :=
  ⟨o.row.ext hx.1 (fun b _ _ _ h2 _ => hx.2 b h2), fun p hp => (o.el p hp).ext hx⟩

set_option maxHeartbeats 1000000 in
theorem owne_loop {h0 : H} {v : AV} {xs : List (AV × List UInt8)} {blk rb : Nat} (hc : Ch h0 v xs) (hx : ∀ p ∈ xs, p.2.length ≤ maxRow) (hlen : xs.length * 24 ≤ 140737488355328) (L : ∀ q, Ext h0 q → q.ldg ⟨blk, 0, 1⟩ none = some v) :
    ∀ (k i : Nat), i + k = xs.length → ∀ (h : H) (lV : AV) (ys : List (AV × List UInt8)) (ts : List AV), Ext h0 h → OwnCh h0.n h lV ys → says ys = says (xs.take i) → ys.length = i → ts.length = 27 → getL ts 1 = some (.ptr ⟨blk, 0, 0⟩) → getL ts 2 = some (.ptr ⟨rb, 0, 0⟩) → getL ts 3 = some lV → getL ts 4 = some (.int .i64 i) →
      ∀ (Q : Ex → St → Prop), (∀ ts' h' lV ys, Ext h0 h' → OwnCh h0.n h' lV ys → says ys = says xs → ts'.length = 27 → getL ts' 1 = some (.ptr ⟨blk, 0, 0⟩) → getL ts' 2 = some (.ptr ⟨rb, 0, 0⟩) → getL ts' 3 = some lV → Q (.exit 0) (ts', h')) → Wp TF (.loop l40_1) (ts, h) Q := by
  have hmx : 200000000000000 = maxRow := rfl
  intro k
  induction k with
  | zero =>
    intro i hi h lV ys ts hE hO hsy hyl t0 t1 t2 t3 t4 Q hQ
    obtain rfl : i = xs.length := by omega
    rw [List.take_length] at hsy
    refine Wp.loop ?_
    rw [laid_eq t0 [(1, .ptr ⟨blk, 0, 0⟩), (2, .ptr ⟨rb, 0, 0⟩), (3, lV), (4, .int .i64 xs.length)] (by simp [t1, t2, t3, t4])]
    unfold l40_1
    refine Wp.seq ?_
    refine Wp.seq ?_
    refine Wp.region ?_
    refine Wo.pre 1 (by kernel_rfl) ?_
    refine Wo.pre 1 (by kernel_rfl) ?_
    refine Wo.val v h (by kernel_rfl) (iop_ld (a := ⟨blk, 0, 1⟩) (by kernel_rfl) (L h hE)) ?_
    refine Wo.val (.int .i64 xs.length) h (by kernel_rfl) (iop_lenS (v := v) (by kernel_rfl) hc.lenS) ?_
    refine Wo.val (.bool false) h (by kernel_rfl) (iop_cmp (op := .lss) (k := .i64) (a := xs.length) (b := xs.length) false (by kernel_rfl) (by kernel_rfl) (by simp) (by simp [binInt])) ?_
    refine Wo.nil ?_
    refine Wp.cond false (by kernel_rfl) ?_
    exact Wp.exit (hQ _ _ lV ys hE hO hsy (by kernel_rfl) (by kernel_rfl) (by kernel_rfl) (by kernel_rfl))
  | succ k ih =>
    intro i hi h lV ys ts hE hO hsy hyl t0 t1 t2 t3 t4 Q hQ
    have hlt : i < xs.length := by omega
    obtain ⟨p, hp⟩ : ∃ p, xs[i]? = some p := ⟨xs[i], List.getElem?_eq_getElem hlt⟩
    have hps := hx p (List.mem_of_getElem? hp)
    have hB := ((hc.el p (List.mem_of_getElem? hp)).1).ext hE
    have hls := hc.lenS
    obtain ⟨a, q, rfl, hld⟩ := (hc.ext hE).at hp
    have wi : IntKind.i64.wrap ((i : Int) + 1) = ((i + 1 : Nat) : Int) := by rw [i64_fit _ (by omega)]; omega
    have n0 := hE.1
    obtain ⟨c', H1, a1, w1, Y1, Z1⟩ := Ow.app (lo := h0.n) (h := h) (x := .nils) (l := []) (.inl ⟨rfl, rfl⟩) hB n0 (by simpa using hps)
    rw [List.nil_append] at w1
    have X1 : Ext h H1 := ⟨Y1.1, fun b hb => Z1 b hb (fun _ _ _ e => by simp at e)⟩
    have hc1 := w1.bs.parts
    have O1 := hO.ext X1
    have n1 := X1.1
    have fit : fits (ys.length + 1) 24 = true := by
      simp only [fits, Bool.and_eq_true, decide_eq_true_eq]; omega
    obtain ⟨H2, hH2⟩ : ∃ H2, H2 = H1.new (.cells 0 22 [c'] 0 false) := ⟨_, rfl⟩
    obtain ⟨l', H3, a3, o3, n3, k3⟩ := O1.row.app (by omega) (new := [c']) rfl (by simp [hc1.2.1]) fit (by omega) H2 hH2
    have bslc : ∀ {y : IX} {ρ : IX → AV}, ρ y = c' → iop (.bsl 22 [.nils] 1 [(0, 1, y)]) ρ H1 = some (.val (.sl ⟨H1.n, 0, 0⟩ 1 (.ex 1)) H2) := by
      intro y ρ hy
      simp [iop, fillL, hy, hc1.1, hc1.2.1, putAt, ← hH2]
    have kp : ∀ b g c, h0.n ≤ b → b < H1.n → H1.get b = some (.cells g 5 c 0 false) → H3.get b = H1.get b := fun b g c h1 h2 h3 => k3 b h2 (.inr (fun g c e => by rw [h3] at e; simp at e))
    have E3 : Ext h0 H3 := ⟨by omega, fun b hb => by rw [k3 b (by omega) (.inl hb), X1.2 b (by omega)]; exact hE.2 b hb⟩
    have O3 : OwnCh h0.n H3 l' (ys ++ [(c', p.2)]) := by
      refine ⟨by rw [List.map_append, List.length_append]; exact o3, fun r hr => ?_⟩
      rcases List.mem_append.1 hr with hr | hr
      · exact (O1.el r hr).keep n3 kp
      · simp only [List.mem_cons, List.not_mem_nil, or_false] at hr
        subst hr
        exact w1.keep n3 kp
    have hsy' : says (ys ++ [(c', p.2)]) = says (xs.take (i + 1)) := by
      rw [take_step hp]
      simp only [says, List.map_append] at hsy ⊢
      rw [hsy]
      rfl
    refine Wp.loop ?_
    rw [laid_eq t0 [(1, .ptr ⟨blk, 0, 0⟩), (2, .ptr ⟨rb, 0, 0⟩), (3, lV), (4, .int .i64 i)] (by simp [t1, t2, t3, t4])]
    unfold l40_1
    refine Wp.seq ?_
    refine Wp.seq ?_
    refine Wp.region ?_
    refine Wo.pre 1 (by kernel_rfl) ?_
    refine Wo.pre 1 (by kernel_rfl) ?_
    refine Wo.val (.sl a xs.length q) h (by kernel_rfl) (iop_ld (a := ⟨blk, 0, 1⟩) (by kernel_rfl) (L h hE)) ?_
    refine Wo.val (.int .i64 xs.length) h (by kernel_rfl) (iop_lenS (v := .sl a xs.length q) (by kernel_rfl) hls) ?_
    refine Wo.val (.bool true) h (by kernel_rfl) (iop_cmp (op := .lss) (k := .i64) (a := i) (b := xs.length) true (by kernel_rfl) (by kernel_rfl) (by simp) (by simp [binInt]; omega)) ?_
    refine Wo.nil ?_
    refine Wp.cond true (by kernel_rfl) ?_
    refine Wp.skip ?_
    refine Wp.seq ?_
    refine Wp.block ?_
    refine Wp.seq ?_
    refine Wp.region ?_
    refine Wo.pre 1 (by kernel_rfl) ?_
    refine Wo.nil ?_
    refine Wp.region ?_
    refine Wo.pre 1 (by kernel_rfl) ?_
    refine Wo.pre 1 (by kernel_rfl) ?_
    refine Wo.pre 1 (by kernel_rfl) ?_
    refine Wo.val (.sl a xs.length q) h (by kernel_rfl) (iop_ld (a := ⟨blk, 0, 1⟩) (by kernel_rfl) (L h hE)) ?_
    refine Wo.pre 1 (by kernel_rfl) ?_
    refine Wo.val _ h (by kernel_rfl) (iop_ia (a := a) (n := xs.length) (c := q) (i := i) (by kernel_rfl) (by kernel_rfl) hlt) ?_
    refine Wo.val p.1 h (by kernel_rfl) (iop_ld (a := ⟨a.b, a.g, a.o + i * 1⟩) (by kernel_rfl) hld) ?_
    refine Wo.val c' H1 (by kernel_rfl) (iop_app (v := .nils) (w := p.1) (by kernel_rfl) (by kernel_rfl) hB.parts.2.2 a1) ?_
    refine Wo.val _ H2 (by kernel_rfl) (bslc (by kernel_rfl)) ?_
    refine Wo.val l' H3 (by kernel_rfl) (iop_appG (v := lV) (w := .sl ⟨H1.n, 0, 0⟩ 1 (.ex 1)) (by kernel_rfl) (by kernel_rfl) rfl a3) ?_
    refine Wo.pre 1 (by kernel_rfl) ?_
    refine Wo.nil ?_
    refine Wp.region ?_
    refine Wo.pre 1 (by kernel_rfl) ?_
    refine Wo.pre 1 (by kernel_rfl) ?_
    refine Wo.pre 1 (by kernel_rfl) ?_
    refine Wo.nil ?_
    exact ih (i + 1) (by omega) H3 l' _ _ E3 O3 hsy' (by rw [List.length_append, hyl]; rfl) (by kernel_rfl) (by kernel_rfl) (by kernel_rfl) (by kernel_rfl) (by rw [← wi]; kernel_rfl) Q hQ

theorem retS {ts : List AV} {h : H} {k ag : Nat} {a : AA} {v : AV} (LA : h.ldg a (some ag) = some v) (h1 : getL ts k = some (.ptr a)) : retV h ts [(k, some (some ag))] = some v := by
  simp [retV, resOf, iop, ev, h1, LA]

theorem owne_run {h : H} {v : AV} {xs : List (AV × List UInt8)} (hc : Ch h v xs) (hx : ∀ p ∈ xs, p.2.length ≤ maxRow) (hlen : xs.length * 24 ≤ 140737488355328) (t : Nat) : ∃ r h', Runs TF 40 [entV t v] h r h' ∧ ∃ v' ys, r = entV t v' ∧ Ext h h' ∧ OwnCh h.n h' v' ys ∧ says ys = says xs := by
  refine Runs.ofP f40 rfl ?_
  obtain ⟨H1, X1, n1, enew, Ld⟩ := ent_new hc t
  obtain ⟨H2, hH2⟩ : ∃ H2, H2 = H1.new (.cells 0 70 [.int .u64 0, .nils] 0 false) := ⟨_, rfl⟩
  have X2 : Ext H1 H2 := by rw [hH2]; exact Ext.new _ _
  have g2 : H2.get H1.n = some (.cells 0 70 [.int .u64 0, .nils] 0 false) := by rw [hH2]; exact H1.get_new _
  have n2 : H1.n < H2.n := by rw [hH2]; simp
  have en2 : ∀ ts, iop (.new 70 (.c (.agg [.int .u64 0, .nils]))) (ev ts) H1 = some (.val (.ptr ⟨H1.n, 0, 0⟩) H2) := fun ts => by rw [hH2]; exact iop_new (by kernel_rfl) rfl
  have X12 := X1.trans X2
  have m1 := X1.1
  refine Wp.seq ?_
  refine Wp.region ?_
  refine Wo.val _ _ (by kernel_rfl) (enew (by kernel_rfl)) ?_
  refine Wo.val _ _ (by kernel_rfl) (en2 _) ?_
  refine Wo.nil ?_
  refine Wp.seq ?_
  refine Wp.region ?_
  refine Wo.pre 8 (by kernel_rfl) ?_
  refine Wo.nil ?_
  refine Wp.seq ?_
  refine Wp.seq ?_
  refine Wp.region ?_
  refine Wo.pre 8 (by kernel_rfl) ?_
  refine Wo.nil ?_
  refine Wp.block ?_
  refine owne_loop (blk := h.n) (rb := H1.n) (hc.ext X12) hx hlen (fun q hq => (Ld q (X2.trans hq)).2.1) xs.length 0 (by omega) H2 .nils [] _ (Ext.refl _) ⟨.inl ⟨rfl, rfl, rfl⟩, fun p hp => by simp at hp⟩ (by simp [says]) rfl (by kernel_rfl) (by kernel_rfl) (by kernel_rfl) (by kernel_rfl) (by kernel_rfl) _ ?_
  intro ts' H3 lV ys hE hO hsy d0 d1 d2 d3
  rw [laid_eq d0 [(1, .ptr ⟨h.n, 0, 0⟩), (2, .ptr ⟨H1.n, 0, 0⟩), (3, lV)] (by simp [d1, d2, d3])]
  have l3 := Ld H3 (X2.trans hE)
  have hlp := hO.ch.parts
  have g3 : H3.get H1.n = some (.cells 0 70 [.int .u64 0, .nils] 0 false) := by rw [hE.2 _ n2]; exact g2
  obtain ⟨H4, hH4⟩ : ∃ H4, H4 = H3.set H1.n (.cells 0 70 [.int .u64 t, lV] 0 false) := ⟨_, rfl⟩
  have st : H3.st ⟨H1.n, 0, 0⟩ [.int .u64 t, lV] = some H4 := by
    have o3 : ∀ k i, (AV.int k i).one = true := fun _ _ => rfl
    unfold H.st
    simp only [g3]
    rw [if_pos (by simp [hlp.2.1, o3]), hH4]
    rfl
  have g4 : H4.get H1.n = some (.cells 0 70 [.int .u64 t, lV] 0 false) := by rw [hH4, H3.get_set]
  have kp : ∀ b, b ≠ H1.n → H4.get b = H3.get b := fun b hb => by rw [hH4, H3.get_set_ne _ b _ hb]
  have n4 : H4.n = H3.n := by rw [hH4]; rfl
  have eb : ∀ {x y : IX} {ρ : IX → AV}, ρ x = .int .u64 t → ρ y = lV → iop (.build [.int .u64 0, .nils] [(0, 1, x), (1, 1, y)]) ρ H3 = some (.val (.agg [.int .u64 t, lV]) H3) := by
    intro x y ρ hx hy
    have o : (AV.int .u64 (t : Int)).cells = [.int .u64 t] := rfl
    simp [iop, fillL, hx, hy, hlp.1, o, putAt]
  refine Wp.seq ?_
  refine Wp.region ?_
  refine Wo.pre 1 (by kernel_rfl) ?_
  refine Wo.val (.int .u64 t) H3 (by kernel_rfl) (iop_ld (a := ⟨h.n, 0, 0⟩) (by kernel_rfl) l3.1) ?_
  refine Wo.pre 1 (by kernel_rfl) ?_
  refine Wo.val (.agg [.int .u64 t, lV]) H3 (by kernel_rfl) (eb (by kernel_rfl) (by kernel_rfl)) ?_
  refine Wo.val .undef H4 (by kernel_rfl) (iop_stA (a := ⟨H1.n, 0, 0⟩) (cs := [.int .u64 t, lV]) (by kernel_rfl) (by kernel_rfl) rfl st) ?_
  refine Wo.nil ?_
  have LA : H4.ldg ⟨H1.n, 0, 0⟩ (some 2) = some (entV t lV) := by simp [H.ldg, H.ldn, H.row, g4, cut, entV]
  have e3 := hE.1
  refine Wp.ret ⟨.inr rfl, entV t lV, retS LA (by kernel_rfl), lV, ys, rfl, ⟨by show h.n ≤ H4.n; omega, fun b hb => ?_⟩, ⟨?_, fun p hp => ?_⟩, hsy⟩
  · show H4.get b = h.get b
    rw [kp b (by omega), hE.2 b (by omega)]; exact X12.2 b hb
  · rcases hO.row with h0 | ⟨b, g, q1, q2, q3, q4⟩
    · exact .inl h0
    · exact .inr ⟨b, g, by omega, by show b < H4.n; omega, by rw [kp b (by omega)]; exact q3, q4⟩
  · rcases hO.el p hp with h0 | ⟨b, g, q1, q2, q3, q4⟩
    · exact .inl h0
    · exact .inr ⟨b, g, by omega, by show b < H4.n; omega, by rw [kp b (by omega)]; exact q3, q4⟩
end Go.Det

/- Entries' laws: rows are spoiled. -/
set_option linter.unusedVariables false
set_option linter.unusedSimpArgs false
set_option linter.unusedSectionVars false
namespace Go.Det
open Go.Proofs
attribute [local irreducible] Wp Wo Wd iop ev slots quiets wanted put

end Go.Det

/- The law EntryMakes. -/
set_option linter.unusedVariables false
set_option linter.unusedSimpArgs false
set_option linter.unusedSectionVars false
namespace Go.Det
open Go.Proofs
attribute [local irreducible] Wp Wo Wd iop ev slots quiets wanted put

/-- A block of two cells, made and filled. -/
theorem made2 {h : H} (ty : Nat) {z1 z2 x y : AV} (hz : ([z1, z2] : List AV).all AV.one = true) (hx : x.one = true) (hy : y.one = true) :
    ∃ H1 H2, Ext h H2 ∧ H2.n = h.n + 1 ∧ H2.get h.n = some (.cells 0 ty [x, y] 0 false) ∧ (∀ {u : IX} {ρ : IX → AV}, ρ u = .agg [z1, z2] → iop (.new ty u) ρ h = some (.val (.ptr ⟨h.n, 0, 0⟩) H1)) ∧
      (∀ {u w : IX} {ρ : IX → AV}, ρ u = .ptr ⟨h.n, 0, 0⟩ → ρ w = .agg [x, y] → iop (.st 2 u w) ρ H1 = some (.val .undef H2)) ∧ Ext h H1 ∧ H1.n = h.n + 1 := by
  refine ⟨h.new (.cells 0 ty [z1, z2] 0 false), (h.new (.cells 0 ty [z1, z2] 0 false)).set h.n (.cells 0 ty [x, y] 0 false), ⟨Nat.le_succ _, fun b hb => ?_⟩, rfl, H.get_set _ _ _, fun hu => iop_new hu hz, fun hu hw => iop_stA (a := ⟨h.n, 0, 0⟩) (cs := [x, y]) hu hw rfl ?_, Ext.new _ _, rfl⟩
  · rw [H.get_set_ne _ _ _ _ (by omega)]; exact h.get_new_ne b _ (by omega)
  · unfold H.st
    simp only [H.get_new]
    rw [if_pos (by simp [hx, hy])]
    rfl

theorem ld_two {h : H} {b ty : Nat} {x y : AV} (hg : h.get b = some (.cells 0 ty [x, y] 0 false)) : h.ldg ⟨b, 0, 0⟩ (some 2) = some (.agg [x, y]) ∧ h.ldg ⟨b, 0, 0⟩ none = some x ∧ h.ldg ⟨b, 0, 1⟩ none = some y := by
  simp [H.ldg, H.ld, H.ldn, H.row, hg, getL, cut]

end Go.Det

/- Lists of certificates read from bytes: the plain law. -/
set_option linter.unusedVariables false
set_option linter.unusedSimpArgs false
namespace Go.Det
open Go.Proofs

/-- Rows of three-byte vectors, to the end. -/
def cutN : Nat → List UInt8 → Option (List (List UInt8))
  | 0, l => if l = [] then some [] else none
  | k + 1, l => if l = [] then some [] else if vE l 3 = 0 then (cutN k (vL l 3)).map (vX l 3 :: ·) else none

def innerS (cs : List (List UInt8)) : List UInt8 := (cs.map certB).flatten
def listS (cs : List (List UInt8)) : List UInt8 := digits (innerS cs).length 3 3 ++ innerS cs
theorem inner_says (xs : List (AV × List UInt8)) : inner xs = innerS (says xs) := by simp only [inner, innerS, says, List.map_map]; rfl
theorem list_says (xs : List (AV × List UInt8)) : listB xs = listS (says xs) := by simp only [listB, listS, inner_says]

theorem vE3 (l : List UInt8) : vE l 3 = 0 ∨ vE l 3 = 4 := by
  unfold vE
  rw [if_neg (by decide)]
  split
  · exact .inr rfl
  · split
    · exact .inr rfl
    · exact .inl rfl
theorem vE3_iff {l : List UInt8} : vE l 3 = 0 ↔ 3 + be (l.take 3) ≤ l.length := by
  unfold vE
  rw [if_neg (by decide)]
  have e : (3 : Int).toNat = 3 := rfl
  simp only [e]
  split
  · constructor
    · intro h; cases h
    · intro h; omega
  · split
    · constructor
      · intro h; cases h
      · intro h; omega
    · constructor
      · intro h; omega
      · intro h; rfl
theorem vX3 {l : List UInt8} (h : vE l 3 = 0) : vX l 3 = (l.drop 3).take (be (l.take 3)) := by rw [vX, if_pos h]; rfl
theorem vL3 {l : List UInt8} (h : vE l 3 = 0) : vL l 3 = l.drop (3 + be (l.take 3)) := by rw [vL, if_pos h]; rfl
theorem vX3_len {l : List UInt8} (h : vE l 3 = 0) : (vX l 3).length = be (l.take 3) := by
  have := vE3_iff.1 h
  rw [vX3 h, List.length_take, List.length_drop]; omega
theorem vX3_lt (l : List UInt8) : (vX l 3).length < 16777216 := by
  unfold vX
  split
  · rename_i h
    have h1 := vE3_iff.1 h
    have h2 := be_lt (l.take 3)
    have h3 : (l.take 3).length = 3 := by rw [List.length_take]; omega
    rw [h3] at h2
    have e : (3 : Int).toNat = 3 := rfl
    rw [List.length_take, List.length_drop, e]
    omega
  · simp
theorem vL3_len {l : List UInt8} (h : vE l 3 = 0) : (vL l 3).length + 3 ≤ l.length := by
  have := vE3_iff.1 h
  rw [vL3 h, List.length_drop]; omega

/-- Laid down, and read. -/
theorem dec3 {c : List UInt8} (hc : c.length < 16777216) (m : List UInt8) : vE (certB c ++ m) 3 = 0 ∧ vX (certB c ++ m) 3 = c ∧ vL (certB c ++ m) 3 = m := by
  have hbe : be (digits c.length 3 3) = c.length := be_dig' (s := 3) hc
  have htk : (certB c ++ m).take 3 = digits c.length 3 3 := by rw [certB, List.append_assoc, List.take_left' (digits_len _ _ _)]
  have hdr : (certB c ++ m).drop 3 = c ++ m := by rw [certB, List.append_assoc, List.drop_left' (digits_len _ _ _)]
  have hlen : (certB c ++ m).length = 3 + c.length + m.length := by rw [certB]; simp [digits_len, Nat.add_assoc]
  have e0 : vE (certB c ++ m) 3 = 0 := vE3_iff.2 (by rw [htk, hbe]; omega)
  refine ⟨e0, ?_, ?_⟩
  · rw [vX3 e0, htk, hbe, hdr, List.take_left]
  · rw [vL3 e0, htk, hbe, ← List.drop_drop, hdr, List.drop_left]

/-- Read, and laid down. -/
theorem enc3 {l : List UInt8} (h : vE l 3 = 0) : certB (vX l 3) ++ vL l 3 = l := by
  have h1 := vE3_iff.1 h
  have hd := be_digits (l.take 3)
  have h3 : (l.take 3).length = 3 := by rw [List.length_take]; omega
  rw [h3] at hd
  rw [certB, vX3_len h, hd, vX3 h, vL3 h, ← List.drop_drop, List.append_assoc, List.take_append_drop, List.take_append_drop]

theorem cut_dec : ∀ (k : Nat) (l : List UInt8) (cs : List (List UInt8)), cutN k l = some cs → innerS cs = l
  | 0, l, cs, h => by
    simp only [cutN] at h
    split at h
    · rename_i e; simp only [Option.some.injEq] at h; subst h; rw [e]; rfl
    · cases h
  | k + 1, l, cs, h => by
    simp only [cutN] at h
    split at h
    · rename_i e; simp only [Option.some.injEq] at h; subst h; rw [e]; rfl
    · split at h
      · rename_i e
        simp only [Option.map_eq_some_iff] at h
        obtain ⟨ds, h1, rfl⟩ := h
        have := cut_dec k _ _ h1
        simp only [innerS, List.map_cons, List.flatten_cons] at this ⊢
        rw [this]
        exact enc3 e
      · cases h

theorem cut_enc : ∀ (k : Nat) (cs : List (List UInt8)), cs.length ≤ k → (∀ c ∈ cs, c.length < 16777216) → cutN k (innerS cs) = some cs
  | 0, [], _, _ => rfl
  | k + 1, [], _, _ => rfl
  | k + 1, c :: cs, hk, hc => by
    have hd := dec3 (hc c (by simp)) (innerS cs)
    have e : innerS (c :: cs) = certB c ++ innerS cs := by simp [innerS]
    have hne : certB c ++ innerS cs ≠ [] := by
      intro h
      have := congrArg List.length h
      simp [certB, digits_len] at this
    rw [e]
    simp only [cutN]
    rw [if_neg hne, if_pos hd.1, hd.2.1, hd.2.2, cut_enc k cs (by simpa using hk) (fun x hx => hc x (by simp [hx]))]
    rfl

theorem cut_some : ∀ (k : Nat) (l : List UInt8) (cs : List (List UInt8)), cutN k l = some cs → ∀ c ∈ cs, c.length < 16777216
  | 0, l, cs, h => by
    simp only [cutN] at h
    split at h
    · simp only [Option.some.injEq] at h; subst h; intro c hc; simp at hc
    · cases h
  | k + 1, l, cs, h => by
    simp only [cutN] at h
    split at h
    · simp only [Option.some.injEq] at h; subst h; intro c hc; simp at hc
    · split at h
      · simp only [Option.map_eq_some_iff] at h
        obtain ⟨ds, h1, rfl⟩ := h
        intro c hc
        rcases List.mem_cons.1 hc with rfl | hc
        · exact vX3_lt l
        · exact cut_some k _ _ h1 c hc
      · cases h

theorem innerS_cons (c : List UInt8) (cs : List (List UInt8)) : innerS (c :: cs) = certB c ++ innerS cs := by simp [innerS]
theorem innerS_len : ∀ cs : List (List UInt8), cs.length ≤ (innerS cs).length
  | [] => Nat.zero_le _
  | c :: cs => by
    have := innerS_len cs
    rw [innerS_cons]
    simp only [certB, List.length_append, digits_len, List.length_cons]
    omega

/-- The certificates that a list's inner bytes tell. -/
def cutA (l : List UInt8) : Option (List (List UInt8)) := cutN l.length l
theorem cutA_enc {cs : List (List UInt8)} (hc : ∀ c ∈ cs, c.length < 16777216) : cutA (innerS cs) = some cs := cut_enc _ cs (innerS_len cs) hc

/-- The program's: what stands behind is looked at later. -/
def certP (l : List UInt8) : Option (List (List UInt8)) := if vE l 3 = 0 then cutA (vX l 3) else none
/-- The reference's. -/
def certR (l : List UInt8) : Option (List (List UInt8)) := if vL l 3 = [] then certP l else none

theorem certR_dec {l : List UInt8} {cs : List (List UInt8)} (h : certR l = some cs) : listS cs = l ∧ ∀ c ∈ cs, c.length < 16777216 := by
  unfold certR at h
  split at h
  · rename_i e
    unfold certP at h
    split at h
    · rename_i e0
      have h1 := cut_dec _ _ _ h
      have h2 := enc3 e0
      rw [e, List.append_nil, certB] at h2
      exact ⟨by rw [listS, h1]; exact h2, cut_some _ _ _ h⟩
    · cases h
  · cases h
theorem certR_enc {cs : List (List UInt8)} (hc : ∀ c ∈ cs, c.length < 16777216) (hl : (innerS cs).length < 16777216) : certR (listS cs) = some cs := by
  have hd := dec3 hl []
  rw [List.append_nil] at hd
  have e : listS cs = certB (innerS cs) := rfl
  rw [certR, e, if_pos hd.2.2, certP, if_pos hd.1, hd.2.1]
  exact cutA_enc hc

def mayS (cs : List (List UInt8)) : Bool := decide (1 ≤ cs.length ∧ cs.length ≤ 4) && cs.all mayC
theorem may_says (xs : List (AV × List UInt8)) : mayE xs = mayS (says xs) := by simp only [mayE, mayS, says, List.length_map, List.all_map]; rfl
theorem mayS_small {cs : List (List UInt8)} (h : mayS cs = true) : 1 ≤ cs.length ∧ cs.length ≤ 4 ∧ ∀ c ∈ cs, 1 ≤ c.length ∧ c.length ≤ 512 := by
  simp only [mayS, Bool.and_eq_true, decide_eq_true_eq, List.all_eq_true, mayC] at h
  exact ⟨h.1.1, h.1.2, h.2⟩
theorem innerS_le : ∀ (cs : List (List UInt8)), (∀ c ∈ cs, c.length ≤ 512) → (innerS cs).length ≤ 515 * cs.length
  | [], _ => Nat.zero_le _
  | c :: cs, h => by
    have h1 := innerS_le cs (fun x hx => h x (by simp [hx]))
    have h2 := h c (by simp)
    rw [innerS_cons]
    simp only [certB, List.length_append, digits_len, List.length_cons]
    omega
/-- A record's entry: time, certificates, error. -/
def recOf (l : List UInt8) : Nat × List (List UInt8) × Int :=
  match (if 8 ≤ l.length then certR (l.drop 8) else none) with
  | some cs => if mayS cs = true then (be (l.take 8), cs, 0) else (0, [], 5)
  | none => (0, [], 5)

theorem rec_bad {l : List UInt8} (h : ¬ 8 ≤ l.length) : recOf l = (0, [], 5) := by simp [recOf, h]
theorem rec_none {l : List UInt8} (h8 : 8 ≤ l.length) (h : certR (l.drop 8) = none) : recOf l = (0, [], 5) := by simp [recOf, h8, h]
theorem rec_may {l : List UInt8} {cs : List (List UInt8)} (h8 : 8 ≤ l.length) (h : certR (l.drop 8) = some cs) (hm : mayS cs = true) : recOf l = (be (l.take 8), cs, 0) := by simp [recOf, h8, h, hm]
theorem rec_not {l : List UInt8} {cs : List (List UInt8)} (h8 : 8 ≤ l.length) (h : certR (l.drop 8) = some cs) (hm : ¬ mayS cs = true) : recOf l = (0, [], 5) := by simp [recOf, h8, h, hm]

theorem be8_lt {l : List UInt8} (h : l.length ≤ 8) : be l < 2 ^ 64 := by
  have h1 := be_lt l
  have h2 : 256 ^ l.length ≤ 256 ^ 8 := Nat.pow_le_pow_right (by decide) h
  have h3 : 256 ^ 8 = 2 ^ 64 := by decide
  omega

/-- What an entry's record is, and back. -/
def recS (t : Nat) (cs : List (List UInt8)) : List UInt8 := digits t 8 8 ++ listS cs
theorem rec_dec {l : List UInt8} {t : Nat} {cs : List (List UInt8)} {E : Int} (h : recOf l = (t, cs, E)) : (E = 0 ∧ mayS cs = true ∧ recS t cs = l ∧ t < 2 ^ 64) ∨ (E = 5 ∧ t = 0 ∧ cs = []) := by
  by_cases h8 : 8 ≤ l.length
  · cases hc : certR (l.drop 8) with
    | none => rw [rec_none h8 hc] at h; simp only [Prod.mk.injEq] at h; exact .inr ⟨h.2.2.symm, h.1.symm, h.2.1.symm⟩
    | some ds =>
      by_cases hm : mayS ds = true
      · rw [rec_may h8 hc hm] at h; simp only [Prod.mk.injEq] at h
        obtain ⟨rfl, rfl, rfl⟩ := h
        refine .inl ⟨rfl, hm, ?_, be8_lt (by rw [List.length_take]; omega)⟩
        have hd := be_digits (l.take 8)
        have h3 : (l.take 8).length = 8 := by rw [List.length_take]; omega
        rw [h3] at hd
        rw [recS, (certR_dec hc).1, hd, List.take_append_drop]
      · rw [rec_not h8 hc hm] at h; simp only [Prod.mk.injEq] at h; exact .inr ⟨h.2.2.symm, h.1.symm, h.2.1.symm⟩
  · rw [rec_bad h8] at h; simp only [Prod.mk.injEq] at h; exact .inr ⟨h.2.2.symm, h.1.symm, h.2.1.symm⟩
end Go.Det

/- Lists of certificates read: the walks. -/
set_option linter.unusedVariables false
set_option linter.unusedSimpArgs false
set_option linter.unusedSectionVars false
namespace Go.Det
open Go.Proofs
attribute [local irreducible] Wp Wo Wd iop ev slots quiets wanted put

theorem OwnCh.keepB {lo rb : Nat} {h h' : H} {v : AV} {ys : List (AV × List UInt8)} (hlo : rb < lo) (x : ExtB rb h h') (o : OwnCh lo h v ys) : OwnCh lo h' v ys :=
  ⟨o.row.ext x.1 (fun b g c h1 h2 _ => x.2 b h2 (by omega)), fun p hp => (o.el p hp).keep x.1 (fun b g c h1 h2 _ => x.2 b h2 (by omega))⟩
theorem OwnCh.mono {lo lo' : Nat} {h : H} {v : AV} {ys : List (AV × List UInt8)} (o : OwnCh lo h v ys) (hl : lo' ≤ lo) : OwnCh lo' h v ys :=
  ⟨o.row.imp id (fun ⟨b, g, h1, h2⟩ => ⟨b, g, by omega, h2⟩), fun p hp => (o.el p hp).mono hl⟩

/-- One row more. -/
theorem OwnCh.add {lo : Nat} {h : H} {v c : AV} {cl : List UInt8} {ys : List (AV × List UInt8)} (o : OwnCh lo h v ys) (hlo : lo ≤ h.n) (hc : Ow lo h c cl) (hn : ys.length < 16777216) :
    ∃ H2 l' H3, (∀ {y : IX} {ρ : IX → AV}, ρ y = c → iop (.bsl 22 [.nils] 1 [(0, 1, y)]) ρ h = some (.val (.sl ⟨h.n, 0, 0⟩ 1 (.ex 1)) H2)) ∧ append H2 22 1 24 v (.sl ⟨h.n, 0, 0⟩ 1 (.ex 1)) = some (.val l' H3) ∧ OwnCh lo H3 l' (ys ++ [(c, cl)]) ∧ h.n ≤ H3.n ∧ ∀ b, b < h.n → (b < lo ∨ ∀ g c, h.get b ≠ some (.cells g 22 c 0 false)) → H3.get b = h.get b := by
  have hmx : 200000000000000 = maxRow := rfl
  have hc1 := hc.bs.parts
  have fit : fits (ys.length + 1) 24 = true := by
    simp only [fits, Bool.and_eq_true, decide_eq_true_eq]; omega
  obtain ⟨H2, hH2⟩ : ∃ H2, H2 = h.new (.cells 0 22 [c] 0 false) := ⟨_, rfl⟩
  obtain ⟨l', H3, a3, o3, n3, k3⟩ := o.row.app hlo (new := [c]) rfl (by simp [hc1.2.1]) fit (by omega) H2 hH2
  have kp : ∀ b g c, lo ≤ b → b < h.n → h.get b = some (.cells g 5 c 0 false) → H3.get b = h.get b := fun b g c h1 h2 h3 => k3 b h2 (.inr (fun g c e => by rw [h3] at e; simp at e))
  refine ⟨H2, l', H3, ?_, a3, ⟨by rw [List.map_append, List.length_append]; exact o3, fun r hr => ?_⟩, n3, k3⟩
  · intro y ρ hy
    simp [iop, fillL, hy, hc1.1, hc1.2.1, putAt, ← hH2]
  · rcases List.mem_append.1 hr with hr | hr
    · exact (o.el r hr).keep n3 kp
    · simp only [List.mem_cons, List.not_mem_nil, or_false] at hr
      subst hr
      exact hc.keep n3 kp

theorem cutN_nil (k : Nat) : cutN k [] = some [] := by cases k <;> rfl
theorem cutN_bad {k : Nat} {l : List UInt8} (hl : l ≠ []) (h : vE l 3 = 4) : cutN (k + 1) l = none := by
  simp only [cutN]; rw [if_neg hl, if_neg (by rw [h]; decide)]
theorem cutN_good {k : Nat} {l : List UInt8} (hl : l ≠ []) (h : vE l 3 = 0) : cutN (k + 1) l = (cutN k (vL l 3)).map (vX l 3 :: ·) := by
  simp only [cutN]; rw [if_neg hl, if_pos h]

set_option maxHeartbeats 2000000 in
theorem certs_loop {hb : H} {rb : Nat} {u0 : AV} (hrb : rb < hb.n) (hu0 : ∀ a n c, u0 = .sl a n c → a.b < hb.n) :
    ∀ (k : Nat) (l : List UInt8), l.length ≤ k → ∀ (h : H) (u lV : AV) (ys : List (AV × List UInt8)) (ts : List AV), ys.length + l.length < 16777216 → Rd h rb u l → SB u0 u → ExtB rb hb h → OwnCh hb.n h lV ys → ts.length = 36 → getL ts 6 = some lV → getL ts 7 = some (.ptr ⟨rb, 0, 0⟩) →
      ∀ (Q : Ex → St → Prop), (∀ ts' h' lV' zs cs, cutN k l = some cs → ExtB rb hb h' → OwnCh hb.n h' lV' zs → says zs = says ys ++ cs → ts'.length = 36 → getL ts' 6 = some lV' → Q (.exit 0) (ts', h')) → (∀ ts' h', cutN k l = none → ExtB rb hb h' → ts'.length = 36 → getL ts' 2 = some .nils → getL ts' 3 = some (.int .i64 4) → Q .ret (ts', h')) → Wp TF (.loop l83_1) (ts, h) Q := by
  have hmx : 200000000000000 = maxRow := rfl
  intro k
  induction k with
  | zero =>
    intro l hk h u lV ys ts hn hR hu hE hO t0 t6 t7 Q hQ hQ'
    obtain rfl : l = [] := List.length_eq_zero_iff.1 (by omega)
    refine Wp.loop ?_
    rw [laid_eq t0 [(6, lV), (7, .ptr ⟨rb, 0, 0⟩)] (by simp [t6, t7])]
    unfold l83_1
    refine Wp.seq ?_
    refine Wp.seq ?_
    refine Wp.region ?_
    refine Wo.pre 1 (by kernel_rfl) ?_
    refine Wo.call (by kernel_rfl) (by kernel_rfl) ((left_run hR)) ?_
    refine Wo.val (.bool false) h (by kernel_rfl) (iop_cmp (op := .gtr) (k := .i64) (a := ([] : List UInt8).length) (b := 0) false (by kernel_rfl) (by kernel_rfl) (by simp) (by simp [binInt])) ?_
    refine Wo.nil ?_
    refine Wp.cond false (by kernel_rfl) ?_
    exact Wp.exit (hQ _ _ lV ys [] (cutN_nil _) hE hO (by simp) (by kernel_rfl) (by kernel_rfl))
  | succ k ih =>
    intro l hk h u lV ys ts hn hR hu hE hO t0 t6 t7 Q hQ hQ'
    by_cases hl : l = []
    · subst hl
      refine Wp.loop ?_
      rw [laid_eq t0 [(6, lV), (7, .ptr ⟨rb, 0, 0⟩)] (by simp [t6, t7])]
      unfold l83_1
      refine Wp.seq ?_
      refine Wp.seq ?_
      refine Wp.region ?_
      refine Wo.pre 1 (by kernel_rfl) ?_
      refine Wo.call (by kernel_rfl) (by kernel_rfl) ((left_run hR)) ?_
      refine Wo.val (.bool false) h (by kernel_rfl) (iop_cmp (op := .gtr) (k := .i64) (a := ([] : List UInt8).length) (b := 0) false (by kernel_rfl) (by kernel_rfl) (by simp) (by simp [binInt])) ?_
      refine Wo.nil ?_
      refine Wp.cond false (by kernel_rfl) ?_
      exact Wp.exit (hQ _ _ lV ys [] (cutN_nil _) hE hO (by simp) (by kernel_rfl) (by kernel_rfl))
    · have hpos : 0 < l.length := List.length_pos_iff.2 hl
      obtain ⟨h1, x, u', c1, hR1, hx, hE1, hu1⟩ := vec_any hR 3 (by omega)
      have hE1' := hE.trans hE1
      rcases vE3 l with he | he
      · rw [he] at c1
        have hl3 := vL3_len he
        have hn0 := hE.1
        have hn1 := hE1'.1
        have hO1 := hO.keepB hrb hE1
        obtain ⟨H2, l', H3, b2, a3, hO3, n3, k3⟩ := hO1.add (by omega) (hx.mono hn0) (by omega)
        have hE3 : ExtB rb hb H3 := ⟨by omega, fun b hb1 hb2 => by rw [k3 b (by omega) (.inl hb1)]; exact hE1'.2 b hb1 hb2⟩
        have hub := hu.trans hu1
        have hR3 : Rd H3 rb u' (vL l 3) := hR1.keep n3 (k3 rb (by omega) (.inl hrb)) (fun a n c e => by
          obtain ⟨a0, n0, q0, e0, e1⟩ := hub a n c e
          have := hu0 a0 n0 q0 e0
          exact k3 a.b (by omega) (.inl (by omega)))
        refine Wp.loop ?_
        rw [laid_eq t0 [(6, lV), (7, .ptr ⟨rb, 0, 0⟩)] (by simp [t6, t7])]
        unfold l83_1
        refine Wp.seq ?_
        refine Wp.seq ?_
        refine Wp.region ?_
        refine Wo.pre 1 (by kernel_rfl) ?_
        refine Wo.call (by kernel_rfl) (by kernel_rfl) ((left_run hR)) ?_
        refine Wo.val (.bool true) h (by kernel_rfl) (iop_cmp (op := .gtr) (k := .i64) (a := l.length) (b := 0) true (by kernel_rfl) (by kernel_rfl) (by simp) (by simp [binInt, hpos])) ?_
        refine Wo.nil ?_
        refine Wp.cond true (by kernel_rfl) ?_
        refine Wp.skip ?_
        refine Wp.block ?_
        refine Wp.seq ?_
        refine Wp.region ?_
        refine Wo.pre 1 (by kernel_rfl) ?_
        refine Wo.call (by kernel_rfl) (by kernel_rfl) (c1) ?_
        refine Wo.pre 1 (by kernel_rfl) ?_
        refine Wo.pre 1 (by kernel_rfl) ?_
        refine Wo.pre 1 (by kernel_rfl) ?_
        refine Wo.pre 1 (by kernel_rfl) ?_
        refine Wo.pre 1 (by kernel_rfl) ?_
        refine Wo.nil ?_
        refine Wp.seq ?_
        refine Wp.seq ?_
        refine Wp.region ?_
        refine Wo.pre 1 (by kernel_rfl) ?_
        refine Wo.pre 1 (by kernel_rfl) ?_
        refine Wo.nil ?_
        refine Wp.cond false (by kernel_rfl) ?_
        refine Wp.skip ?_
        refine Wp.region ?_
        refine Wo.pre 1 (by kernel_rfl) ?_
        refine Wo.pre 1 (by kernel_rfl) ?_
        refine Wo.val _ H2 (by kernel_rfl) (b2 (by kernel_rfl)) ?_
        refine Wo.val l' H3 (by kernel_rfl) (iop_appG (v := lV) (w := .sl ⟨h1.n, 0, 0⟩ 1 (.ex 1)) (by kernel_rfl) (by kernel_rfl) rfl a3) ?_
        refine Wo.pre 1 (by kernel_rfl) ?_
        refine Wo.nil ?_
        refine ih (vL l 3) (by omega) H3 u' l' _ _ (by rw [List.length_append]; simp only [List.length_cons, List.length_nil]; omega) hR3 hub hE3 hO3 (by kernel_rfl) (by kernel_rfl) (by kernel_rfl) Q (fun ts' h' lV' zs cs q1 q2 q3 q4 q5 q6 => ?_) (fun ts' h' q1 q2 q3 q4 q5 => hQ' ts' h' (by rw [cutN_good hl he, q1]; rfl) q2 q3 q4 q5)
        exact hQ ts' h' lV' zs (vX l 3 :: cs) (by rw [cutN_good hl he, q1]; rfl) q2 q3 (by rw [q4]; simp [says]) q5 q6
      · rw [he] at c1
        refine Wp.loop ?_
        rw [laid_eq t0 [(6, lV), (7, .ptr ⟨rb, 0, 0⟩)] (by simp [t6, t7])]
        unfold l83_1
        refine Wp.seq ?_
        refine Wp.seq ?_
        refine Wp.region ?_
        refine Wo.pre 1 (by kernel_rfl) ?_
        refine Wo.call (by kernel_rfl) (by kernel_rfl) ((left_run hR)) ?_
        refine Wo.val (.bool true) h (by kernel_rfl) (iop_cmp (op := .gtr) (k := .i64) (a := l.length) (b := 0) true (by kernel_rfl) (by kernel_rfl) (by simp) (by simp [binInt, hpos])) ?_
        refine Wo.nil ?_
        refine Wp.cond true (by kernel_rfl) ?_
        refine Wp.skip ?_
        refine Wp.block ?_
        refine Wp.seq ?_
        refine Wp.region ?_
        refine Wo.pre 1 (by kernel_rfl) ?_
        refine Wo.call (by kernel_rfl) (by kernel_rfl) (c1) ?_
        refine Wo.pre 1 (by kernel_rfl) ?_
        refine Wo.pre 1 (by kernel_rfl) ?_
        refine Wo.pre 1 (by kernel_rfl) ?_
        refine Wo.pre 1 (by kernel_rfl) ?_
        refine Wo.pre 1 (by kernel_rfl) ?_
        refine Wo.nil ?_
        refine Wp.seq ?_
        refine Wp.seq ?_
        refine Wp.region ?_
        refine Wo.pre 1 (by kernel_rfl) ?_
        refine Wo.pre 1 (by kernel_rfl) ?_
        refine Wo.nil ?_
        refine Wp.cond true (by kernel_rfl) ?_
        refine Wp.seq ?_
        refine Wp.region ?_
        refine Wo.pre 1 (by kernel_rfl) ?_
        refine Wo.pre 1 (by kernel_rfl) ?_
        refine Wo.pre 1 (by kernel_rfl) ?_
        refine Wo.nil ?_
        exact Wp.ret (hQ' _ _ (cutN_bad hl he) hE1' (by kernel_rfl) (by kernel_rfl) (by kernel_rfl))

set_option maxHeartbeats 2000000 in
theorem rcerts_loop {hb : H} {rb : Nat} {u0 : AV} (hrb : rb < hb.n) (hu0 : ∀ a n c, u0 = .sl a n c → a.b < hb.n) :
    ∀ (k : Nat) (l : List UInt8), l.length ≤ k → ∀ (h : H) (u lV : AV) (ys : List (AV × List UInt8)) (ts : List AV), ys.length + l.length < 16777216 → RRd h rb u l → SB u0 u → ExtB rb hb h → OwnCh hb.n h lV ys → ts.length = 48 → getL ts 7 = some lV → getL ts 8 = some (.ptr ⟨rb, 0, 0⟩) →
      ∀ (Q : Ex → St → Prop), (∀ ts' h' lV' zs cs, cutN k l = some cs → ExtB rb hb h' → OwnCh hb.n h' lV' zs → says zs = says ys ++ cs → ts'.length = 48 → getL ts' 7 = some lV' → Q (.exit 0) (ts', h')) → (∀ ts' h', cutN k l = none → ExtB rb hb h' → ts'.length = 48 → getL ts' 2 = some .nils → getL ts' 3 = some (.bool false) → Q .ret (ts', h')) → Wp TF (.loop l84_1) (ts, h) Q := by
  have hmx : 200000000000000 = maxRow := rfl
  intro k
  induction k with
  | zero =>
    intro l hk h u lV ys ts hn hR hu hE hO t0 t6 t7 Q hQ hQ'
    obtain rfl : l = [] := List.length_eq_zero_iff.1 (by omega)
    refine Wp.loop ?_
    rw [laid_eq t0 [(7, lV), (8, .ptr ⟨rb, 0, 0⟩)] (by simp [t6, t7])]
    unfold l84_1
    refine Wp.seq ?_
    refine Wp.seq ?_
    refine Wp.region ?_
    refine Wo.pre 1 (by kernel_rfl) ?_
    refine Wo.pre 1 (by kernel_rfl) ?_
    refine Wo.pre 1 (by kernel_rfl) ?_
    refine Wo.val u h (by kernel_rfl) (iop_ld (a := ⟨rb, 0, 0⟩) (by kernel_rfl) hR.ld) ?_
    refine Wo.val (.int .i64 ([] : List UInt8).length) h (by kernel_rfl) ((hR.2.2.1.len (by kernel_rfl))) ?_
    refine Wo.val (.bool false) h (by kernel_rfl) (iop_cmp (op := .gtr) (k := .i64) (a := ([] : List UInt8).length) (b := 0) false (by kernel_rfl) (by kernel_rfl) (by simp) (by simp [binInt])) ?_
    refine Wo.nil ?_
    refine Wp.cond false (by kernel_rfl) ?_
    exact Wp.exit (hQ _ _ lV ys [] (cutN_nil _) hE hO (by simp) (by kernel_rfl) (by kernel_rfl))
  | succ k ih =>
    intro l hk h u lV ys ts hn hR hu hE hO t0 t6 t7 Q hQ hQ'
    by_cases hl : l = []
    · subst hl
      refine Wp.loop ?_
      rw [laid_eq t0 [(7, lV), (8, .ptr ⟨rb, 0, 0⟩)] (by simp [t6, t7])]
      unfold l84_1
      refine Wp.seq ?_
      refine Wp.seq ?_
      refine Wp.region ?_
      refine Wo.pre 1 (by kernel_rfl) ?_
      refine Wo.pre 1 (by kernel_rfl) ?_
      refine Wo.pre 1 (by kernel_rfl) ?_
      refine Wo.val u h (by kernel_rfl) (iop_ld (a := ⟨rb, 0, 0⟩) (by kernel_rfl) hR.ld) ?_
      refine Wo.val (.int .i64 ([] : List UInt8).length) h (by kernel_rfl) ((hR.2.2.1.len (by kernel_rfl))) ?_
      refine Wo.val (.bool false) h (by kernel_rfl) (iop_cmp (op := .gtr) (k := .i64) (a := ([] : List UInt8).length) (b := 0) false (by kernel_rfl) (by kernel_rfl) (by simp) (by simp [binInt])) ?_
      refine Wo.nil ?_
      refine Wp.cond false (by kernel_rfl) ?_
      exact Wp.exit (hQ _ _ lV ys [] (cutN_nil _) hE hO (by simp) (by kernel_rfl) (by kernel_rfl))
    · have hpos : 0 < l.length := List.length_pos_iff.2 hl
      obtain ⟨h1, x, u', c1, hR1, hx, hE1, hu1⟩ := rrvec_any hR 3 (by omega)
      have hE1' := hE.trans hE1
      rcases vE3 l with he | he
      · rw [he] at c1
        have hl3 := vL3_len he
        have hn0 := hE.1
        have hn1 := hE1'.1
        have hO1 := hO.keepB hrb hE1
        obtain ⟨H2, l', H3, b2, a3, hO3, n3, k3⟩ := hO1.add (by omega) (hx.mono hn0) (by omega)
        have hE3 : ExtB rb hb H3 := ⟨by omega, fun b hb1 hb2 => by rw [k3 b (by omega) (.inl hb1)]; exact hE1'.2 b hb1 hb2⟩
        have hub := hu.trans hu1
        have hR3 : RRd H3 rb u' (vL l 3) := hR1.keep n3 (k3 rb (by omega) (.inl hrb)) (fun a n c e => by
          obtain ⟨a0, n0, q0, e0, e1⟩ := hub a n c e
          have := hu0 a0 n0 q0 e0
          exact k3 a.b (by omega) (.inl (by omega)))
        refine Wp.loop ?_
        rw [laid_eq t0 [(7, lV), (8, .ptr ⟨rb, 0, 0⟩)] (by simp [t6, t7])]
        unfold l84_1
        refine Wp.seq ?_
        refine Wp.seq ?_
        refine Wp.region ?_
        refine Wo.pre 1 (by kernel_rfl) ?_
        refine Wo.pre 1 (by kernel_rfl) ?_
        refine Wo.pre 1 (by kernel_rfl) ?_
        refine Wo.val u h (by kernel_rfl) (iop_ld (a := ⟨rb, 0, 0⟩) (by kernel_rfl) hR.ld) ?_
        refine Wo.val (.int .i64 l.length) h (by kernel_rfl) ((hR.2.2.1.len (by kernel_rfl))) ?_
        refine Wo.val (.bool true) h (by kernel_rfl) (iop_cmp (op := .gtr) (k := .i64) (a := l.length) (b := 0) true (by kernel_rfl) (by kernel_rfl) (by simp) (by simp [binInt, hpos])) ?_
        refine Wo.nil ?_
        refine Wp.cond true (by kernel_rfl) ?_
        refine Wp.skip ?_
        refine Wp.block ?_
        refine Wp.seq ?_
        refine Wp.region ?_
        refine Wo.pre 1 (by kernel_rfl) ?_
        refine Wo.call (by kernel_rfl) (by kernel_rfl) (c1) ?_
        refine Wo.pre 1 (by kernel_rfl) ?_
        refine Wo.pre 1 (by kernel_rfl) ?_
        refine Wo.pre 1 (by kernel_rfl) ?_
        refine Wo.pre 1 (by kernel_rfl) ?_
        refine Wo.pre 1 (by kernel_rfl) ?_
        refine Wo.nil ?_
        refine Wp.seq ?_
        refine Wp.seq ?_
        refine Wp.region ?_
        refine Wo.pre 1 (by kernel_rfl) ?_
        refine Wo.pre 1 (by kernel_rfl) ?_
        refine Wo.nil ?_
        refine Wp.cond false (by kernel_rfl) ?_
        refine Wp.skip ?_
        refine Wp.region ?_
        refine Wo.pre 1 (by kernel_rfl) ?_
        refine Wo.pre 1 (by kernel_rfl) ?_
        refine Wo.val _ H2 (by kernel_rfl) (b2 (by kernel_rfl)) ?_
        refine Wo.val l' H3 (by kernel_rfl) (iop_appG (v := lV) (w := .sl ⟨h1.n, 0, 0⟩ 1 (.ex 1)) (by kernel_rfl) (by kernel_rfl) rfl a3) ?_
        refine Wo.pre 1 (by kernel_rfl) ?_
        refine Wo.nil ?_
        refine ih (vL l 3) (by omega) H3 u' l' _ _ (by rw [List.length_append]; simp only [List.length_cons, List.length_nil]; omega) hR3 hub hE3 hO3 (by kernel_rfl) (by kernel_rfl) (by kernel_rfl) Q (fun ts' h' lV' zs cs q1 q2 q3 q4 q5 q6 => ?_) (fun ts' h' q1 q2 q3 q4 q5 => hQ' ts' h' (by rw [cutN_good hl he, q1]; rfl) q2 q3 q4 q5)
        exact hQ ts' h' lV' zs (vX l 3 :: cs) (by rw [cutN_good hl he, q1]; rfl) q2 q3 (by rw [q4]; simp [says]) q5 q6
      · rw [he] at c1
        refine Wp.loop ?_
        rw [laid_eq t0 [(7, lV), (8, .ptr ⟨rb, 0, 0⟩)] (by simp [t6, t7])]
        unfold l84_1
        refine Wp.seq ?_
        refine Wp.seq ?_
        refine Wp.region ?_
        refine Wo.pre 1 (by kernel_rfl) ?_
        refine Wo.pre 1 (by kernel_rfl) ?_
        refine Wo.pre 1 (by kernel_rfl) ?_
        refine Wo.val u h (by kernel_rfl) (iop_ld (a := ⟨rb, 0, 0⟩) (by kernel_rfl) hR.ld) ?_
        refine Wo.val (.int .i64 l.length) h (by kernel_rfl) ((hR.2.2.1.len (by kernel_rfl))) ?_
        refine Wo.val (.bool true) h (by kernel_rfl) (iop_cmp (op := .gtr) (k := .i64) (a := l.length) (b := 0) true (by kernel_rfl) (by kernel_rfl) (by simp) (by simp [binInt, hpos])) ?_
        refine Wo.nil ?_
        refine Wp.cond true (by kernel_rfl) ?_
        refine Wp.skip ?_
        refine Wp.block ?_
        refine Wp.seq ?_
        refine Wp.region ?_
        refine Wo.pre 1 (by kernel_rfl) ?_
        refine Wo.call (by kernel_rfl) (by kernel_rfl) (c1) ?_
        refine Wo.pre 1 (by kernel_rfl) ?_
        refine Wo.pre 1 (by kernel_rfl) ?_
        refine Wo.pre 1 (by kernel_rfl) ?_
        refine Wo.pre 1 (by kernel_rfl) ?_
        refine Wo.pre 1 (by kernel_rfl) ?_
        refine Wo.nil ?_
        refine Wp.seq ?_
        refine Wp.seq ?_
        refine Wp.region ?_
        refine Wo.pre 1 (by kernel_rfl) ?_
        refine Wo.pre 1 (by kernel_rfl) ?_
        refine Wo.nil ?_
        refine Wp.cond true (by kernel_rfl) ?_
        refine Wp.seq ?_
        refine Wp.region ?_
        refine Wo.pre 1 (by kernel_rfl) ?_
        refine Wo.pre 1 (by kernel_rfl) ?_
        refine Wo.nil ?_
        exact Wp.ret (hQ' _ _ (cutN_bad hl he) hE1' (by kernel_rfl) (by kernel_rfl) (by kernel_rfl))

theorem certP_bad {l : List UInt8} (h : vE l 3 = 4) : certP l = none := by rw [certP, if_neg (by rw [h]; decide)]
theorem certP_good {l : List UInt8} (h : vE l 3 = 0) : certP l = cutN (vX l 3).length (vX l 3) := by rw [certP, if_pos h]; rfl

set_option maxHeartbeats 2000000 in
theorem certs_run {h : H} {b : Nat} {v : AV} {l : List UInt8} (hR : Rd h b v l) (hl : l.length ≤ maxRow) :
    ∃ r h', Runs TF 83 [.ptr ⟨b, 0, 0⟩] h r h' ∧ ∃ z E v', r = .tup [z, .int .i64 E] ∧ Rd h' b v' (vL l 3) ∧ ExtB b h h' ∧ SB v v' ∧ ((certP l = none ∧ E = 4 ∧ z = .nils) ∨ ∃ ps, certP l = some (says ps) ∧ E = 0 ∧ OwnCh h.n h' z ps) := by
  have hmx : 200000000000000 = maxRow := rfl
  refine Runs.ofP f83 rfl ?_
  obtain ⟨h1, x, v', c1, hR1, hx, hE1, hs⟩ := vec_any hR 3 hl
  rcases vE3 l with he | he
  · rw [he] at c1
    have hlt := vX3_lt l
    obtain ⟨p, h2, c2, rb, u, rfl, hrb, hR2, hX2, hu, hub⟩ := new_run hx.bs (by omega)
    have k1 := hE1.1
    have k2 := hX2.1
    have hb1 := hR1.1
    refine Wp.seq ?_
    refine Wp.region ?_
    refine Wo.pre 8 (by kernel_rfl) ?_
    refine Wo.nil ?_
    refine Wp.seq ?_
    refine Wp.region ?_
    refine Wo.pre 1 (by kernel_rfl) ?_
    refine Wo.call (by kernel_rfl) (by kernel_rfl) (c1) ?_
    refine Wo.pre 8 (by kernel_rfl) ?_
    refine Wo.nil ?_
    refine Wp.seq ?_
    refine Wp.seq ?_
    refine Wp.region ?_
    refine Wo.pre 8 (by kernel_rfl) ?_
    refine Wo.nil ?_
    refine Wp.cond false (by kernel_rfl) ?_
    refine Wp.skip ?_
    refine Wp.seq ?_
    refine Wp.region ?_
    refine Wo.pre 8 (by kernel_rfl) ?_
    refine Wo.nil ?_
    refine Wp.seq ?_
    refine Wp.seq ?_
    refine Wp.region ?_
    refine Wo.pre 1 (by kernel_rfl) ?_
    refine Wo.call (by kernel_rfl) (by kernel_rfl) (c2) ?_
    refine Wo.pre 8 (by kernel_rfl) ?_
    refine Wo.nil ?_
    refine Wp.block ?_
    refine certs_loop hR2.1 (u0 := u) (fun a n c e => hR2.2.2.1.lt e) (vX l 3).length (vX l 3) (Nat.le_refl _) h2 u .nils [] _ (by simp; omega) hR2 (SB.refl _) (Ext.b (Ext.refl _) _) ⟨.inl ⟨rfl, rfl, rfl⟩, fun p hp => by simp at hp⟩ (by kernel_rfl) (by kernel_rfl) (by kernel_rfl) _ (fun ts' h' lV' zs cs q1 q2 q3 q4 q5 q6 => ?_) (fun ts' h' q1 q2 q3 q4 q5 => ?_)
    · have hR' : Rd h' b v' (vL l 3) := hR1.keep (by have := q2.1; omega) (by rw [q2.2 b (by omega) (by omega)]; exact hX2.2 b hb1) (fun a n c e => by
        have := hR1.2.2.1.lt e
        rw [q2.2 a.b (by omega) (by omega)]; exact hX2.2 a.b this)
      have hE' : ExtB b h h' := ⟨by have := q2.1; omega, fun k hk hkb => by rw [q2.2 k (by omega) (by omega), hX2.2 k (by omega)]; exact hE1.2 k hk hkb⟩
      rw [laid_eq q5 [(6, lV')] (by simp [q6])]
      refine Wp.seq ?_
      refine Wp.region ?_
      refine Wo.pre 8 (by kernel_rfl) ?_
      refine Wo.nil ?_
      exact Wp.ret ⟨.inr rfl, _, (by kernel_rfl), lV', 0, v', rfl, hR', hE', hs, .inr ⟨zs, by rw [certP_good he, q1, q4]; rfl, rfl, q3.mono (by omega)⟩⟩
    · have hR' : Rd h' b v' (vL l 3) := hR1.keep (by have := q2.1; omega) (by rw [q2.2 b (by omega) (by omega)]; exact hX2.2 b hb1) (fun a n c e => by
        have := hR1.2.2.1.lt e
        rw [q2.2 a.b (by omega) (by omega)]; exact hX2.2 a.b this)
      have hE' : ExtB b h h' := ⟨by have := q2.1; omega, fun k hk hkb => by rw [q2.2 k (by omega) (by omega), hX2.2 k (by omega)]; exact hE1.2 k hk hkb⟩
      refine ⟨.inr rfl, .tup [.nils, .int .i64 4], ?_, .nils, 4, v', rfl, hR', hE', hs, .inl ⟨by rw [certP_good he, q1], rfl, rfl⟩⟩
      simp [retV, resOf, iop, ev, q4, q5]
  · rw [he] at c1
    refine Wp.seq ?_
    refine Wp.region ?_
    refine Wo.pre 8 (by kernel_rfl) ?_
    refine Wo.nil ?_
    refine Wp.seq ?_
    refine Wp.region ?_
    refine Wo.pre 1 (by kernel_rfl) ?_
    refine Wo.call (by kernel_rfl) (by kernel_rfl) (c1) ?_
    refine Wo.pre 8 (by kernel_rfl) ?_
    refine Wo.nil ?_
    refine Wp.seq ?_
    refine Wp.seq ?_
    refine Wp.region ?_
    refine Wo.pre 8 (by kernel_rfl) ?_
    refine Wo.nil ?_
    refine Wp.cond true (by kernel_rfl) ?_
    refine Wp.seq ?_
    refine Wp.region ?_
    refine Wo.pre 8 (by kernel_rfl) ?_
    refine Wo.nil ?_
    exact Wp.ret ⟨.inr rfl, _, (by kernel_rfl), .nils, 4, v', rfl, hR1, hE1, hs, .inl ⟨certP_bad he, rfl, rfl⟩⟩

theorem certR_bad {l : List UInt8} (h : vE l 3 = 4) : certR l = none := by rw [certR, certP_bad h]; split <;> rfl
theorem certR_more {l : List UInt8} (h : vL l 3 ≠ []) : certR l = none := by rw [certR, if_neg h]
theorem certR_good {l : List UInt8} (h : vE l 3 = 0) (h2 : vL l 3 = []) : certR l = cutN (vX l 3).length (vX l 3) := by rw [certR, if_pos h2, certP_good h]

set_option maxHeartbeats 2000000 in
theorem rcerts_run {h : H} {y : AV} {l : List UInt8} (hy : Bs h y l) (hl : l.length ≤ maxRow) :
    ∃ r h', Runs TF 84 [y] h r h' ∧ ∃ z ok, r = .tup [z, .bool ok] ∧ Ext h h' ∧ ((certR l = none ∧ ok = false ∧ z = .nils) ∨ ∃ ps, certR l = some (says ps) ∧ ok = true ∧ OwnCh h.n h' z ps) := by
  have hmx : 200000000000000 = maxRow := rfl
  refine Runs.ofP f84 rfl ?_
  obtain ⟨h0, b, v, c0, hb0, hR0, hX0, hub0⟩ := rrnew_run hy hl
  obtain ⟨h1, x, v', c1, hR1, hx, hE1, hs⟩ := rrvec_any hR0 3 hl
  have k0 := hX0.1
  have k1 := hE1.1
  have hX1 : Ext h h1 := ⟨by omega, fun k hk => by rw [hE1.2 k (by omega) (by omega)]; exact hX0.2 k hk⟩
  rcases vE3 l with he | he
  · rw [he] at c1
    have hlt := vX3_lt l
    by_cases hm : vL l 3 = []
    · rw [hm] at hR1
      obtain ⟨h2, rb, u, c2, hrb, hR2, hX2, hub⟩ := rrnew_run hx.bs (by omega)
      have k2 := hX2.1
      refine Wp.seq ?_
      refine Wp.region ?_
      refine Wo.pre 1 (by kernel_rfl) ?_
      refine Wo.pre 1 (by kernel_rfl) ?_
      refine Wo.nil ?_
      refine Wp.seq ?_
      refine Wp.region ?_
      refine Wo.pre 1 (by kernel_rfl) ?_
      refine Wo.call (by kernel_rfl) (by kernel_rfl) (c0) ?_
      refine Wo.pre 1 (by kernel_rfl) ?_
      refine Wo.nil ?_
      refine Wp.seq ?_
      refine Wp.region ?_
      refine Wo.pre 1 (by kernel_rfl) ?_
      refine Wo.call (by kernel_rfl) (by kernel_rfl) (c1) ?_
      refine Wo.pre 1 (by kernel_rfl) ?_
      refine Wo.pre 1 (by kernel_rfl) ?_
      refine Wo.pre 1 (by kernel_rfl) ?_
      refine Wo.pre 1 (by kernel_rfl) ?_
      refine Wo.pre 1 (by kernel_rfl) ?_
      refine Wo.nil ?_
      refine Wp.seq ?_
      refine Wp.seq ?_
      refine Wp.region ?_
      refine Wo.pre 1 (by kernel_rfl) ?_
      refine Wo.pre 1 (by kernel_rfl) ?_
      refine Wo.pre 1 (by kernel_rfl) ?_
      refine Wo.pre 1 (by kernel_rfl) ?_
      refine Wo.pre 1 (by kernel_rfl) ?_
      refine Wo.pre 1 (by kernel_rfl) ?_
      refine Wo.val v' h1 (by kernel_rfl) (iop_ld (a := ⟨b, 0, 0⟩) (by kernel_rfl) hR1.ld) ?_
      refine Wo.val (.int .i64 ([] : List UInt8).length) h1 (by kernel_rfl) ((hR1.2.2.1.len (by kernel_rfl))) ?_
      refine Wo.val (.bool false) h1 (by kernel_rfl) (iop_cmp (op := .gtr) (k := .i64) (a := ([] : List UInt8).length) (b := 0) false (by kernel_rfl) (by kernel_rfl) (by simp) (by simp [binInt])) ?_
      refine Wo.pre 1 (by kernel_rfl) ?_
      refine Wo.nil ?_
      refine Wp.cond false (by kernel_rfl) ?_
      refine Wp.skip ?_
      refine Wp.seq ?_
      refine Wp.region ?_
      refine Wo.pre 1 (by kernel_rfl) ?_
      refine Wo.nil ?_
      refine Wp.seq ?_
      refine Wp.region ?_
      refine Wo.pre 1 (by kernel_rfl) ?_
      refine Wo.call (by kernel_rfl) (by kernel_rfl) (c2) ?_
      refine Wo.pre 1 (by kernel_rfl) ?_
      refine Wo.nil ?_
      refine Wp.seq ?_
      refine Wp.block ?_
      refine rcerts_loop hR2.1 (u0 := u) (fun a n c e => hR2.2.2.1.lt e) (vX l 3).length (vX l 3) (Nat.le_refl _) h2 u .nils [] _ (by simp; omega) hR2 (SB.refl _) (Ext.b (Ext.refl _) _) ⟨.inl ⟨rfl, rfl, rfl⟩, fun p hp => by simp at hp⟩ (by kernel_rfl) (by kernel_rfl) (by kernel_rfl) _ (fun ts' h' lV' zs cs q1 q2 q3 q4 q5 q6 => ?_) (fun ts' h' q1 q2 q3 q4 q5 => ?_)
      · have hE' : Ext h h' := ⟨by have := q2.1; omega, fun k hk => by rw [q2.2 k (by omega) (by omega), hX2.2 k (by omega)]; exact hX1.2 k hk⟩
        rw [laid_eq q5 [(7, lV')] (by simp [q6])]
        refine Wp.seq ?_
        refine Wp.region ?_
        refine Wo.pre 8 (by kernel_rfl) ?_
        refine Wo.nil ?_
        exact Wp.ret ⟨.inr rfl, _, (by kernel_rfl), lV', true, rfl, hE', .inr ⟨zs, by rw [certR_good he hm, q1, q4]; rfl, rfl, q3.mono (by omega)⟩⟩
      · have hE' : Ext h h' := ⟨by have := q2.1; omega, fun k hk => by rw [q2.2 k (by omega) (by omega), hX2.2 k (by omega)]; exact hX1.2 k hk⟩
        refine ⟨.inr rfl, .tup [.nils, .bool false], ?_, .nils, false, rfl, hE', .inl ⟨by rw [certR_good he hm, q1], rfl, rfl⟩⟩
        simp [retV, resOf, iop, ev, q4, q5]
    · have hpos : 0 < (vL l 3).length := List.length_pos_iff.2 hm
      refine Wp.seq ?_
      refine Wp.region ?_
      refine Wo.pre 1 (by kernel_rfl) ?_
      refine Wo.pre 1 (by kernel_rfl) ?_
      refine Wo.nil ?_
      refine Wp.seq ?_
      refine Wp.region ?_
      refine Wo.pre 1 (by kernel_rfl) ?_
      refine Wo.call (by kernel_rfl) (by kernel_rfl) (c0) ?_
      refine Wo.pre 1 (by kernel_rfl) ?_
      refine Wo.nil ?_
      refine Wp.seq ?_
      refine Wp.region ?_
      refine Wo.pre 1 (by kernel_rfl) ?_
      refine Wo.call (by kernel_rfl) (by kernel_rfl) (c1) ?_
      refine Wo.pre 1 (by kernel_rfl) ?_
      refine Wo.pre 1 (by kernel_rfl) ?_
      refine Wo.pre 1 (by kernel_rfl) ?_
      refine Wo.pre 1 (by kernel_rfl) ?_
      refine Wo.pre 1 (by kernel_rfl) ?_
      refine Wo.nil ?_
      refine Wp.seq ?_
      refine Wp.seq ?_
      refine Wp.region ?_
      refine Wo.pre 1 (by kernel_rfl) ?_
      refine Wo.pre 1 (by kernel_rfl) ?_
      refine Wo.pre 1 (by kernel_rfl) ?_
      refine Wo.pre 1 (by kernel_rfl) ?_
      refine Wo.pre 1 (by kernel_rfl) ?_
      refine Wo.pre 1 (by kernel_rfl) ?_
      refine Wo.val v' h1 (by kernel_rfl) (iop_ld (a := ⟨b, 0, 0⟩) (by kernel_rfl) hR1.ld) ?_
      refine Wo.val (.int .i64 (vL l 3).length) h1 (by kernel_rfl) ((hR1.2.2.1.len (by kernel_rfl))) ?_
      refine Wo.val (.bool true) h1 (by kernel_rfl) (iop_cmp (op := .gtr) (k := .i64) (a := (vL l 3).length) (b := 0) true (by kernel_rfl) (by kernel_rfl) (by simp) (by simp [binInt, hpos])) ?_
      refine Wo.pre 1 (by kernel_rfl) ?_
      refine Wo.nil ?_
      refine Wp.cond true (by kernel_rfl) ?_
      refine Wp.seq ?_
      refine Wp.region ?_
      refine Wo.pre 1 (by kernel_rfl) ?_
      refine Wo.pre 1 (by kernel_rfl) ?_
      refine Wo.nil ?_
      exact Wp.ret ⟨.inr rfl, _, (by kernel_rfl), .nils, false, rfl, hX1, .inl ⟨certR_more hm, rfl, rfl⟩⟩
  · rw [he] at c1
    refine Wp.seq ?_
    refine Wp.region ?_
    refine Wo.pre 8 (by kernel_rfl) ?_
    refine Wo.nil ?_
    refine Wp.seq ?_
    refine Wp.region ?_
    refine Wo.pre 1 (by kernel_rfl) ?_
    refine Wo.call (by kernel_rfl) (by kernel_rfl) (c0) ?_
    refine Wo.pre 8 (by kernel_rfl) ?_
    refine Wo.nil ?_
    refine Wp.seq ?_
    refine Wp.region ?_
    refine Wo.pre 1 (by kernel_rfl) ?_
    refine Wo.call (by kernel_rfl) (by kernel_rfl) (c1) ?_
    refine Wo.pre 8 (by kernel_rfl) ?_
    refine Wo.nil ?_
    refine Wp.seq ?_
    refine Wp.seq ?_
    refine Wp.region ?_
    refine Wo.pre 8 (by kernel_rfl) ?_
    refine Wo.pre 8 (by kernel_rfl) ?_
    refine Wo.nil ?_
    refine Wp.cond true (by kernel_rfl) ?_
    refine Wp.seq ?_
    refine Wp.region ?_
    refine Wo.pre 8 (by kernel_rfl) ?_
    refine Wo.nil ?_
    exact Wp.ret ⟨.inr rfl, _, (by kernel_rfl), .nils, false, rfl, hX1, .inl ⟨certR_bad he, rfl, rfl⟩⟩
end Go.Det

/- Records read: the walks. -/
set_option linter.unusedVariables false
set_option linter.unusedSimpArgs false
set_option linter.unusedSectionVars false
namespace Go.Det
open Go.Proofs
attribute [local irreducible] Wp Wo Wd iop ev slots quiets wanted put

/-- A block of two cells is filled anew. -/
theorem fill2 {h : H} {b ty : Nat} {z1 z2 x y : AV} (g : h.get b = some (.cells 0 ty [z1, z2] 0 false)) (hx : x.one = true) (hy : y.one = true) :
    ∃ h', (∀ {u w : IX} {ρ : IX → AV}, ρ u = .ptr ⟨b, 0, 0⟩ → ρ w = .agg [x, y] → iop (.st 2 u w) ρ h = some (.val .undef h')) ∧ h'.get b = some (.cells 0 ty [x, y] 0 false) ∧ (∀ c, c ≠ b → h'.get c = h.get c) ∧ h'.n = h.n := by
  refine ⟨h.set b (.cells 0 ty [x, y] 0 false), fun hu hw => iop_stA (a := ⟨b, 0, 0⟩) (cs := [x, y]) hu hw rfl ?_, h.get_set _ _, fun c hc => h.get_set_ne _ c _ hc, rfl⟩
  unfold H.st
  simp only [g]
  rw [if_pos (by simp [hx, hy])]
  rfl

theorem iop_build2 {z1 z2 : AV} {x y : IX} {ρ : IX → AV} {h : H} {a b : AV} (hx : ρ x = a) (hy : ρ y = b) (ha : a.cells = [a]) (hb : b.cells = [b]) : iop (.build [z1, z2] [(0, 1, x), (1, 1, y)]) ρ h = some (.val (.agg [a, b]) h) := by
  simp [iop, fillL, hx, hy, ha, hb, putAt]

theorem OwnCh.none {lo : Nat} {h : H} : OwnCh lo h .nils [] := ⟨.inl ⟨rfl, rfl, rfl⟩, fun p hp => by simp at hp⟩

theorem cutN_few {k : Nat} {l : List UInt8} {cs : List (List UInt8)} (h : cutN k l = some cs) (hl : l.length < 16777216) : cs.length < 16777216 := by
  have h1 := cut_dec _ _ _ h
  have h2 := innerS_len cs
  rw [h1] at h2
  omega
theorem certP_few {l : List UInt8} {cs : List (List UInt8)} (h : certP l = some cs) : cs.length < 16777216 := by
  unfold certP at h
  split at h
  · exact cutN_few h (vX3_lt l)
  · cases h
theorem certR_few {l : List UInt8} {cs : List (List UInt8)} (h : certR l = some cs) : cs.length < 16777216 := by
  unfold certR at h
  split at h
  · exact certP_few h
  · cases h
theorem certR_of {l : List UInt8} (h : vL l 3 = []) : certR l = certP l := by rw [certR, if_pos h]

theorem rd8_bad {l : List UInt8} (h : ¬ 8 ≤ l.length) : rdE l 8 = 4 := by
  unfold rdE; rw [if_neg (by decide), if_pos (by omega)]
theorem rd8_good {l : List UInt8} (h : 8 ≤ l.length) : rdE l 8 = 0 ∧ rdV l 8 = be (l.take 8) ∧ rdL l 8 = l.drop 8 := by
  have e : rdE l 8 = 0 := by unfold rdE; rw [if_neg (by decide), if_neg (by omega)]
  exact ⟨e, by rw [rdV, if_pos e]; rfl, by rw [rdL, if_pos e]; rfl⟩

set_option maxHeartbeats 4000000 in
theorem takerec_run {h : H} {y : AV} {l : List UInt8} (hy : Bs h y l) (hl : l.length ≤ maxRow) : ∃ r h', Runs TF 54 [y] h r h' ∧ ∃ t z ps E, r = .tup [entV t z, .int .i64 E] ∧ Ext h h' ∧ OwnCh h.n h' z ps ∧ recOf l = (t, says ps, E) := by
  refine Runs.ofP f54 rfl ?_
  have hmx : 200000000000000 = maxRow := rfl
  have o3 : ∀ k i, (AV.int k i).one = true := fun _ _ => rfl
  obtain ⟨H1, hH1⟩ : ∃ H1, H1 = h.new (.cells 0 70 [.int .u64 0, .nils] 0 false) := ⟨_, rfl⟩
  have X1 : Ext h H1 := by rw [hH1]; exact Ext.new _ _
  have n1 : h.n < H1.n := by rw [hH1]; simp
  have g1 : H1.get h.n = some (.cells 0 70 [.int .u64 0, .nils] 0 false) := by rw [hH1]; exact h.get_new _
  have en1 : ∀ ts, iop (.new 70 (.c (.agg [.int .u64 0, .nils]))) (ev ts) h = some (.val (.ptr ⟨h.n, 0, 0⟩) H1) := fun ts => by rw [hH1]; exact iop_new (by kernel_rfl) rfl
  obtain ⟨p, H2, c2, rb, u, rfl, hrb, hR2, X2, hu, hub⟩ := new_run (hy.ext X1) hl
  obtain ⟨H3, u3, c3, hR3, E3, s3⟩ := rdnum_any hR2 8 hl
  have m1 := X1.1
  have m2 := X2.1
  have m3 := E3.1
  have k3 : ∀ b, b < H1.n → H3.get b = H1.get b := fun b hb => by rw [E3.2 b (by omega) (by omega)]; exact X2.2 b hb
  by_cases h8 : 8 ≤ l.length
  · obtain ⟨e1, e2, e3⟩ := rd8_good h8
    rw [e1, e2] at c3
    rw [e3] at hR3
    have hd8 : (l.drop 8).length ≤ maxRow := by rw [List.length_drop]; omega
    obtain ⟨r4, H4, c4, z, E, u4, rfl, hR4, E4, s4, hz⟩ := certs_run hR3 hd8
    have m4 := E4.1
    have k4 : ∀ b, b < H1.n → H4.get b = H1.get b := fun b hb => by rw [E4.2 b (by omega) (by omega)]; exact k3 b hb
    rcases hz with ⟨q1, rfl, rfl⟩ | ⟨ps, q1, rfl, q3⟩
    · obtain ⟨H5a, H5, X5, n5, g5, en5, st5, _, _⟩ := made2 (h := H4) 70 (z1 := .int .u64 0) (z2 := .nils) (x := .int .u64 (be (l.take 8) : Nat)) (y := .nils) rfl rfl rfl
      have m5 := X5.1
      have gz : H5.get h.n = some (.cells 0 70 [.int .u64 0, .nils] 0 false) := by rw [X5.2 _ (by omega), k4 _ n1]; exact g1
      obtain ⟨Hz, sz, gz', kz, nz⟩ := fill2 (x := .int .u64 0) (y := .nils) gz rfl rfl
      have LA : Hz.ldg ⟨h.n, 0, 0⟩ (some 2) = some (entV 0 .nils) := (ld_two gz').1
      refine Wp.seq ?_
      refine Wp.region ?_
      refine Wo.val _ _ (by kernel_rfl) (en1 _) ?_
      refine Wo.pre 8 (by kernel_rfl) ?_
      refine Wo.nil ?_
      refine Wp.seq ?_
      refine Wp.region ?_
      refine Wo.pre 1 (by kernel_rfl) ?_
      refine Wo.call (by kernel_rfl) (by kernel_rfl) (c2) ?_
      refine Wo.pre 8 (by kernel_rfl) ?_
      refine Wo.nil ?_
      refine Wp.seq ?_
      refine Wp.region ?_
      refine Wo.pre 1 (by kernel_rfl) ?_
      refine Wo.call (by kernel_rfl) (by kernel_rfl) (c3) ?_
      refine Wo.pre 8 (by kernel_rfl) ?_
      refine Wo.nil ?_
      refine Wp.seq ?_
      refine Wp.seq ?_
      refine Wp.region ?_
      refine Wo.pre 8 (by kernel_rfl) ?_
      refine Wo.nil ?_
      refine Wp.cond false (by kernel_rfl) ?_
      refine Wp.skip ?_
      refine Wp.seq ?_
      refine Wp.region ?_
      refine Wo.pre 1 (by kernel_rfl) ?_
      refine Wo.call (by kernel_rfl) (by kernel_rfl) (c4) ?_
      refine Wo.pre 8 (by kernel_rfl) ?_
      refine Wo.nil ?_
      refine Wp.seq ?_
      refine Wp.region ?_
      refine Wo.pre 3 (by kernel_rfl) ?_
      refine Wo.val _ _ (by kernel_rfl) (en5 (by kernel_rfl)) ?_
      refine Wo.val _ _ (by kernel_rfl) (st5 (by kernel_rfl) (by kernel_rfl)) ?_
      refine Wo.nil ?_
      refine Wp.seq ?_
      refine Wp.seq ?_
      refine Wp.region ?_
      refine Wo.pre 8 (by kernel_rfl) ?_
      refine Wo.pre 8 (by kernel_rfl) ?_
      refine Wo.nil ?_
      refine Wp.cond true (by kernel_rfl) ?_
      refine Wp.seq ?_
      refine Wp.region ?_
      refine Wo.pre 1 (by kernel_rfl) ?_
      refine Wo.val .undef Hz (by kernel_rfl) (sz (by kernel_rfl) (by kernel_rfl)) ?_
      refine Wo.pre 8 (by kernel_rfl) ?_
      refine Wo.nil ?_
      exact Wp.ret ⟨.inr rfl, _, retI LA (by kernel_rfl) (by kernel_rfl), 0, .nils, [], 5, rfl, ⟨by rw [nz]; omega, fun b hb => by rw [kz b (by omega)]; rw [X5.2 b (by omega), k4 b (by omega)]; exact X1.2 b hb⟩, OwnCh.none, rec_none h8 (by unfold certR; split; exact q1; rfl)⟩
    · have pz := q3.ch.parts
      obtain ⟨H5a, H5, X5, n5, g5, en5, st5, _, _⟩ := made2 (h := H4) 70 (z1 := .int .u64 0) (z2 := .nils) (x := .int .u64 (be (l.take 8) : Nat)) (y := z) rfl rfl pz.2.1
      have m5 := X5.1
      have hfew : ps.length < 16777216 := by have := certP_few q1; rw [says_len] at this; exact this
      have hR5 : Rd H5 rb u4 (vL (l.drop 8) 3) := hR4.keep m5 (X5.2 _ hR4.1) (fun a n c e => X5.2 _ (hR4.2.2.1.lt e))
      by_cases hm : vL (l.drop 8) 3 = []
      · rw [hm] at hR5
        obtain ⟨r6, H6, c6, rfl, X6⟩ := may_run (q3.ch.ext X5) (by omega) (be (l.take 8))
        have m6 := X6.1
        have l5 := ld_two g5
        have l6 := ld_two ((X6.2 _ (by omega)).trans g5)
        have gz6 : H6.get h.n = some (.cells 0 70 [.int .u64 0, .nils] 0 false) := by rw [X6.2 _ (by omega), X5.2 _ (by omega), k4 _ n1]; exact g1
        by_cases hmay : mayE ps = true
        · rw [hmay] at c6
          obtain ⟨H7, s7, g7, k7, n7⟩ := fill2 (x := .int .u64 (be (l.take 8) : Nat)) (y := z) gz6 rfl pz.2.1
          have LA : H7.ldg ⟨h.n, 0, 0⟩ (some 2) = some (entV (be (l.take 8)) z) := (ld_two g7).1
          refine Wp.seq ?_
          refine Wp.region ?_
          refine Wo.val _ _ (by kernel_rfl) (en1 _) ?_
          refine Wo.pre 1 (by kernel_rfl) ?_
          refine Wo.nil ?_
          refine Wp.seq ?_
          refine Wp.region ?_
          refine Wo.pre 1 (by kernel_rfl) ?_
          refine Wo.call (by kernel_rfl) (by kernel_rfl) (c2) ?_
          refine Wo.pre 1 (by kernel_rfl) ?_
          refine Wo.nil ?_
          refine Wp.seq ?_
          refine Wp.region ?_
          refine Wo.pre 1 (by kernel_rfl) ?_
          refine Wo.call (by kernel_rfl) (by kernel_rfl) (c3) ?_
          refine Wo.pre 1 (by kernel_rfl) ?_
          refine Wo.pre 1 (by kernel_rfl) ?_
          refine Wo.pre 1 (by kernel_rfl) ?_
          refine Wo.pre 1 (by kernel_rfl) ?_
          refine Wo.pre 1 (by kernel_rfl) ?_
          refine Wo.nil ?_
          refine Wp.seq ?_
          refine Wp.seq ?_
          refine Wp.region ?_
          refine Wo.pre 1 (by kernel_rfl) ?_
          refine Wo.pre 1 (by kernel_rfl) ?_
          refine Wo.nil ?_
          refine Wp.cond false (by kernel_rfl) ?_
          refine Wp.skip ?_
          refine Wp.seq ?_
          refine Wp.region ?_
          refine Wo.pre 1 (by kernel_rfl) ?_
          refine Wo.call (by kernel_rfl) (by kernel_rfl) (c4) ?_
          refine Wo.pre 1 (by kernel_rfl) ?_
          refine Wo.pre 1 (by kernel_rfl) ?_
          refine Wo.pre 1 (by kernel_rfl) ?_
          refine Wo.pre 1 (by kernel_rfl) ?_
          refine Wo.pre 1 (by kernel_rfl) ?_
          refine Wo.nil ?_
          refine Wp.seq ?_
          refine Wp.region ?_
          refine Wo.pre 1 (by kernel_rfl) ?_
          refine Wo.pre 1 (by kernel_rfl) ?_
          refine Wo.val _ _ (by kernel_rfl) (iop_build2 (a := .int .u64 (be (l.take 8) : Nat)) (b := z) (by kernel_rfl) (by kernel_rfl) rfl pz.1) ?_
          refine Wo.val _ _ (by kernel_rfl) (en5 (by kernel_rfl)) ?_
          refine Wo.val _ _ (by kernel_rfl) (st5 (by kernel_rfl) (by kernel_rfl)) ?_
          refine Wo.nil ?_
          refine Wp.seq ?_
          refine Wp.seq ?_
          refine Wp.region ?_
          refine Wo.pre 1 (by kernel_rfl) ?_
          refine Wo.pre 1 (by kernel_rfl) ?_
          refine Wo.pre 1 (by kernel_rfl) ?_
          refine Wo.pre 1 (by kernel_rfl) ?_
          refine Wo.call (by kernel_rfl) (by kernel_rfl) ((left_run hR5)) ?_
          refine Wo.val (.bool false) H5 (by kernel_rfl) (iop_cmp (op := .gtr) (k := .i64) (a := ([] : List UInt8).length) (b := 0) false (by kernel_rfl) (by kernel_rfl) (by simp) (by simp [binInt])) ?_
          refine Wo.pre 1 (by kernel_rfl) ?_
          refine Wo.pre 1 (by kernel_rfl) ?_
          refine Wo.val (entV (be (l.take 8)) z) H5 (by kernel_rfl) (iop_ld (a := ⟨H4.n, 0, 0⟩) (by kernel_rfl) l5.1) ?_
          refine Wo.call (by kernel_rfl) (by kernel_rfl) (c6) ?_
          refine Wo.pre 1 (by kernel_rfl) ?_
          refine Wo.pre 1 (by kernel_rfl) ?_
          refine Wo.nil ?_
          refine Wp.cond false (by kernel_rfl) ?_
          refine Wp.skip ?_
          refine Wp.seq ?_
          refine Wp.region ?_
          refine Wo.val (entV (be (l.take 8)) z) H6 (by kernel_rfl) (iop_ld (a := ⟨H4.n, 0, 0⟩) (by kernel_rfl) l6.1) ?_
          refine Wo.val .undef H7 (by kernel_rfl) (s7 (by kernel_rfl) (by kernel_rfl)) ?_
          refine Wo.pre 1 (by kernel_rfl) ?_
          refine Wo.nil ?_
          exact Wp.ret ⟨.inr rfl, _, retI LA (by kernel_rfl) (by kernel_rfl), be (l.take 8), z, ps, 0, rfl, ⟨by rw [n7]; omega, fun b hb => by rw [k7 b (by omega), X6.2 b (by omega), X5.2 b (by omega), k4 b (by omega)]; exact X1.2 b hb⟩, (((q3.ext X5).ext X6).keepB (rb := h.n) (by omega) ⟨by omega, fun k _ hk => k7 k hk⟩).mono (by omega), rec_may h8 (by rw [certR_of hm]; exact q1) (by rw [← may_says]; exact hmay)⟩
        · have hmay' : mayE ps = false := by simpa using hmay
          rw [hmay'] at c6
          have gz : H6.get h.n = some (.cells 0 70 [.int .u64 0, .nils] 0 false) := gz6
          obtain ⟨Hz, sz, gz', kz, nz⟩ := fill2 (x := .int .u64 0) (y := .nils) gz rfl rfl
          have LA : Hz.ldg ⟨h.n, 0, 0⟩ (some 2) = some (entV 0 .nils) := (ld_two gz').1
          refine Wp.seq ?_
          refine Wp.region ?_
          refine Wo.val _ _ (by kernel_rfl) (en1 _) ?_
          refine Wo.pre 1 (by kernel_rfl) ?_
          refine Wo.nil ?_
          refine Wp.seq ?_
          refine Wp.region ?_
          refine Wo.pre 1 (by kernel_rfl) ?_
          refine Wo.call (by kernel_rfl) (by kernel_rfl) (c2) ?_
          refine Wo.pre 1 (by kernel_rfl) ?_
          refine Wo.nil ?_
          refine Wp.seq ?_
          refine Wp.region ?_
          refine Wo.pre 1 (by kernel_rfl) ?_
          refine Wo.call (by kernel_rfl) (by kernel_rfl) (c3) ?_
          refine Wo.pre 1 (by kernel_rfl) ?_
          refine Wo.pre 1 (by kernel_rfl) ?_
          refine Wo.pre 1 (by kernel_rfl) ?_
          refine Wo.pre 1 (by kernel_rfl) ?_
          refine Wo.pre 1 (by kernel_rfl) ?_
          refine Wo.nil ?_
          refine Wp.seq ?_
          refine Wp.seq ?_
          refine Wp.region ?_
          refine Wo.pre 1 (by kernel_rfl) ?_
          refine Wo.pre 1 (by kernel_rfl) ?_
          refine Wo.nil ?_
          refine Wp.cond false (by kernel_rfl) ?_
          refine Wp.skip ?_
          refine Wp.seq ?_
          refine Wp.region ?_
          refine Wo.pre 1 (by kernel_rfl) ?_
          refine Wo.call (by kernel_rfl) (by kernel_rfl) (c4) ?_
          refine Wo.pre 1 (by kernel_rfl) ?_
          refine Wo.pre 1 (by kernel_rfl) ?_
          refine Wo.pre 1 (by kernel_rfl) ?_
          refine Wo.pre 1 (by kernel_rfl) ?_
          refine Wo.pre 1 (by kernel_rfl) ?_
          refine Wo.nil ?_
          refine Wp.seq ?_
          refine Wp.region ?_
          refine Wo.pre 1 (by kernel_rfl) ?_
          refine Wo.pre 1 (by kernel_rfl) ?_
          refine Wo.val _ _ (by kernel_rfl) (iop_build2 (a := .int .u64 (be (l.take 8) : Nat)) (b := z) (by kernel_rfl) (by kernel_rfl) rfl pz.1) ?_
          refine Wo.val _ _ (by kernel_rfl) (en5 (by kernel_rfl)) ?_
          refine Wo.val _ _ (by kernel_rfl) (st5 (by kernel_rfl) (by kernel_rfl)) ?_
          refine Wo.nil ?_
          refine Wp.seq ?_
          refine Wp.seq ?_
          refine Wp.region ?_
          refine Wo.pre 1 (by kernel_rfl) ?_
          refine Wo.pre 1 (by kernel_rfl) ?_
          refine Wo.pre 1 (by kernel_rfl) ?_
          refine Wo.pre 1 (by kernel_rfl) ?_
          refine Wo.call (by kernel_rfl) (by kernel_rfl) ((left_run hR5)) ?_
          refine Wo.val (.bool false) H5 (by kernel_rfl) (iop_cmp (op := .gtr) (k := .i64) (a := ([] : List UInt8).length) (b := 0) false (by kernel_rfl) (by kernel_rfl) (by simp) (by simp [binInt])) ?_
          refine Wo.pre 1 (by kernel_rfl) ?_
          refine Wo.pre 1 (by kernel_rfl) ?_
          refine Wo.val (entV (be (l.take 8)) z) H5 (by kernel_rfl) (iop_ld (a := ⟨H4.n, 0, 0⟩) (by kernel_rfl) l5.1) ?_
          refine Wo.call (by kernel_rfl) (by kernel_rfl) (c6) ?_
          refine Wo.pre 1 (by kernel_rfl) ?_
          refine Wo.pre 1 (by kernel_rfl) ?_
          refine Wo.nil ?_
          refine Wp.cond true (by kernel_rfl) ?_
          refine Wp.seq ?_
          refine Wp.region ?_
          refine Wo.pre 1 (by kernel_rfl) ?_
          refine Wo.val .undef Hz (by kernel_rfl) (sz (by kernel_rfl) (by kernel_rfl)) ?_
          refine Wo.pre 1 (by kernel_rfl) ?_
          refine Wo.nil ?_
          exact Wp.ret ⟨.inr rfl, _, retI LA (by kernel_rfl) (by kernel_rfl), 0, .nils, [], 5, rfl, ⟨by rw [nz]; omega, fun b hb => by rw [kz b (by omega)]; rw [X6.2 b (by omega), X5.2 b (by omega), k4 b (by omega)]; exact X1.2 b hb⟩, OwnCh.none, rec_not h8 (by rw [certR_of hm]; exact q1) (by rw [← may_says]; exact hmay)⟩
      · have hpos : 0 < (vL (l.drop 8) 3).length := List.length_pos_iff.2 hm
        have gz : H5.get h.n = some (.cells 0 70 [.int .u64 0, .nils] 0 false) := by rw [X5.2 _ (by omega), k4 _ n1]; exact g1
        obtain ⟨Hz, sz, gz', kz, nz⟩ := fill2 (x := .int .u64 0) (y := .nils) gz rfl rfl
        have LA : Hz.ldg ⟨h.n, 0, 0⟩ (some 2) = some (entV 0 .nils) := (ld_two gz').1
        refine Wp.seq ?_
        refine Wp.region ?_
        refine Wo.val _ _ (by kernel_rfl) (en1 _) ?_
        refine Wo.pre 1 (by kernel_rfl) ?_
        refine Wo.nil ?_
        refine Wp.seq ?_
        refine Wp.region ?_
        refine Wo.pre 1 (by kernel_rfl) ?_
        refine Wo.call (by kernel_rfl) (by kernel_rfl) (c2) ?_
        refine Wo.pre 1 (by kernel_rfl) ?_
        refine Wo.nil ?_
        refine Wp.seq ?_
        refine Wp.region ?_
        refine Wo.pre 1 (by kernel_rfl) ?_
        refine Wo.call (by kernel_rfl) (by kernel_rfl) (c3) ?_
        refine Wo.pre 1 (by kernel_rfl) ?_
        refine Wo.pre 1 (by kernel_rfl) ?_
        refine Wo.pre 1 (by kernel_rfl) ?_
        refine Wo.pre 1 (by kernel_rfl) ?_
        refine Wo.pre 1 (by kernel_rfl) ?_
        refine Wo.nil ?_
        refine Wp.seq ?_
        refine Wp.seq ?_
        refine Wp.region ?_
        refine Wo.pre 1 (by kernel_rfl) ?_
        refine Wo.pre 1 (by kernel_rfl) ?_
        refine Wo.nil ?_
        refine Wp.cond false (by kernel_rfl) ?_
        refine Wp.skip ?_
        refine Wp.seq ?_
        refine Wp.region ?_
        refine Wo.pre 1 (by kernel_rfl) ?_
        refine Wo.call (by kernel_rfl) (by kernel_rfl) (c4) ?_
        refine Wo.pre 1 (by kernel_rfl) ?_
        refine Wo.pre 1 (by kernel_rfl) ?_
        refine Wo.pre 1 (by kernel_rfl) ?_
        refine Wo.pre 1 (by kernel_rfl) ?_
        refine Wo.pre 1 (by kernel_rfl) ?_
        refine Wo.nil ?_
        refine Wp.seq ?_
        refine Wp.region ?_
        refine Wo.pre 1 (by kernel_rfl) ?_
        refine Wo.pre 1 (by kernel_rfl) ?_
        refine Wo.val _ _ (by kernel_rfl) (iop_build2 (a := .int .u64 (be (l.take 8) : Nat)) (b := z) (by kernel_rfl) (by kernel_rfl) rfl pz.1) ?_
        refine Wo.val _ _ (by kernel_rfl) (en5 (by kernel_rfl)) ?_
        refine Wo.val _ _ (by kernel_rfl) (st5 (by kernel_rfl) (by kernel_rfl)) ?_
        refine Wo.nil ?_
        refine Wp.seq ?_
        refine Wp.seq ?_
        refine Wp.region ?_
        refine Wo.pre 1 (by kernel_rfl) ?_
        refine Wo.pre 1 (by kernel_rfl) ?_
        refine Wo.pre 1 (by kernel_rfl) ?_
        refine Wo.pre 1 (by kernel_rfl) ?_
        refine Wo.call (by kernel_rfl) (by kernel_rfl) ((left_run hR5)) ?_
        refine Wo.val (.bool true) H5 (by kernel_rfl) (iop_cmp (op := .gtr) (k := .i64) (a := (vL (l.drop 8) 3).length) (b := 0) true (by kernel_rfl) (by kernel_rfl) (by simp) (by simp [binInt, hpos])) ?_
        refine Wo.pre 1 (by kernel_rfl) ?_
        refine Wo.pre 1 (by kernel_rfl) ?_
        refine Wo.pre 1 (by kernel_rfl) ?_
        refine Wo.pre 1 (by kernel_rfl) ?_
        refine Wo.pre 1 (by kernel_rfl) ?_
        refine Wo.pre 1 (by kernel_rfl) ?_
        refine Wo.nil ?_
        refine Wp.cond true (by kernel_rfl) ?_
        refine Wp.seq ?_
        refine Wp.region ?_
        refine Wo.pre 1 (by kernel_rfl) ?_
        refine Wo.val .undef Hz (by kernel_rfl) (sz (by kernel_rfl) (by kernel_rfl)) ?_
        refine Wo.pre 1 (by kernel_rfl) ?_
        refine Wo.nil ?_
        exact Wp.ret ⟨.inr rfl, _, retI LA (by kernel_rfl) (by kernel_rfl), 0, .nils, [], 5, rfl, ⟨by rw [nz]; omega, fun b hb => by rw [kz b (by omega)]; rw [X5.2 b (by omega), k4 b (by omega)]; exact X1.2 b hb⟩, OwnCh.none, rec_none h8 (certR_more hm)⟩
  · rw [rd8_bad h8] at c3
    have gz : H3.get h.n = some (.cells 0 70 [.int .u64 0, .nils] 0 false) := by rw [k3 _ n1]; exact g1
    obtain ⟨Hz, sz, gz', kz, nz⟩ := fill2 (x := .int .u64 0) (y := .nils) gz rfl rfl
    have LA : Hz.ldg ⟨h.n, 0, 0⟩ (some 2) = some (entV 0 .nils) := (ld_two gz').1
    refine Wp.seq ?_
    refine Wp.region ?_
    refine Wo.val _ _ (by kernel_rfl) (en1 _) ?_
    refine Wo.pre 8 (by kernel_rfl) ?_
    refine Wo.nil ?_
    refine Wp.seq ?_
    refine Wp.region ?_
    refine Wo.pre 1 (by kernel_rfl) ?_
    refine Wo.call (by kernel_rfl) (by kernel_rfl) (c2) ?_
    refine Wo.pre 8 (by kernel_rfl) ?_
    refine Wo.nil ?_
    refine Wp.seq ?_
    refine Wp.region ?_
    refine Wo.pre 1 (by kernel_rfl) ?_
    refine Wo.call (by kernel_rfl) (by kernel_rfl) (c3) ?_
    refine Wo.pre 8 (by kernel_rfl) ?_
    refine Wo.nil ?_
    refine Wp.seq ?_
    refine Wp.seq ?_
    refine Wp.region ?_
    refine Wo.pre 8 (by kernel_rfl) ?_
    refine Wo.nil ?_
    refine Wp.cond true (by kernel_rfl) ?_
    refine Wp.seq ?_
    refine Wp.region ?_
    refine Wo.pre 1 (by kernel_rfl) ?_
    refine Wo.val .undef Hz (by kernel_rfl) (sz (by kernel_rfl) (by kernel_rfl)) ?_
    refine Wo.pre 8 (by kernel_rfl) ?_
    refine Wo.nil ?_
    exact Wp.ret ⟨.inr rfl, _, retI LA (by kernel_rfl) (by kernel_rfl), 0, .nils, [], 5, rfl, ⟨by rw [nz]; omega, fun b hb => by rw [kz b (by omega)]; rw [k3 b (by omega)]; exact X1.2 b hb⟩, OwnCh.none, rec_bad h8⟩

set_option maxHeartbeats 4000000 in
theorem rtakerec_run {h : H} {y : AV} {l : List UInt8} (hy : Bs h y l) (hok : Cok y) (hl : l.length ≤ maxRow) : ∃ r h', Runs TF 55 [y] h r h' ∧ ∃ t z ps E, r = .tup [entV t z, .int .i64 E] ∧ Ext h h' ∧ OwnCh h.n h' z ps ∧ recOf l = (t, says ps, E) := by
  refine Runs.ofP f55 rfl ?_
  have hmx : 200000000000000 = maxRow := rfl
  have o3 : ∀ k i, (AV.int k i).one = true := fun _ _ => rfl
  obtain ⟨H1, hH1⟩ : ∃ H1, H1 = h.new (.cells 0 70 [.int .u64 0, .nils] 0 false) := ⟨_, rfl⟩
  have X1 : Ext h H1 := by rw [hH1]; exact Ext.new _ _
  have n1 : h.n < H1.n := by rw [hH1]; simp
  have g1 : H1.get h.n = some (.cells 0 70 [.int .u64 0, .nils] 0 false) := by rw [hH1]; exact h.get_new _
  have en1 : ∀ ts, iop (.new 70 (.c (.agg [.int .u64 0, .nils]))) (ev ts) h = some (.val (.ptr ⟨h.n, 0, 0⟩) H1) := fun ts => by rw [hH1]; exact iop_new (by kernel_rfl) rfl
  have hy1 := hy.ext X1
  have m1 := X1.1
  by_cases h8 : 8 ≤ l.length
  · obtain ⟨y8, a1, a2, a3⟩ := hy1.take hok (n := 8) h8
    have ht8 : (l.take 8).length = 8 := by rw [List.length_take]; omega
    obtain ⟨H2, rb, u, c2, hrb, hR2, X2, hub⟩ := rrnew_run a2 (by omega)
    obtain ⟨H3, u3, c3, hR3, E3, s3⟩ := rrnum_any hR2 8 (by omega)
    obtain ⟨e1, e2, e3⟩ := rd8_good (l := l.take 8) (by omega)
    rw [e1, e2, List.take_take, Nat.min_self] at c3
    have m2 := X2.1
    have m3 := E3.1
    have X3 : Ext H1 H3 := ⟨by omega, fun b hb => by rw [E3.2 b (by omega) (by omega)]; exact X2.2 b hb⟩
    obtain ⟨yd, b1, b2, b3, _⟩ := (hy1.ext X3).drop hok (n := 8) h8
    have hd8 : (l.drop 8).length ≤ maxRow := by rw [List.length_drop]; omega
    obtain ⟨r4, H4, c4, z, ok, rfl, X4, hz⟩ := rcerts_run b2 hd8
    have m4 := X4.1
    have k4 : ∀ b, b < H1.n → H4.get b = H1.get b := fun b hb => by rw [X4.2 b (by omega)]; exact X3.2 b hb
    rcases hz with ⟨q1, rfl, rfl⟩ | ⟨ps, q1, rfl, q3⟩
    · obtain ⟨H5a, H5, X5, n5, g5, en5, st5, _, _⟩ := made2 (h := H4) 70 (z1 := .int .u64 0) (z2 := .nils) (x := .int .u64 (be (l.take 8) : Nat)) (y := .nils) rfl rfl rfl
      have m5 := X5.1
      have gz : H5.get h.n = some (.cells 0 70 [.int .u64 0, .nils] 0 false) := by rw [X5.2 _ (by omega), k4 _ n1]; exact g1
      obtain ⟨Hz, sz, gz', kz, nz⟩ := fill2 (x := .int .u64 0) (y := .nils) gz rfl rfl
      have LA : Hz.ldg ⟨h.n, 0, 0⟩ (some 2) = some (entV 0 .nils) := (ld_two gz').1
      refine Wp.seq ?_
      refine Wp.region ?_
      refine Wo.val _ _ (by kernel_rfl) (en1 _) ?_
      refine Wo.pre 1 (by kernel_rfl) ?_
      refine Wo.nil ?_
      refine Wp.seq ?_
      refine Wp.seq ?_
      refine Wp.region ?_
      refine Wo.pre 1 (by kernel_rfl) ?_
      refine Wo.val (.int .i64 l.length) H1 (by kernel_rfl) ((hy1.len (by kernel_rfl))) ?_
      refine Wo.val (.bool false) H1 (by kernel_rfl) (iop_cmp (op := .lss) (k := .i64) (a := l.length) (b := 8) false (by kernel_rfl) (by kernel_rfl) (by simp) (by simp [binInt]; omega)) ?_
      refine Wo.nil ?_
      refine Wp.cond false (by kernel_rfl) ?_
      refine Wp.skip ?_
      refine Wp.seq ?_
      refine Wp.region ?_
      refine Wo.pre 1 (by kernel_rfl) ?_
      refine Wo.val y8 H1 (by kernel_rfl) (a1 _ _ _ (by kernel_rfl) (by kernel_rfl)) ?_
      refine Wo.call (by kernel_rfl) (by kernel_rfl) (c2) ?_
      refine Wo.pre 1 (by kernel_rfl) ?_
      refine Wo.nil ?_
      refine Wp.seq ?_
      refine Wp.region ?_
      refine Wo.pre 1 (by kernel_rfl) ?_
      refine Wo.call (by kernel_rfl) (by kernel_rfl) (c3) ?_
      refine Wo.pre 1 (by kernel_rfl) ?_
      refine Wo.pre 1 (by kernel_rfl) ?_
      refine Wo.pre 1 (by kernel_rfl) ?_
      refine Wo.pre 1 (by kernel_rfl) ?_
      refine Wo.pre 1 (by kernel_rfl) ?_
      refine Wo.nil ?_
      refine Wp.seq ?_
      refine Wp.region ?_
      refine Wo.pre 1 (by kernel_rfl) ?_
      refine Wo.val yd H3 (by kernel_rfl) (b1 _ _ _ (by kernel_rfl) (by kernel_rfl)) ?_
      refine Wo.call (by kernel_rfl) (by kernel_rfl) (c4) ?_
      refine Wo.pre 1 (by kernel_rfl) ?_
      refine Wo.pre 1 (by kernel_rfl) ?_
      refine Wo.pre 1 (by kernel_rfl) ?_
      refine Wo.pre 1 (by kernel_rfl) ?_
      refine Wo.pre 1 (by kernel_rfl) ?_
      refine Wo.nil ?_
      refine Wp.seq ?_
      refine Wp.region ?_
      refine Wo.pre 1 (by kernel_rfl) ?_
      refine Wo.pre 1 (by kernel_rfl) ?_
      refine Wo.pre 1 (by kernel_rfl) ?_
      refine Wo.val _ _ (by kernel_rfl) (en5 (by kernel_rfl)) ?_
      refine Wo.val _ _ (by kernel_rfl) (st5 (by kernel_rfl) (by kernel_rfl)) ?_
      refine Wo.nil ?_
      refine Wp.seq ?_
      refine Wp.seq ?_
      refine Wp.region ?_
      refine Wo.pre 1 (by kernel_rfl) ?_
      refine Wo.pre 1 (by kernel_rfl) ?_
      refine Wo.pre 1 (by kernel_rfl) ?_
      refine Wo.pre 1 (by kernel_rfl) ?_
      refine Wo.pre 1 (by kernel_rfl) ?_
      refine Wo.pre 1 (by kernel_rfl) ?_
      refine Wo.pre 1 (by kernel_rfl) ?_
      refine Wo.nil ?_
      refine Wp.cond true (by kernel_rfl) ?_
      refine Wp.seq ?_
      refine Wp.region ?_
      refine Wo.pre 1 (by kernel_rfl) ?_
      refine Wo.val .undef Hz (by kernel_rfl) (sz (by kernel_rfl) (by kernel_rfl)) ?_
      refine Wo.pre 1 (by kernel_rfl) ?_
      refine Wo.nil ?_
      exact Wp.ret ⟨.inr rfl, _, retI LA (by kernel_rfl) (by kernel_rfl), 0, .nils, [], 5, rfl, ⟨by rw [nz]; omega, fun b hb => by rw [kz b (by omega)]; rw [X5.2 b (by omega), k4 b (by omega)]; exact X1.2 b hb⟩, OwnCh.none, rec_none h8 q1⟩
    · have pz := q3.ch.parts
      obtain ⟨H5a, H5, X5, n5, g5, en5, st5, _, _⟩ := made2 (h := H4) 70 (z1 := .int .u64 0) (z2 := .nils) (x := .int .u64 (be (l.take 8) : Nat)) (y := z) rfl rfl pz.2.1
      have m5 := X5.1
      have hfew : ps.length < 16777216 := by have := certR_few q1; rw [says_len] at this; exact this
      obtain ⟨r6, H6, c6, rfl, X6⟩ := rmay_run (q3.ch.ext X5) (by omega) (be (l.take 8))
      have m6 := X6.1
      have l5 := ld_two g5
      have l6 := ld_two ((X6.2 _ (by omega)).trans g5)
      have gz6 : H6.get h.n = some (.cells 0 70 [.int .u64 0, .nils] 0 false) := by rw [X6.2 _ (by omega), X5.2 _ (by omega), k4 _ n1]; exact g1
      by_cases hmay : mayE ps = true
      · rw [hmay] at c6
        obtain ⟨H7, s7, g7, k7, n7⟩ := fill2 (x := .int .u64 (be (l.take 8) : Nat)) (y := z) gz6 rfl pz.2.1
        have LA : H7.ldg ⟨h.n, 0, 0⟩ (some 2) = some (entV (be (l.take 8)) z) := (ld_two g7).1
        refine Wp.seq ?_
        refine Wp.region ?_
        refine Wo.val _ _ (by kernel_rfl) (en1 _) ?_
        refine Wo.pre 1 (by kernel_rfl) ?_
        refine Wo.nil ?_
        refine Wp.seq ?_
        refine Wp.seq ?_
        refine Wp.region ?_
        refine Wo.pre 1 (by kernel_rfl) ?_
        refine Wo.val (.int .i64 l.length) H1 (by kernel_rfl) ((hy1.len (by kernel_rfl))) ?_
        refine Wo.val (.bool false) H1 (by kernel_rfl) (iop_cmp (op := .lss) (k := .i64) (a := l.length) (b := 8) false (by kernel_rfl) (by kernel_rfl) (by simp) (by simp [binInt]; omega)) ?_
        refine Wo.nil ?_
        refine Wp.cond false (by kernel_rfl) ?_
        refine Wp.skip ?_
        refine Wp.seq ?_
        refine Wp.region ?_
        refine Wo.pre 1 (by kernel_rfl) ?_
        refine Wo.val y8 H1 (by kernel_rfl) (a1 _ _ _ (by kernel_rfl) (by kernel_rfl)) ?_
        refine Wo.call (by kernel_rfl) (by kernel_rfl) (c2) ?_
        refine Wo.pre 1 (by kernel_rfl) ?_
        refine Wo.nil ?_
        refine Wp.seq ?_
        refine Wp.region ?_
        refine Wo.pre 1 (by kernel_rfl) ?_
        refine Wo.call (by kernel_rfl) (by kernel_rfl) (c3) ?_
        refine Wo.pre 1 (by kernel_rfl) ?_
        refine Wo.pre 1 (by kernel_rfl) ?_
        refine Wo.pre 1 (by kernel_rfl) ?_
        refine Wo.pre 1 (by kernel_rfl) ?_
        refine Wo.pre 1 (by kernel_rfl) ?_
        refine Wo.nil ?_
        refine Wp.seq ?_
        refine Wp.region ?_
        refine Wo.pre 1 (by kernel_rfl) ?_
        refine Wo.val yd H3 (by kernel_rfl) (b1 _ _ _ (by kernel_rfl) (by kernel_rfl)) ?_
        refine Wo.call (by kernel_rfl) (by kernel_rfl) (c4) ?_
        refine Wo.pre 1 (by kernel_rfl) ?_
        refine Wo.pre 1 (by kernel_rfl) ?_
        refine Wo.pre 1 (by kernel_rfl) ?_
        refine Wo.pre 1 (by kernel_rfl) ?_
        refine Wo.pre 1 (by kernel_rfl) ?_
        refine Wo.nil ?_
        refine Wp.seq ?_
        refine Wp.region ?_
        refine Wo.pre 1 (by kernel_rfl) ?_
        refine Wo.pre 1 (by kernel_rfl) ?_
        refine Wo.val _ _ (by kernel_rfl) (iop_build2 (a := .int .u64 (be (l.take 8) : Nat)) (b := z) (by kernel_rfl) (by kernel_rfl) rfl pz.1) ?_
        refine Wo.val _ _ (by kernel_rfl) (en5 (by kernel_rfl)) ?_
        refine Wo.val _ _ (by kernel_rfl) (st5 (by kernel_rfl) (by kernel_rfl)) ?_
        refine Wo.nil ?_
        refine Wp.seq ?_
        refine Wp.seq ?_
        refine Wp.region ?_
        refine Wo.pre 1 (by kernel_rfl) ?_
        refine Wo.pre 1 (by kernel_rfl) ?_
        refine Wo.pre 1 (by kernel_rfl) ?_
        refine Wo.val (entV (be (l.take 8)) z) H5 (by kernel_rfl) (iop_ld (a := ⟨H4.n, 0, 0⟩) (by kernel_rfl) l5.1) ?_
        refine Wo.call (by kernel_rfl) (by kernel_rfl) (c6) ?_
        refine Wo.pre 1 (by kernel_rfl) ?_
        refine Wo.pre 1 (by kernel_rfl) ?_
        refine Wo.nil ?_
        refine Wp.cond false (by kernel_rfl) ?_
        refine Wp.skip ?_
        refine Wp.seq ?_
        refine Wp.region ?_
        refine Wo.val (entV (be (l.take 8)) z) H6 (by kernel_rfl) (iop_ld (a := ⟨H4.n, 0, 0⟩) (by kernel_rfl) l6.1) ?_
        refine Wo.val .undef H7 (by kernel_rfl) (s7 (by kernel_rfl) (by kernel_rfl)) ?_
        refine Wo.pre 1 (by kernel_rfl) ?_
        refine Wo.nil ?_
        exact Wp.ret ⟨.inr rfl, _, retI LA (by kernel_rfl) (by kernel_rfl), be (l.take 8), z, ps, 0, rfl, ⟨by rw [n7]; omega, fun b hb => by rw [k7 b (by omega), X6.2 b (by omega), X5.2 b (by omega), k4 b (by omega)]; exact X1.2 b hb⟩, (((q3.ext X5).ext X6).keepB (rb := h.n) (by omega) ⟨by omega, fun k _ hk => k7 k hk⟩).mono (by omega), rec_may h8 q1 (by rw [← may_says]; exact hmay)⟩
      · have hmay' : mayE ps = false := by simpa using hmay
        rw [hmay'] at c6
        have gz : H6.get h.n = some (.cells 0 70 [.int .u64 0, .nils] 0 false) := gz6
        obtain ⟨Hz, sz, gz', kz, nz⟩ := fill2 (x := .int .u64 0) (y := .nils) gz rfl rfl
        have LA : Hz.ldg ⟨h.n, 0, 0⟩ (some 2) = some (entV 0 .nils) := (ld_two gz').1
        refine Wp.seq ?_
        refine Wp.region ?_
        refine Wo.val _ _ (by kernel_rfl) (en1 _) ?_
        refine Wo.pre 1 (by kernel_rfl) ?_
        refine Wo.nil ?_
        refine Wp.seq ?_
        refine Wp.seq ?_
        refine Wp.region ?_
        refine Wo.pre 1 (by kernel_rfl) ?_
        refine Wo.val (.int .i64 l.length) H1 (by kernel_rfl) ((hy1.len (by kernel_rfl))) ?_
        refine Wo.val (.bool false) H1 (by kernel_rfl) (iop_cmp (op := .lss) (k := .i64) (a := l.length) (b := 8) false (by kernel_rfl) (by kernel_rfl) (by simp) (by simp [binInt]; omega)) ?_
        refine Wo.nil ?_
        refine Wp.cond false (by kernel_rfl) ?_
        refine Wp.skip ?_
        refine Wp.seq ?_
        refine Wp.region ?_
        refine Wo.pre 1 (by kernel_rfl) ?_
        refine Wo.val y8 H1 (by kernel_rfl) (a1 _ _ _ (by kernel_rfl) (by kernel_rfl)) ?_
        refine Wo.call (by kernel_rfl) (by kernel_rfl) (c2) ?_
        refine Wo.pre 1 (by kernel_rfl) ?_
        refine Wo.nil ?_
        refine Wp.seq ?_
        refine Wp.region ?_
        refine Wo.pre 1 (by kernel_rfl) ?_
        refine Wo.call (by kernel_rfl) (by kernel_rfl) (c3) ?_
        refine Wo.pre 1 (by kernel_rfl) ?_
        refine Wo.pre 1 (by kernel_rfl) ?_
        refine Wo.pre 1 (by kernel_rfl) ?_
        refine Wo.pre 1 (by kernel_rfl) ?_
        refine Wo.pre 1 (by kernel_rfl) ?_
        refine Wo.nil ?_
        refine Wp.seq ?_
        refine Wp.region ?_
        refine Wo.pre 1 (by kernel_rfl) ?_
        refine Wo.val yd H3 (by kernel_rfl) (b1 _ _ _ (by kernel_rfl) (by kernel_rfl)) ?_
        refine Wo.call (by kernel_rfl) (by kernel_rfl) (c4) ?_
        refine Wo.pre 1 (by kernel_rfl) ?_
        refine Wo.pre 1 (by kernel_rfl) ?_
        refine Wo.pre 1 (by kernel_rfl) ?_
        refine Wo.pre 1 (by kernel_rfl) ?_
        refine Wo.pre 1 (by kernel_rfl) ?_
        refine Wo.nil ?_
        refine Wp.seq ?_
        refine Wp.region ?_
        refine Wo.pre 1 (by kernel_rfl) ?_
        refine Wo.pre 1 (by kernel_rfl) ?_
        refine Wo.val _ _ (by kernel_rfl) (iop_build2 (a := .int .u64 (be (l.take 8) : Nat)) (b := z) (by kernel_rfl) (by kernel_rfl) rfl pz.1) ?_
        refine Wo.val _ _ (by kernel_rfl) (en5 (by kernel_rfl)) ?_
        refine Wo.val _ _ (by kernel_rfl) (st5 (by kernel_rfl) (by kernel_rfl)) ?_
        refine Wo.nil ?_
        refine Wp.seq ?_
        refine Wp.seq ?_
        refine Wp.region ?_
        refine Wo.pre 1 (by kernel_rfl) ?_
        refine Wo.pre 1 (by kernel_rfl) ?_
        refine Wo.pre 1 (by kernel_rfl) ?_
        refine Wo.val (entV (be (l.take 8)) z) H5 (by kernel_rfl) (iop_ld (a := ⟨H4.n, 0, 0⟩) (by kernel_rfl) l5.1) ?_
        refine Wo.call (by kernel_rfl) (by kernel_rfl) (c6) ?_
        refine Wo.pre 1 (by kernel_rfl) ?_
        refine Wo.pre 1 (by kernel_rfl) ?_
        refine Wo.nil ?_
        refine Wp.cond true (by kernel_rfl) ?_
        refine Wp.seq ?_
        refine Wp.region ?_
        refine Wo.pre 1 (by kernel_rfl) ?_
        refine Wo.val .undef Hz (by kernel_rfl) (sz (by kernel_rfl) (by kernel_rfl)) ?_
        refine Wo.pre 1 (by kernel_rfl) ?_
        refine Wo.nil ?_
        exact Wp.ret ⟨.inr rfl, _, retI LA (by kernel_rfl) (by kernel_rfl), 0, .nils, [], 5, rfl, ⟨by rw [nz]; omega, fun b hb => by rw [kz b (by omega)]; rw [X6.2 b (by omega), X5.2 b (by omega), k4 b (by omega)]; exact X1.2 b hb⟩, OwnCh.none, rec_not h8 q1 (by rw [← may_says]; exact hmay)⟩
  · skip
    have gz : H1.get h.n = some (.cells 0 70 [.int .u64 0, .nils] 0 false) := g1
    obtain ⟨Hz, sz, gz', kz, nz⟩ := fill2 (x := .int .u64 0) (y := .nils) gz rfl rfl
    have LA : Hz.ldg ⟨h.n, 0, 0⟩ (some 2) = some (entV 0 .nils) := (ld_two gz').1
    refine Wp.seq ?_
    refine Wp.region ?_
    refine Wo.val _ _ (by kernel_rfl) (en1 _) ?_
    refine Wo.pre 1 (by kernel_rfl) ?_
    refine Wo.nil ?_
    refine Wp.seq ?_
    refine Wp.seq ?_
    refine Wp.region ?_
    refine Wo.pre 1 (by kernel_rfl) ?_
    refine Wo.val (.int .i64 l.length) H1 (by kernel_rfl) ((hy1.len (by kernel_rfl))) ?_
    refine Wo.val (.bool true) H1 (by kernel_rfl) (iop_cmp (op := .lss) (k := .i64) (a := l.length) (b := 8) true (by kernel_rfl) (by kernel_rfl) (by simp) (by simp [binInt]; omega)) ?_
    refine Wo.nil ?_
    refine Wp.cond true (by kernel_rfl) ?_
    refine Wp.seq ?_
    refine Wp.region ?_
    refine Wo.pre 1 (by kernel_rfl) ?_
    refine Wo.val .undef Hz (by kernel_rfl) (sz (by kernel_rfl) (by kernel_rfl)) ?_
    refine Wo.pre 1 (by kernel_rfl) ?_
    refine Wo.nil ?_
    exact Wp.ret ⟨.inr rfl, _, retI LA (by kernel_rfl) (by kernel_rfl), 0, .nils, [], 5, rfl, ⟨by rw [nz]; omega, fun b hb => by rw [kz b (by omega)]; exact X1.2 b hb⟩, OwnCh.none, rec_bad h8⟩
end Go.Det

/- Items read: the plain law; chains that are appended to. -/
set_option linter.unusedVariables false
set_option linter.unusedSimpArgs false
namespace Go.Det
open Go.Proofs

theorem rd_app {p : List UInt8} {size : Int} (hp : (p.length : Int) = size) (hs : 1 ≤ size ∧ size ≤ 4 ∨ size = 8) (m : List UInt8) : rdE (p ++ m) size = 0 ∧ rdV (p ++ m) size = be p ∧ rdL (p ++ m) size = m := by
  have e : rdE (p ++ m) size = 0 := by
    unfold rdE
    rw [if_neg (by simp [hs]), if_neg (by rw [List.length_append]; omega)]
  have et : size.toNat = p.length := by omega
  exact ⟨e, by rw [rdV, if_pos e, et, List.take_left], by rw [rdL, if_pos e, et, List.drop_left]⟩

/-- The program's reading of a leaf. -/
def pE (lf ex : List UInt8) : Prop := rdE lf 2 = 0 ∧ rdE (rdL lf 2) 8 = 0 ∧ rdE (rdL (rdL lf 2) 8) 2 = 0 ∧ vE (rdL (rdL (rdL lf 2) 8) 2) 3 = 0 ∧ (certP ex).isSome = true
def pT (lf : List UInt8) : Nat := rdV (rdL lf 2) 8
def pX (lf : List UInt8) : List UInt8 := vX (rdL (rdL (rdL lf 2) 8) 2) 3

theorem leaf_app (t : Nat) (c : List UInt8) : leafB t c = [0, 0] ++ (digits t 8 8 ++ ([0, 0] ++ (certB c ++ [0, 0]))) := by simp only [leafB, certB, List.append_assoc]

theorem certP_may {l : List (List UInt8)} {c : List UInt8} (h : mayS (c :: l) = true) : certP (listS l) = some l ∧ certR (listS l) = some l := by
  obtain ⟨h1, h2, h3⟩ := mayS_small h
  have hl : ∀ x ∈ l, x.length ≤ 512 := fun x hx => (h3 x (by simp [hx])).2
  have h4 := innerS_le l hl
  have h5 : l.length ≤ 3 := by simpa using h2
  have e := certR_enc (cs := l) (fun x hx => by have := hl x hx; omega) (by omega)
  have e' := e
  unfold certR at e'
  split at e'
  · exact ⟨e', e⟩
  · cases e'

theorem prog_dec {t : Nat} (ht : t < 2 ^ 64) {c : List UInt8} {l : List (List UInt8)} (hm : mayS (c :: l) = true) : pE (leafB t c) (listS l) ∧ pT (leafB t c) = t ∧ pX (leafB t c) = c := by
  obtain ⟨h1, h2, h3⟩ := mayS_small hm
  have hc := (h3 c (by simp)).2
  have a1 := rd_app (p := [0, 0]) (size := 2) rfl (by omega) (digits t 8 8 ++ ([0, 0] ++ (certB c ++ [0, 0])))
  have a2 := rd_app (p := digits t 8 8) (size := 8) (by rw [digits_len]; rfl) (by omega) ([0, 0] ++ (certB c ++ [0, 0]))
  have a3 := rd_app (p := [0, 0]) (size := 2) rfl (by omega) (certB c ++ [0, 0])
  have a4 := dec3 (c := c) (by omega) [0, 0]
  have h256 : t < 256 ^ 8 := by rw [show 256 ^ 8 = 2 ^ 64 by decide]; exact ht
  rw [leaf_app]
  unfold pE pT pX
  rw [a1.2.2, a2.2.2, a3.2.2, (certP_may hm).1, a2.2.1, be_dig' h256]
  exact ⟨⟨a1.1, a2.1, a3.1, a4.1, rfl⟩, rfl, a4.2.1⟩

/-- An item's entry. -/
def itemC (lf : List UInt8) : List UInt8 := (lf.take (lf.length - 2)).drop 15
def itemT (lf : List UInt8) : Nat := be ((lf.take 10).drop 2)
def itemOf (lf ex : List UInt8) : Nat × List (List UInt8) × Int :=
  match (if 17 ≤ lf.length then certR ex else none) with
  | some l => if mayS (itemC lf :: l) = true ∧ leafB (itemT lf) (itemC lf) = lf then (itemT lf, itemC lf :: l, 0) else (0, [], 5)
  | none => (0, [], 5)
theorem item_short {lf ex : List UInt8} (h : ¬ 17 ≤ lf.length) : itemOf lf ex = (0, [], 5) := by simp [itemOf, h]
theorem item_none {lf ex : List UInt8} (h : 17 ≤ lf.length) (h2 : certR ex = none) : itemOf lf ex = (0, [], 5) := by simp [itemOf, h, h2]
theorem item_some {lf ex : List UInt8} {l : List (List UInt8)} (h : 17 ≤ lf.length) (h2 : certR ex = some l) : itemOf lf ex = if mayS (itemC lf :: l) = true ∧ leafB (itemT lf) (itemC lf) = lf then (itemT lf, itemC lf :: l, 0) else (0, [], 5) := by simp [itemOf, h, h2]

theorem item_enc {t : Nat} (ht : t < 2 ^ 64) {c : List UInt8} {l : List (List UInt8)} (hm : mayS (c :: l) = true) : itemOf (leafB t c) (listS l) = (t, c :: l, 0) := by
  have h256 : t < 256 ^ 8 := by rw [show 256 ^ 8 = 2 ^ 64 by decide]; exact ht
  have hlen : (leafB t c).length = 17 + c.length := by simp only [leafB, List.length_append, digits_len, List.length_cons, List.length_nil]; omega
  have e1 : itemT (leafB t c) = t := by
    have a : leafB t c = ([0, 0] ++ digits t 8 8) ++ ([0, 0] ++ (certB c ++ [0, 0])) := by rw [leaf_app]; simp only [List.append_assoc]
    have b : (([0, 0] : List UInt8) ++ digits t 8 8).length = 10 := by rw [List.length_append, digits_len]; rfl
    rw [itemT, a, List.take_left' b]
    have d : (([0, 0] : List UInt8) ++ digits t 8 8).drop 2 = digits t 8 8 := List.drop_left' rfl
    rw [d, be_dig' h256]
  have e2 : itemC (leafB t c) = c := by
    have a : leafB t c = ([0, 0] ++ digits t 8 8 ++ [0, 0] ++ digits c.length 3 3 ++ c) ++ [0, 0] := by simp only [leafB, List.append_assoc]
    have b : (([0, 0] : List UInt8) ++ digits t 8 8 ++ [0, 0] ++ digits c.length 3 3 ++ c).length = 15 + c.length := by simp only [List.length_append, digits_len, List.length_cons, List.length_nil]
    have d : (([0, 0] : List UInt8) ++ digits t 8 8 ++ [0, 0] ++ digits c.length 3 3).length = 15 := by simp only [List.length_append, digits_len, List.length_cons, List.length_nil]
    rw [itemC, hlen, a, List.take_left' (by omega), List.drop_left' d]
  rw [item_some (by omega) (certP_may hm).2, e1, e2, if_pos ⟨hm, rfl⟩]

theorem itemT_lt (lf : List UInt8) : itemT lf < 2 ^ 64 := be8_lt (by rw [List.length_drop, List.length_take]; omega)

theorem item_dec {lf ex : List UInt8} {t : Nat} {cs : List (List UInt8)} {E : Int} (h : itemOf lf ex = (t, cs, E)) :
    (E = 0 ∧ mayS cs = true ∧ t < 2 ^ 64 ∧ ∃ c l, cs = c :: l ∧ leafB t c = lf ∧ listS l = ex) ∨ (E = 5 ∧ t = 0 ∧ cs = []) := by
  by_cases h17 : 17 ≤ lf.length
  · cases hc : certR ex with
    | none => rw [item_none h17 hc] at h; simp only [Prod.mk.injEq] at h; exact .inr ⟨h.2.2.symm, h.1.symm, h.2.1.symm⟩
    | some l =>
      rw [item_some h17 hc] at h
      split at h
      · rename_i hh
        simp only [Prod.mk.injEq] at h
        obtain ⟨rfl, rfl, rfl⟩ := h
        exact .inl ⟨rfl, hh.1, itemT_lt lf, _, _, rfl, hh.2, (certR_dec hc).1⟩
      · simp only [Prod.mk.injEq] at h; exact .inr ⟨h.2.2.symm, h.1.symm, h.2.1.symm⟩
  · rw [item_short h17] at h; simp only [Prod.mk.injEq] at h; exact .inr ⟨h.2.2.symm, h.1.symm, h.2.1.symm⟩

theorem item_bad {lf ex : List UInt8} (h : ∀ t c l, t < 2 ^ 64 → mayS (c :: l) = true → leafB t c = lf → listS l = ex → False) : itemOf lf ex = (0, [], 5) := by
  obtain ⟨⟨t, cs, E⟩, hh⟩ : ∃ r, itemOf lf ex = r := ⟨_, rfl⟩
  rw [hh]
  rcases item_dec hh with ⟨_, h1, h2, c, l, rfl, h3, h4⟩ | ⟨rfl, rfl, rfl⟩
  · exact (h t c l h2 h1 h3 h4).elim
  · rfl

/-- The program's reading that fails. -/
theorem prog_bad {lf ex : List UInt8} (h : ¬ pE lf ex) : itemOf lf ex = (0, [], 5) :=
  item_bad fun t c l ht hm e1 e2 => h (by rw [← e1, ← e2]; exact (prog_dec ht hm).1)
/-- What is made of what was read is not what was read. -/
theorem prog_not {lf ex : List UInt8} {l : List (List UInt8)} (hl : certP ex = some l) (h : ¬ (mayS (pX lf :: l) = true ∧ leafB (pT lf) (pX lf) = lf ∧ listS l = ex)) : itemOf lf ex = (0, [], 5) :=
  item_bad fun t c k ht hm e1 e2 => by
    obtain ⟨_, h2, h3⟩ := prog_dec ht hm
    have h4 := (certP_may hm).1
    rw [e1] at h2 h3
    rw [e2, hl] at h4
    simp only [Option.some.injEq] at h4
    subst h4
    exact h ⟨by rw [h3]; exact hm, by rw [h2, h3]; exact e1, e2⟩
theorem prog_good {lf ex : List UInt8} {l : List (List UInt8)} (ht : pT lf < 2 ^ 64) (h1 : mayS (pX lf :: l) = true) (h2 : leafB (pT lf) (pX lf) = lf) (h3 : listS l = ex) : itemOf lf ex = (pT lf, pX lf :: l, 0) := by
  have := item_enc ht h1
  rw [h2, h3] at this
  exact this
theorem rdV8_lt (l : List UInt8) : rdV l 8 < 2 ^ 64 := by
  unfold rdV
  split
  · exact be8_lt (by rw [List.length_take]; show min 8 _ ≤ 8; omega)
  · decide

/-! Chains that are appended to. -/

def RowK (lo : Nat) (h : H) (v : AV) (cs : List AV) : Prop := (v = .nils ∧ cs = []) ∨ ∃ b g c, lo ≤ b ∧ b < h.n ∧ h.get b = some (.cells g 22 cs 0 false) ∧ v = .sl ⟨b, g, 0⟩ cs.length c ∧ (c = .op 1 ∨ c = .ex cs.length)

theorem Ch.src {h : H} {v : AV} {ys : List (AV × List UInt8)} (c : Ch h v ys) : srcCells h 1 v = some ((ys.map (·.1)).length, ys.map (·.1)) := by
  rcases c.row with ⟨rfl, rfl⟩ | ⟨a, q, rfl, _, h3⟩
  · rfl
  · simp only [srcCells, Nat.mul_one, h3, Option.map_some, List.length_map]

theorem RowK.app {lo : Nat} {h : H} {v w : AV} {cs new : List AV} (o : RowK lo h v cs) (hlo : lo ≤ h.n) (hs : srcCells h 1 w = some (new.length, new)) (h1 : new.all AV.one = true) (hn : cs.length + new.length < 33554432) :
    ∃ v' h', append h 22 1 24 v w = some (.val v' h') ∧ RowK lo h' v' (cs ++ new) ∧ h.n ≤ h'.n ∧ ∀ b, b < h.n → (b < lo ∨ ∀ g c, h.get b ≠ some (.cells g 22 c 0 false)) → h'.get b = h.get b := by
  have hmx : 200000000000000 = maxRow := rfl
  unfold append
  simp only [hs]
  by_cases h0 : new = []
  · subst h0
    rcases o with ⟨rfl, rfl⟩ | ⟨b, g, c, q1, q2, q3, rfl, q4⟩
    · exact ⟨.nils, h, rfl, .inl ⟨rfl, rfl⟩, Nat.le_refl _, fun _ _ _ => rfl⟩
    · exact ⟨_, h, rfl, by rw [List.append_nil]; exact .inr ⟨b, g, c, q1, q2, q3, rfl, q4⟩, Nat.le_refl _, fun _ _ _ => rfl⟩
  · have hpos : 0 < new.length := List.length_pos_iff.2 h0
    have hne : (new.length == 0) = false := by simp [h0]
    have fit : fits (cs.length + new.length) 24 = true := by simp only [fits, Bool.and_eq_true, decide_eq_true_eq]; omega
    have hle : cs.length + new.length ≤ 9223372036854775807 := by omega
    rcases o with ⟨rfl, rfl⟩ | ⟨b, g, c, q1, q2, q3, rfl, q4⟩
    · simp only [List.length_nil, Nat.zero_add] at fit hle
      refine ⟨.sl ⟨h.n, 0, 0⟩ new.length (.op 1), h.new (.cells 0 22 new 0 false), ?_, .inr ⟨h.n, 0, .op 1, hlo, by simp, h.get_new _, rfl, .inl rfl⟩, by simp, fun b hb _ => h.get_new_ne b _ (by omega)⟩
      simp [hne, fit, hle, h1, h0]
    · rcases q4 with rfl | rfl
      · refine ⟨.sl ⟨b, g + 1, 0⟩ (cs.length + new.length) (.op 1), h.set b (.cells (g + 1) 22 (cs ++ new) 0 false), ?_, .inr ⟨b, g + 1, .op 1, q1, q2, h.get_set b _, by rw [List.length_append], .inl rfl⟩, Nat.le_refl _, fun b' hb' hk => ?_⟩
        · simp [hne, fit, hle, h1, h0, q3]
        · have : b' ≠ b := by
            rintro rfl
            rcases hk with hk | hk
            · omega
            · exact hk _ _ q3
          exact h.get_set_ne b b' _ this
      · have hld : h.ldn ⟨b, g, 0⟩ (cs.length * 1) = some cs := by
          unfold H.ldn H.row
          simp only [q3, BEq.rfl, Bool.not_false, Bool.true_or, Bool.and_self, if_true, Nat.mul_one]
          exact cut_all _
        refine ⟨.sl ⟨h.n, 0, 0⟩ (cs.length + new.length) (.op 1), h.new (.cells 0 22 (cs ++ new) 0 false), ?_, .inr ⟨h.n, 0, .op 1, hlo, by simp, h.get_new _, by rw [List.length_append], .inl rfl⟩, by simp, fun b hb _ => h.get_new_ne b _ (by omega)⟩
        rw [Nat.mul_one] at hld
        simp [hne, fit, hle, h1, h0, hld, hpos]

theorem RowK.ch {lo : Nat} {h : H} {v : AV} {ys : List (AV × List UInt8)} (o : RowK lo h v (ys.map (·.1))) (el : ∀ p ∈ ys, Bs h p.1 p.2 ∧ Cok p.1) : Ch h v ys := by
  refine ⟨?_, el, ?_⟩
  · rcases o with ⟨h1, h2⟩ | ⟨b, g, c, h1, h2, h3, h4, h5⟩
    · exact .inl ⟨h1, by simpa using h2⟩
    · refine .inr ⟨⟨b, g, 0⟩, c, by rw [h4, List.length_map], h2, ?_⟩
      unfold H.ldn H.row
      simp only [h3, BEq.rfl, Bool.not_false, Bool.true_or, Bool.and_self, if_true]
      have : ys.length = (ys.map (·.1)).length := by simp
      rw [this]
      exact cut_all _
  · rintro a m c e
    rcases o with ⟨h1, _⟩ | ⟨b, g, q, _, _, _, h4, h5⟩
    · rw [h1] at e; simp at e
    · rw [h4] at e; simp only [AV.sl.injEq] at e
      obtain ⟨_, rfl, rfl⟩ := e
      rcases h5 with h5 | h5
      · exact .inr h5
      · exact .inl ⟨_, h5, by simp⟩
theorem RowK.ext {lo : Nat} {h h' : H} {v : AV} {cs : List AV} (o : RowK lo h v cs) (hx : Ext h h') : RowK lo h' v cs := by
  refine o.imp id ?_
  rintro ⟨b, g, c, h1, h2, h3, h4⟩
  have := hx.1
  exact ⟨b, g, c, h1, by omega, by rw [hx.2 b h2]; exact h3, h4⟩
theorem RowK.keepB {lo rb : Nat} {h h' : H} {v : AV} {cs : List AV} (hlo : rb < lo) (x : ExtB rb h h') (o : RowK lo h v cs) : RowK lo h' v cs := by
  refine o.imp id ?_
  rintro ⟨b, g, c, h1, h2, h3, h4⟩
  have := x.1
  exact ⟨b, g, c, h1, by omega, by rw [x.2 b h2 (by omega)]; exact h3, h4⟩
theorem RowK.mono {lo lo' : Nat} {h : H} {v : AV} {cs : List AV} (o : RowK lo h v cs) (hl : lo' ≤ lo) : RowK lo' h v cs := by
  refine o.imp id ?_
  rintro ⟨b, g, c, h1, h2⟩
  exact ⟨b, g, c, by omega, h2⟩
theorem OwnCh.rowK {lo : Nat} {h : H} {v : AV} {ys : List (AV × List UInt8)} (o : OwnCh lo h v ys) : RowK lo h v (ys.map (·.1)) := by
  rcases o.row with ⟨h1, h2, _⟩ | ⟨b, g, h1, h2, h3, h4, _⟩
  · exact .inl ⟨h1, h2⟩
  · exact .inr ⟨b, g, .op 1, h1, h2, h3, by rw [h4, List.length_map], .inl rfl⟩

/-- A chain of its own, however its row came to be. -/
structure OwnK (lo : Nat) (h : H) (v : AV) (ys : List (AV × List UInt8)) : Prop where
  row : RowK lo h v (ys.map (·.1))
  el : ∀ p ∈ ys, Ow lo h p.1 p.2
theorem OwnCh.k {lo : Nat} {h : H} {v : AV} {ys : List (AV × List UInt8)} (o : OwnCh lo h v ys) : OwnK lo h v ys := ⟨o.rowK, o.el⟩
theorem OwnK.ch {lo : Nat} {h : H} {v : AV} {ys : List (AV × List UInt8)} (o : OwnK lo h v ys) : Ch h v ys := o.row.ch fun p hp => ⟨(o.el p hp).bs, (o.el p hp).cok⟩
theorem OwnK.ext {lo : Nat} {h h' : H} {v : AV} {ys : List (AV × List UInt8)} (o : OwnK lo h v ys) (hx : Ext h h') : OwnK lo h' v ys := ⟨o.row.ext hx, fun p hp => (o.el p hp).ext hx⟩
theorem OwnK.keepB {lo rb : Nat} {h h' : H} {v : AV} {ys : List (AV × List UInt8)} (hlo : rb < lo) (x : ExtB rb h h') (o : OwnK lo h v ys) : OwnK lo h' v ys :=
  ⟨o.row.keepB hlo x, fun p hp => (o.el p hp).keep x.1 (fun b g c h1 h2 _ => x.2 b h2 (by omega))⟩
theorem OwnK.mono {lo lo' : Nat} {h : H} {v : AV} {ys : List (AV × List UInt8)} (o : OwnK lo h v ys) (hl : lo' ≤ lo) : OwnK lo' h v ys := ⟨o.row.mono hl, fun p hp => (o.el p hp).mono hl⟩
theorem OwnK.none {lo : Nat} {h : H} : OwnK lo h .nils [] := OwnCh.none.k
end Go.Det

/- Frames: entries' rows, readers. -/
set_option linter.unusedVariables false
set_option linter.unusedSimpArgs false
set_option linter.unusedSectionVars false
namespace Go.Det
open Go.Proofs

theorem ExtB.fr {b : Nat} {h h' : H} (x : ExtB b h h') : Fr (fun s => s = b + 1) h h' := ⟨x.1, fun k hk hs => x.2 k hk (fun e => hs (by rw [e]))⟩
theorem Ch.fr {h h' : H} {v : AV} {xs : List (AV × List UInt8)} (c : Ch h v xs) {S : Nat → Prop} (x : Fr S h h') (hs : ∀ s, S s → s = 0 ∨ h.n < s) : Ch h' v xs := c.ext (x.ext hs)
theorem Ch.bd {h : H} {v : AV} {xs : List (AV × List UInt8)} (c : Ch h v xs) : blk v ≤ h.n := by
  rcases c.row with ⟨rfl, _⟩ | ⟨a, q, rfl, h2, _⟩
  · exact Nat.zero_le _
  · exact h2
theorem OwnCh.parts {lo : Nat} {h : H} {v : AV} {xs : List (AV × List UInt8)} (c : OwnCh lo h v xs) : v.cells = [v] ∧ v.one = true ∧ isStrV v = false := c.ch.parts
theorem OwnK.parts {lo : Nat} {h : H} {v : AV} {xs : List (AV × List UInt8)} (c : OwnK lo h v xs) : v.cells = [v] ∧ v.one = true ∧ isStrV v = false := c.ch.parts
theorem OwnCh.bd {lo : Nat} {h : H} {v : AV} {xs : List (AV × List UInt8)} (c : OwnCh lo h v xs) : (blk v = 0 ∨ lo < blk v) ∧ blk v ≤ h.n := by
  rcases c.row with ⟨rfl, _⟩ | ⟨b, g, h1, h2, _, rfl, _⟩
  · exact ⟨.inl rfl, Nat.zero_le _⟩
  · exact ⟨.inr (Nat.succ_le_succ h1), h2⟩
theorem OwnK.bd {lo : Nat} {h : H} {v : AV} {xs : List (AV × List UInt8)} (c : OwnK lo h v xs) : (blk v = 0 ∨ lo < blk v) ∧ blk v ≤ h.n := by
  rcases c.row with ⟨rfl, _⟩ | ⟨b, g, _, h1, h2, _, rfl, _⟩
  · exact ⟨.inl rfl, Nat.zero_le _⟩
  · exact ⟨.inr (Nat.succ_le_succ h1), h2⟩
theorem RowK.fr {lo : Nat} {h h' : H} {v : AV} {cs : List AV} (o : RowK lo h v cs) {S : Nat → Prop} (x : Fr S h h') (hs : ∀ s, S s → s ≤ lo ∨ h.n < s) : RowK lo h' v cs := by
  refine o.imp id ?_
  rintro ⟨b, g, c, h1, h2, h3, h4⟩
  have := x.1
  exact ⟨b, g, c, h1, by omega, by rw [x.2 b h2 (fun e => by have := hs _ e; omega)]; exact h3, h4⟩
theorem Ow.fr2 {lo : Nat} {h h' : H} {v : AV} {l : List UInt8} (ho : Ow lo h v l) {S : Nat → Prop} (x : Fr S h h') (hs : ∀ s, S s → s ≤ lo ∨ h.n < s) : Ow lo h' v l := by
  have := x.1
  rcases ho with ⟨rfl, rfl⟩ | ⟨b, g, h1, h2, h3, h4⟩
  · exact .inl ⟨rfl, rfl⟩
  · exact .inr ⟨b, g, h1, by omega, by rw [x.2 b h2 (fun e => by have := hs _ e; omega)]; exact h3, h4⟩
theorem OwnK.fr {lo : Nat} {h h' : H} {v : AV} {ys : List (AV × List UInt8)} (o : OwnK lo h v ys) {S : Nat → Prop} (x : Fr S h h') (hs : ∀ s, S s → s ≤ lo ∨ h.n < s) : OwnK lo h' v ys := ⟨o.row.fr x hs, fun p hp => (o.el p hp).fr2 x hs⟩
theorem OwnCh.fr {lo : Nat} {h h' : H} {v : AV} {ys : List (AV × List UInt8)} (o : OwnCh lo h v ys) {S : Nat → Prop} (x : Fr S h h') (hs : ∀ s, S s → s ≤ lo ∨ h.n < s) : OwnCh lo h' v ys := by
  refine ⟨?_, fun p hp => (o.el p hp).fr2 x hs⟩
  have hx := x.1
  exact o.row.ext hx (fun b g c h1 h2 _ => x.2 b h2 (fun e => by have := hs _ e; omega))

theorem Rd.bs {h : H} {b : Nat} {v : AV} {l : List UInt8} (r : Rd h b v l) : Bs h v l := r.2.2.1
theorem Rd.ne {h : H} {b : Nat} {v : AV} {l : List UInt8} (r : Rd h b v l) : blk v ≠ b + 1 := by
  have := r.2.2.2
  cases v <;> try (simp [blk]; done)
  · rename_i a n c
    have := (this a n c rfl).1
    simp only [blk]; omega
theorem Rd.bd {h : H} {b : Nat} {v : AV} {l : List UInt8} (r : Rd h b v l) : b < h.n ∧ blk v ≤ h.n ∧ blk v ≠ b + 1 := ⟨r.1, r.bs.bd, r.ne⟩
theorem Rd.fr {h h' : H} {b : Nat} {v : AV} {l : List UInt8} (r : Rd h b v l) {S : Nat → Prop} (x : Fr S h h') (hs : ∀ s, S s → s ≠ b + 1 ∧ (s ≠ blk v ∨ s = 0)) : Rd h' b v l :=
  r.keep x.1 (x.2 b r.1 (fun e => (hs _ e).1 rfl)) (fun a n c e => x.2 a.b (r.bs.lt e) (fun h1 => by have := hs _ h1; rw [e] at this; simp only [blk] at this; omega))
theorem RRd.bs {h : H} {b : Nat} {v : AV} {l : List UInt8} (r : RRd h b v l) : Bs h v l := r.2.2.1
theorem RRd.ne {h : H} {b : Nat} {v : AV} {l : List UInt8} (r : RRd h b v l) : blk v ≠ b + 1 := by
  have := r.2.2.2.2
  cases v <;> try (simp [blk]; done)
  · rename_i a n c
    have := this a n c rfl
    simp only [blk]; omega
theorem RRd.bd {h : H} {b : Nat} {v : AV} {l : List UInt8} (r : RRd h b v l) : b < h.n ∧ blk v ≤ h.n ∧ blk v ≠ b + 1 := ⟨r.1, r.bs.bd, r.ne⟩
theorem RRd.fr {h h' : H} {b : Nat} {v : AV} {l : List UInt8} (r : RRd h b v l) {S : Nat → Prop} (x : Fr S h h') (hs : ∀ s, S s → s ≠ b + 1 ∧ (s ≠ blk v ∨ s = 0)) : RRd h' b v l :=
  r.keep x.1 (x.2 b r.1 (fun e => (hs _ e).1 rfl)) (fun a n c e => x.2 a.b (r.bs.lt e) (fun h1 => by have := hs _ h1; rw [e] at this; simp only [blk] at this; omega))
theorem SB.blk {v v' : AV} (s : SB v v') : Go.Det.blk v' = 0 ∨ Go.Det.blk v' = Go.Det.blk v := by
  cases v' <;> try (exact .inl rfl)
  rename_i a n c
  obtain ⟨a0, n0, c0, rfl, e⟩ := s a n c rfl
  exact .inr (by simp [Go.Det.blk, e])
theorem Ch.none {h : H} : Ch h .nils [] := (OwnK.none (lo := 0)).ch

/-- A row of its own, appended to: only its block changes. -/
theorem RowK.appF {lo : Nat} {h : H} {v w : AV} {cs new : List AV} (o : RowK lo h v cs) (hlo : lo ≤ h.n) (hs : srcCells h 1 w = some (new.length, new)) (h1 : new.all AV.one = true) (hn : cs.length + new.length < 33554432) :
    ∃ v' h', append h 22 1 24 v w = some (.val v' h') ∧ RowK lo h' v' (cs ++ new) ∧ Fr (fun s => s = blk v) h h' := by
  have hmx : 200000000000000 = maxRow := rfl
  unfold append
  simp only [hs]
  by_cases h0 : new = []
  · subst h0
    rcases o with ⟨rfl, rfl⟩ | ⟨b, g, c, q1, q2, q3, rfl, q4⟩
    · exact ⟨.nils, h, rfl, .inl ⟨rfl, rfl⟩, Nat.le_refl _, fun _ _ _ => rfl⟩
    · exact ⟨_, h, rfl, by rw [List.append_nil]; exact .inr ⟨b, g, c, q1, q2, q3, rfl, q4⟩, Nat.le_refl _, fun _ _ _ => rfl⟩
  · have hpos : 0 < new.length := List.length_pos_iff.2 h0
    have hne : (new.length == 0) = false := by simp [h0]
    have fit : fits (cs.length + new.length) 24 = true := by simp only [fits, Bool.and_eq_true, decide_eq_true_eq]; omega
    have hle : cs.length + new.length ≤ 9223372036854775807 := by omega
    rcases o with ⟨rfl, rfl⟩ | ⟨b, g, c, q1, q2, q3, rfl, q4⟩
    · simp only [List.length_nil, Nat.zero_add] at fit hle
      refine ⟨.sl ⟨h.n, 0, 0⟩ new.length (.op 1), h.new (.cells 0 22 new 0 false), ?_, .inr ⟨h.n, 0, .op 1, hlo, by simp, h.get_new _, rfl, .inl rfl⟩, by simp, fun b hb _ => h.get_new_ne b _ (by omega)⟩
      simp [hne, fit, hle, h1, h0]
    · rcases q4 with rfl | rfl
      · refine ⟨.sl ⟨b, g + 1, 0⟩ (cs.length + new.length) (.op 1), h.set b (.cells (g + 1) 22 (cs ++ new) 0 false), ?_, .inr ⟨b, g + 1, .op 1, q1, q2, h.get_set b _, by rw [List.length_append], .inl rfl⟩, Nat.le_refl _, fun b' hb' hk => ?_⟩
        · simp [hne, fit, hle, h1, h0, q3]
        · have : b' ≠ b := by
            rintro rfl
            exact hk rfl
          exact h.get_set_ne b b' _ this
      · have hld : h.ldn ⟨b, g, 0⟩ (cs.length * 1) = some cs := by
          unfold H.ldn H.row
          simp only [q3, BEq.rfl, Bool.not_false, Bool.true_or, Bool.and_self, if_true, Nat.mul_one]
          exact cut_all _
        refine ⟨.sl ⟨h.n, 0, 0⟩ (cs.length + new.length) (.op 1), h.new (.cells 0 22 (cs ++ new) 0 false), ?_, .inr ⟨h.n, 0, .op 1, hlo, by simp, h.get_new _, by rw [List.length_append], .inl rfl⟩, by simp, fun b hb _ => h.get_new_ne b _ (by omega)⟩
        rw [Nat.mul_one] at hld
        simp [hne, fit, hle, h1, h0, hld, hpos]
theorem RowK.bd {lo : Nat} {h : H} {v : AV} {cs : List AV} (o : RowK lo h v cs) : (blk v = 0 ∨ lo < blk v) ∧ blk v ≤ h.n := by
  rcases o with ⟨rfl, _⟩ | ⟨b, g, _, h1, h2, _, rfl, _⟩
  · exact ⟨.inl rfl, Nat.zero_le _⟩
  · exact ⟨.inr (Nat.succ_le_succ h1), h2⟩

/-- A chain whose row is its own, its rows of bytes as they read. -/
structure OwB (lo : Nat) (h : H) (v : AV) (ys : List (AV × List UInt8)) : Prop where
  row : RowK lo h v (ys.map (·.1))
  el : ∀ p ∈ ys, Bs h p.1 p.2 ∧ Cok p.1
theorem OwB.ch {lo : Nat} {h : H} {v : AV} {ys : List (AV × List UInt8)} (o : OwB lo h v ys) : Ch h v ys := o.row.ch o.el
theorem OwB.parts {lo : Nat} {h : H} {v : AV} {xs : List (AV × List UInt8)} (c : OwB lo h v xs) : v.cells = [v] ∧ v.one = true ∧ isStrV v = false := c.ch.parts
theorem OwB.bd {lo : Nat} {h : H} {v : AV} {xs : List (AV × List UInt8)} (c : OwB lo h v xs) : (blk v = 0 ∨ lo < blk v) ∧ blk v ≤ h.n := c.row.bd
theorem OwB.fr {lo : Nat} {h h' : H} {v : AV} {ys : List (AV × List UInt8)} (o : OwB lo h v ys) {S : Nat → Prop} (x : Fr S h h') (hs : ∀ s, S s → s = 0 ∨ h.n < s) : OwB lo h' v ys :=
  ⟨o.row.fr x (fun s h1 => (hs s h1).imp (fun e => by omega) id), fun p hp => ⟨(o.el p hp).1.ext (x.ext hs), (o.el p hp).2⟩⟩
theorem OwB.none {lo : Nat} {h : H} : OwB lo h .nils [] := ⟨.inl ⟨rfl, rfl⟩, fun p hp => by simp at hp⟩
theorem OwnK.b {lo : Nat} {h : H} {v : AV} {ys : List (AV × List UInt8)} (o : OwnK lo h v ys) : OwB lo h v ys := ⟨o.row, fun p hp => ⟨(o.el p hp).bs, (o.el p hp).cok⟩⟩
/-- One row more. -/
theorem app22_one {lo : Nat} {h : H} {b : Nat} {v c : AV} {cl : List UInt8} {ys : List (AV × List UInt8)} (p : Pt h b (.cells 0 22 [c] 0 false)) (hv : OwB lo h v ys) (hc : Bs h c cl) (hk : Cok c) (hlo : lo ≤ h.n) (hn : ys.length + 1 < 33554432) (hnew : ∀ q ∈ ys, blk q.1 ≤ lo) (hcl : blk c ≤ lo) :
    ∃ v' h', append h 22 1 24 v (.sl ⟨b, 0, 0⟩ 1 (.ex 1)) = some (.val v' h') ∧ OwB lo h' v' (ys ++ [(c, cl)]) ∧ Fr (fun s => s = blk v) h h' := by
  have hld : h.ldn ⟨b, 0, 0⟩ (1 * 1) = some [c] := by
    unfold H.ldn H.row
    simp only [p.2, BEq.rfl, Bool.not_false, Bool.true_or, Bool.and_self, if_true]
    rfl
  obtain ⟨v', h', e, r, x⟩ := hv.row.appF (w := .sl ⟨b, 0, 0⟩ 1 (.ex 1)) (new := [c]) hlo (by simp [srcCells, hld]) (ones_cons hc.parts.2.1 ones_nil) (by simpa using hn)
  refine ⟨v', h', e, ⟨by rw [List.map_append]; exact r, fun q hq => ?_⟩, x⟩
  have hb := hv.bd.1
  have key : ∀ q : AV × List UInt8, Bs h q.1 q.2 → blk q.1 ≤ lo → Bs h' q.1 q.2 := fun q h1 h2 => by
    exact h1.fr x (by omega)
  rcases List.mem_append.1 hq with hq | hq
  · exact ⟨key q (hv.el q hq).1 (hnew q hq), (hv.el q hq).2⟩
  · simp only [List.mem_cons, List.not_mem_nil, or_false] at hq
    subst hq
    exact ⟨key _ hc hcl, hk⟩
/-- A list's behind. -/
theorem app22_more {lo lo2 : Nat} {h : H} {v w : AV} {ys zs : List (AV × List UInt8)} (hv : OwB lo h v ys) (hw : OwnCh lo2 h w zs) (hlo : lo ≤ h.n) (hn : ys.length + zs.length < 33554432) (hnew : ∀ q ∈ ys, blk q.1 ≤ lo) (hl2 : blk v ≤ lo2) :
    ∃ v' h', append h 22 1 24 v w = some (.val v' h') ∧ OwB lo h' v' (ys ++ zs) ∧ Fr (fun s => s = blk v) h h' := by
  have hone : (zs.map (·.1)).all AV.one = true := by
    simp only [List.all_map, List.all_eq_true]
    exact fun p hp => (hw.el p hp).parts.2.1
  obtain ⟨v', h', e, r, x⟩ := hv.row.appF (w := w) (new := zs.map (·.1)) hlo hw.ch.src hone (by simpa using hn)
  refine ⟨v', h', e, ⟨by rw [List.map_append]; exact r, fun q hq => ?_⟩, x⟩
  have hb := hv.bd.1
  rcases List.mem_append.1 hq with hq | hq
  · have h1 := (hv.el q hq).1
    have h2 := hnew q hq
    refine ⟨?_, (hv.el q hq).2⟩
    · exact h1.fr x (by omega)
  · have h1 := hw.el q hq
    exact ⟨(h1.fr2 x (by intro s hs; omega)).bs, h1.cok⟩

/-- A row of one, appended to. -/
theorem app_lit1 {h : H} {b : Nat} {c w : AV} {zs : List AV} (p : Pt h b (.cells 0 22 [c] 0 false)) (hsrc : srcCells h 1 w = some (zs.length, zs)) (h0 : 0 < zs.length) (ho : zs.all AV.one = true) (hn : zs.length < 16777216) :
    append h 22 1 24 (.sl ⟨b, 0, 0⟩ 1 (.ex 1)) w = some (.val (.sl ⟨h.n, 0, 0⟩ (1 + zs.length) (.op 1)) (h.new (.cells 0 22 ([c] ++ zs) 0 false))) := by
  have hmx : 200000000000000 = maxRow := rfl
  have fit : fits (1 + zs.length) 24 = true := by simp only [fits, Bool.and_eq_true, decide_eq_true_eq]; omega
  have hld : h.ldn ⟨b, 0, 0⟩ (1 * 1) = some [c] := by
    unfold H.ldn H.row
    simp only [p.2, BEq.rfl, Bool.not_false, Bool.true_or, Bool.and_self, if_true]
    rfl
  unfold append
  rw [hsrc]
  have h1 : 1 < 1 + zs.length := by omega
  have h2 : zs ≠ [] := List.length_pos_iff.1 h0
  have h3 : 1 + zs.length ≤ 9223372036854775807 := by omega
  simp only []
  rw [if_neg (by simpa using h2), if_neg (by simp [fit, ho, h3]), if_pos h1, hld]

/-- One certificate, and a list's. -/
theorem app22_lit {lo lo2 : Nat} {h : H} {b : Nat} {c w : AV} {cl : List UInt8} {ys : List (AV × List UInt8)} (p : Pt h b (.cells 0 22 [c] 0 false)) (hc : Ow lo h c cl) (hw : OwnCh lo2 h w ys) (hn : ys.length < 16777216) :
    ∃ v h', append h 22 1 24 (.sl ⟨b, 0, 0⟩ 1 (.ex 1)) w = some (.val v h') ∧ OwnK (min b (min lo lo2)) h' v ((c, cl) :: ys) ∧ Ext h h' := by
  have e : RowK (min b (min lo lo2)) h (.sl ⟨b, 0, 0⟩ 1 (.ex 1)) [c] := .inr ⟨b, 0, .ex 1, by omega, p.1, p.2, rfl, .inr rfl⟩
  have b1 := hc.bd
  have hb := p.1
  have hmx : 200000000000000 = maxRow := rfl
  have hsrc : srcCells h 1 w = some ((ys.map (·.1)).length, ys.map (·.1)) := hw.ch.src
  have hone : (ys.map (·.1)).all AV.one = true := by
    simp only [List.all_map, List.all_eq_true]
    exact fun p hp => (hw.el p hp).parts.2.1
  have fit : fits (ys.length + 1) 24 = true := by simp only [fits, Bool.and_eq_true, decide_eq_true_eq]; omega
  cases ys with
  | nil =>
    refine ⟨.sl ⟨b, 0, 0⟩ 1 (.ex 1), h, ?_, ⟨e, ?_⟩, Ext.refl _⟩
    · unfold append; rw [hsrc]; rfl
    · intro q hq
      simp only [List.mem_cons, List.not_mem_nil, or_false] at hq
      subst hq
      exact hc.mono (by omega)
  | cons y ys =>
    have X := Ext.new h (.cells 0 22 ([c] ++ ((y :: ys).map (·.1))) 0 false)
    refine ⟨_, _, app_lit1 p hsrc (by simp) hone (by simpa using hn), ⟨.inr ⟨h.n, 0, .op 1, by omega, by simp, h.get_new _, by simp [Nat.add_comm], .inl rfl⟩, ?_⟩, X⟩
    · intro q hq
      rcases List.mem_cons.1 hq with rfl | hq
      · exact (hc.ext X).mono (by omega)
      · exact ((hw.el q hq).ext X).mono (by omega)
theorem Ch.bq {h : H} {v : AV} {xs : List (AV × List UInt8)} (c : Ch h v xs) : blk v ≤ h.n := c.bd
theorem OwnCh.bq {lo : Nat} {h : H} {v : AV} {xs : List (AV × List UInt8)} (c : OwnCh lo h v xs) : Dj (blk v = 0 ∨ lo < blk v) ∧ blk v ≤ h.n := c.bd
theorem OwnK.bq {lo : Nat} {h : H} {v : AV} {xs : List (AV × List UInt8)} (c : OwnK lo h v xs) : Dj (blk v = 0 ∨ lo < blk v) ∧ blk v ≤ h.n := c.bd
theorem OwB.bq {lo : Nat} {h : H} {v : AV} {xs : List (AV × List UInt8)} (c : OwB lo h v xs) : Dj (blk v = 0 ∨ lo < blk v) ∧ blk v ≤ h.n := c.bd
theorem RowK.bq {lo : Nat} {h : H} {v : AV} {xs : List AV} (c : RowK lo h v xs) : Dj (blk v = 0 ∨ lo < blk v) ∧ blk v ≤ h.n := c.bd
theorem Rd.bq {h : H} {b : Nat} {v : AV} {l : List UInt8} (r : Rd h b v l) : Dj (blk v ≠ b + 1) ∧ b < h.n ∧ blk v ≤ h.n := ⟨r.ne, r.1, r.bs.bd⟩
theorem RRd.bq {h : H} {b : Nat} {v : AV} {l : List UInt8} (r : RRd h b v l) : Dj (blk v ≠ b + 1) ∧ b < h.n ∧ blk v ≤ h.n := ⟨r.ne, r.1, r.bs.bd⟩
theorem SB.bq {v v' : AV} (s : SB v v') : Dj (Go.Det.blk v' = 0 ∨ Go.Det.blk v' = Go.Det.blk v) := s.blk
end Go.Det

/- Items read: the walks. -/
set_option linter.unusedVariables false
set_option linter.unusedSimpArgs false
set_option linter.unusedSectionVars false
namespace Go.Det
open Go.Proofs
attribute [local irreducible] Wp Wo Wd iop ev slots quiets wanted put

set_option maxHeartbeats 4000000 in
theorem keep_run {h : H} {fb : Nat} {f : Int} (p : Pt h fb (.cells 0 26 [.int .i64 f] 0 false)) (e : Int) : ∃ r h', Runs TF 85 [.int .i64 e, .ptr ⟨fb, 0, 0⟩] h r h' ∧ r = .tup [] ∧ Pt h' fb (.cells 0 26 [.int .i64 (orI f e)] 0 false) ∧ Fr (fun s => s = fb + 1) h h' := by
  refine Runs.ofP f85 rfl ?_
  have m0 := p.1
  have m1 := p.1
  refine Wp.seq ?_
  refine Wp.region ?_
  refine Wo.val (AV.int IntKind.i64 f) h (by kernel_rfl) (iop_ldP p (a := { b := fb, g := 0, o := 0 }) (by kernel_rfl) rfl (by kernel_rfl)) ?_
  refine Wo.cmp (op := .eql) (x := IX.t 3) (y := IX.c (AV.int IntKind.i64 0)) (k := IntKind.i64) (a := f) (b := 0) ((f : Int) = (0 : Int)) (by kernel_rfl) (by kernel_rfl) (by kernel_rfl) (by kernel_rfl) (by simp) (by kernel_rfl) (fun q2 => ?_) (fun q2 => ?_)
  · skip
    refine Wo.nil ?_
    refine Wp.cond true (by kernel_rfl) ?_
    refine Wp.region ?_
    refine Wo.pre 1 (by kernel_rfl) ?_
    obtain ⟨H3, e3, P3, X3, n3⟩ := p.st 0 [AV.int IntKind.i64 e] (by simp) (ones_cons rfl ones_nil)
    refine Wo.val .undef H3 (by kernel_rfl) (iop_stP (a := { b := fb, g := 0, o := 0 }) (v := AV.int IntKind.i64 e) (vs := [AV.int IntKind.i64 e]) (by kernel_rfl) (by kernel_rfl) rfl rfl e3) ?_
    have m4 := X3.1
    replace P3 : Pt H3 fb (Blk.cells 0 26 [AV.int IntKind.i64 e] 0 false) := P3
    refine Wo.nil ?_
    refine ⟨.inl rfl, (.tup []), rfl, ?_⟩
    dsimp only
    exact ⟨rfl, (by rw [orI_fst (by assumption)]; exact P3), X3⟩
  · skip
    refine Wo.nil ?_
    refine Wp.cond false (by kernel_rfl) ?_
    refine Wp.skip ?_
    refine ⟨.inl rfl, (.tup []), rfl, ?_⟩
    dsimp only
    exact ⟨rfl, (by rw [orI_snd (by assumption)]; exact p), ((Fr.refl _).mono (by simp))⟩

set_option maxHeartbeats 16000000 in
theorem takeitem_run {h : H} {y x : AV} {lf ex : List UInt8} (hy : Bs h y lf) (hx : Bs h x ex) (hl : lf.length ≤ maxRow) (hl2 : ex.length ≤ maxRow) : ∃ r h', Runs TF 56 [itemV y x] h r h' ∧ ∃ t z ps E, r = .tup [entV t z, .int .i64 E] ∧ Ext h h' ∧ OwnK h.n h' z ps ∧ itemOf lf ex = (t, says ps, E) := by
  refine Runs.ofP f56 rfl ?_
  have hmx : 200000000000000 = maxRow := rfl
  have r1 := rdL_len lf 2
  have r2 := rdL_len (rdL lf 2) 8
  have r3 := rdL_len (rdL (rdL lf 2) 8) 2
  have r4 := vX_len (rdL (rdL (rdL lf 2) 8) 2) 3
  have rv := rdV8_lt (rdL lf 2)
  have m1 := hy.bd
  have k2 := hy.parts
  have m3 := hx.bd
  have k4 := hx.parts
  refine Wp.seq ?_
  refine Wp.region ?_
  obtain ⟨H5, e5, P5, X5, n5⟩ := pt_new h 78 [y, x] (ones_cons k2.2.1 (ones_cons k4.2.1 ones_nil))
  refine Wo.val (.ptr ⟨H.n h, 0, 0⟩) H5 (by kernel_rfl) (e5 (v := AV.agg [y, x]) (by kernel_rfl) rfl) ?_
  have m6 := X5.1
  obtain ⟨H7, e7, P7, X7, n7⟩ := pt_new H5 70 [AV.int IntKind.u64 0, AV.nils] (ones_cons rfl (ones_cons rfl ones_nil))
  refine Wo.val (.ptr ⟨H.n H5, 0, 0⟩) H7 (by kernel_rfl) (e7 (v := AV.agg [AV.int IntKind.u64 0, AV.nils]) (by kernel_rfl) rfl) ?_
  have m8 := X7.1
  refine Wo.pre 1 (by kernel_rfl) ?_
  refine Wo.nil ?_
  refine Wp.seq ?_
  refine Wp.region ?_
  obtain ⟨H9, e9, P9, X9, n9⟩ := pt_new H7 26 [AV.int IntKind.i64 0] (ones_cons rfl ones_nil)
  refine Wo.val (.ptr ⟨H.n H7, 0, 0⟩) H9 (by kernel_rfl) (e9 (v := AV.int IntKind.i64 0) (by kernel_rfl) rfl) ?_
  have m10 := X9.1
  refine Wo.nil ?_
  refine Wp.seq ?_
  refine Wp.draw ?_
  refine Wd.pure (by kernel_rfl) (by kernel_rfl) ?_
  have F11 := (P5.fr (X7.trans0 X9) id)
  refine Wd.read (y) (.ld none (.c (.ptr { b := h.n, g := 0, o := 0 }))) (by kernel_rfl) (by kernel_rfl) (iop_ldP F11 (a := { b := h.n, g := 0, o := 0 }) (by kernel_rfl) rfl (by kernel_rfl)) ?_
  refine Wd.pure (by kernel_rfl) (by kernel_rfl) ?_
  refine Wd.read (x) (.ld none (.c (.ptr { b := h.n, g := 0, o := 1 }))) (by kernel_rfl) (by kernel_rfl) (iop_ldP F11 (a := { b := h.n, g := 0, o := 1 }) (by kernel_rfl) rfl (by kernel_rfl)) ?_
  have F12 := (hy.fr ((X5.trans0 X7).trans0 X9) (.inr id))
  obtain ⟨p13, H14, c15, b16, u17, rfl, q19, q20, X21, q22, q23⟩ := new_run F12 hl
  have m24 := q20.bd
  have m25 := X21.1
  have m26 := q22.bd
  have k27 := q22.parts
  refine Wd.call (by kernel_rfl) (by kernel_rfl) c15 (holds_of [(IOp.ld none (IX.c (AV.ptr { b := h.n, g := 0, o := 1 })), x, 4), (IOp.ld none (IX.c (AV.ptr { b := h.n, g := 0, o := 0 })), y, 1)] (by kernel_rfl) (holds_and (rd_ldP F11 rfl (by kernel_rfl)) (holds_and (rd_ldP F11 rfl (by kernel_rfl)) rfl))) ?_
  have F28 := (F11.fr X21.fr id)
  have F29 := (hx.fr (((X5.trans0 X7).trans0 X9).trans0 X21.fr) (.inr id))
  obtain ⟨p30, H31, c32, b33, u34, rfl, q36, q37, X38, q39, q40⟩ := new_run F29 hl2
  have m41 := q37.bd
  have m42 := X38.1
  have m43 := q39.bd
  have k44 := q39.parts
  refine Wd.call (by kernel_rfl) (by kernel_rfl) c32 (holds_of [(IOp.ld none (IX.c (AV.ptr { b := h.n, g := 0, o := 1 })), x, 4)] (by kernel_rfl) (holds_and (rd_ldP F28 rfl (by kernel_rfl)) rfl)) ?_
  refine Wd.pure (by kernel_rfl) (by kernel_rfl) ?_
  refine Wd.pure (by kernel_rfl) (by kernel_rfl) ?_
  refine Wd.done (holds_of [] (by kernel_rfl) rfl) ?_
  refine Wp.seq ?_
  refine Wp.region ?_
  refine Wo.pre 2 (by kernel_rfl) ?_
  refine Wo.nil ?_
  refine Wp.seq ?_
  refine Wp.region ?_
  refine Wo.pre 1 (by kernel_rfl) ?_
  have F45 := (q20.fr X38.fr (fun _ e => e.elim))
  obtain ⟨H46, v47, c48, q49, X50, q51⟩ := rdnum_any F45 (2) hl
  have m52 := q49.bd
  have m53 := X50.1
  have m54 := q51.blk
  refine Wo.call (by kernel_rfl) (by kernel_rfl) c48 ?_
  refine Wo.pre 5 (by kernel_rfl) ?_
  refine Wo.nil ?_
  refine Wp.seq ?_
  refine Wp.region ?_
  refine Wo.pre 2 (by kernel_rfl) ?_
  have F55 := (P9.fr ((X21.fr.trans0 X38.fr).transL X50.fr) (by (first | omega | (intro s hs; omega) | (dsimp only; omega) | (intro s hs; dsimp only at hs; omega) | (simp; done))))
  obtain ⟨r56, H57, c58, rfl, q60, X61⟩ := keep_run F55 (rdE lf 2)
  have m62 := q60.1
  have m63 := X61.1
  refine Wo.call (by kernel_rfl) (by kernel_rfl) c58 ?_
  refine Wo.nil ?_
  refine Wp.seq ?_
  refine Wp.region ?_
  refine Wo.pre 1 (by kernel_rfl) ?_
  have F64 := (q49.fr X61 (by (first | omega | (intro s hs; omega) | (dsimp only; omega) | (intro s hs; dsimp only at hs; omega) | (simp; done))))
  obtain ⟨H65, v66, c67, q68, X69, q70⟩ := rdnum_any F64 (8) (by first | omega | (simp; omega) | (simp; done) | assumption | (have h := certP_few ‹certP _ = some _›; rw [says_len] at h; first | exact h | (simp only [List.length_cons]; omega)))
  have m71 := q68.bd
  have m72 := X69.1
  have m73 := q70.blk
  refine Wo.call (by kernel_rfl) (by kernel_rfl) c67 ?_
  refine Wo.pre 5 (by kernel_rfl) ?_
  refine Wo.nil ?_
  refine Wp.seq ?_
  refine Wp.region ?_
  refine Wo.pre 2 (by kernel_rfl) ?_
  have F74 := (q60.fr X69.fr (by (first | omega | (intro s hs; omega) | (dsimp only; omega) | (intro s hs; dsimp only at hs; omega) | (simp; done))))
  obtain ⟨r75, H76, c77, rfl, q79, X80⟩ := keep_run F74 (rdE (rdL lf 2) 8)
  have m81 := q79.1
  have m82 := X80.1
  refine Wo.call (by kernel_rfl) (by kernel_rfl) c77 ?_
  refine Wo.nil ?_
  refine Wp.seq ?_
  refine Wp.region ?_
  refine Wo.pre 1 (by kernel_rfl) ?_
  have F83 := (q68.fr X80 (by (first | omega | (intro s hs; omega) | (dsimp only; omega) | (intro s hs; dsimp only at hs; omega) | (simp; done))))
  obtain ⟨H84, v85, c86, q87, X88, q89⟩ := rdnum_any F83 (2) (by first | omega | (simp; omega) | (simp; done) | assumption | (have h := certP_few ‹certP _ = some _›; rw [says_len] at h; first | exact h | (simp only [List.length_cons]; omega)))
  have m90 := q87.bd
  have m91 := X88.1
  have m92 := q89.blk
  refine Wo.call (by kernel_rfl) (by kernel_rfl) c86 ?_
  refine Wo.pre 4 (by kernel_rfl) ?_
  refine Wo.nil ?_
  refine Wp.seq ?_
  refine Wp.region ?_
  refine Wo.pre 2 (by kernel_rfl) ?_
  have F93 := (q79.fr X88.fr (by (first | omega | (intro s hs; omega) | (dsimp only; omega) | (intro s hs; dsimp only at hs; omega) | (simp; done))))
  obtain ⟨r94, H95, c96, rfl, q98, X99⟩ := keep_run F93 (rdE (rdL (rdL lf 2) 8) 2)
  have m100 := q98.1
  have m101 := X99.1
  refine Wo.call (by kernel_rfl) (by kernel_rfl) c96 ?_
  refine Wo.nil ?_
  refine Wp.seq ?_
  refine Wp.region ?_
  refine Wo.pre 1 (by kernel_rfl) ?_
  have F102 := (q87.fr X99 (by (first | omega | (intro s hs; omega) | (dsimp only; omega) | (intro s hs; dsimp only at hs; omega) | (simp; done))))
  obtain ⟨H103, x104, v105, c106, q107, q108, X109, q110⟩ := vec_any F102 (3) (by first | omega | (simp; omega) | (simp; done) | assumption | (have h := certP_few ‹certP _ = some _›; rw [says_len] at h; first | exact h | (simp only [List.length_cons]; omega)))
  have m111 := q107.bd
  have m112 := q108.bd
  have k113 := q108.parts
  have m114 := X109.1
  have m115 := q110.blk
  refine Wo.call (by kernel_rfl) (by kernel_rfl) c106 ?_
  refine Wo.pre 5 (by kernel_rfl) ?_
  refine Wo.nil ?_
  refine Wp.seq ?_
  refine Wp.region ?_
  refine Wo.pre 2 (by kernel_rfl) ?_
  have F116 := (q98.fr X109.fr (by (first | omega | (intro s hs; omega) | (dsimp only; omega) | (intro s hs; dsimp only at hs; omega) | (simp; done))))
  obtain ⟨r117, H118, c119, rfl, q121, X122⟩ := keep_run F116 (vE (rdL (rdL (rdL lf 2) 8) 2) 3)
  have m123 := q121.1
  have m124 := X122.1
  refine Wo.call (by kernel_rfl) (by kernel_rfl) c119 ?_
  refine Wo.nil ?_
  refine Wp.seq ?_
  refine Wp.region ?_
  refine Wo.pre 1 (by kernel_rfl) ?_
  have F125 := (q37.fr (((((((X50.fr.trans X61).trans X69.fr).trans X80).trans X88.fr).trans X99).trans X109.fr).trans X122) (by (first | omega | (intro s hs; omega) | (dsimp only; omega) | (intro s hs; dsimp only at hs; omega) | (simp; done))))
  rcases certs_run F125 hl2 with ⟨r126, H127, c128, z129, E130, v131, rfl, q133, X134, q135, (⟨q137, rfl, rfl⟩ | ⟨ps140, q141, rfl, q143⟩)⟩
  · skip
    have m144 := P5.1
    have m145 := P7.1
    have m146 := P9.1
    have m147 := F11.1
    have m148 := F12.bd
    have k149 := F12.parts
    have m150 := F28.1
    have m151 := F29.bd
    have k152 := F29.parts
    have m153 := F45.bd
    have m154 := F55.1
    have m155 := F64.bd
    have m156 := F74.1
    have m157 := F83.bd
    have m158 := F93.1
    have m159 := F102.bd
    have m160 := F116.1
    have m161 := F125.bd
    have m162 := q133.bd
    have m163 := X134.1
    have m164 := q135.blk
    refine Wo.call (by kernel_rfl) (by kernel_rfl) c128 ?_
    refine Wo.pre 5 (by kernel_rfl) ?_
    refine Wo.nil ?_
    refine Wp.seq ?_
    refine Wp.region ?_
    refine Wo.pre 2 (by kernel_rfl) ?_
    have F165 := (q121.fr X134.fr (by (first | omega | (intro s hs; omega) | (dsimp only; omega) | (intro s hs; dsimp only at hs; omega) | (simp; done))))
    obtain ⟨r166, H167, c168, rfl, q170, X171⟩ := keep_run F165 (4)
    have m172 := q170.1
    have m173 := X171.1
    refine Wo.call (by kernel_rfl) (by kernel_rfl) c168 ?_
    refine Wo.nil ?_
    refine Wp.seq ?_
    refine Wp.region ?_
    refine Wo.pre 2 (by kernel_rfl) ?_
    obtain ⟨H174, e174, P174, X174, n174⟩ := bsl_new H167 22 [x104] (ones_cons k113.2.1 ones_nil)
    refine Wo.val (.sl ⟨H.n H167, 0, 0⟩ 1 (.ex 1)) H174 (by kernel_rfl) (e174 (fill_cons (v := x104) (vs := [x104]) (by kernel_rfl) k113.1 (by kernel_rfl) rfl)) ?_
    have m175 := X174.1
    refine Wo.pre 1 (by kernel_rfl) ?_
    have F176 := (q108.fr (((X122.trans X134.fr).trans X171).transR X174) (by (first | omega | (intro s hs; omega) | (dsimp only; omega) | (intro s hs; dsimp only at hs; omega) | (simp; done))))
    obtain ⟨v177, H178, a179, q180, X181⟩ := app22_lit P174 F176 (OwnCh.none (lo := H174.n)) (by first | omega | (simp; omega) | (simp; done) | assumption | (have h := certP_few ‹certP _ = some _›; rw [says_len] at h; first | exact h | (simp only [List.length_cons]; omega)))
    refine Wo.val _ _ (by kernel_rfl) (iop_appG (v := AV.sl { b := H167.n, g := 0, o := 0 } 1 (Cp.ex 1)) (w := AV.nils) (by kernel_rfl) (by kernel_rfl) rfl a179) ?_
    have m182 := q180.bd
    have k183 := q180.parts
    have m184 := X181.1
    refine Wo.val (.agg [AV.int IntKind.u64 ↑(rdV (rdL lf 2) 8), v177]) H178 (by kernel_rfl) (iop_buildP (fill_cons (v := AV.int IntKind.u64 ↑(rdV (rdL lf 2) 8)) (vs := [AV.int IntKind.u64 ↑(rdV (rdL lf 2) 8)]) (by kernel_rfl) rfl (by kernel_rfl) (fill_cons (v := v177) (vs := [v177]) (by kernel_rfl) k183.1 (by kernel_rfl) rfl))) ?_
    obtain ⟨H185, e185, P185, X185, n185⟩ := pt_new H178 70 [AV.int IntKind.u64 0, AV.nils] (ones_cons rfl (ones_cons rfl ones_nil))
    refine Wo.val (.ptr ⟨H.n H178, 0, 0⟩) H185 (by kernel_rfl) (e185 (v := AV.agg [AV.int IntKind.u64 0, AV.nils]) (by kernel_rfl) rfl) ?_
    have m186 := X185.1
    obtain ⟨H187, e187, P187, X187, n187⟩ := P185.st 0 [AV.int IntKind.u64 ↑(rdV (rdL lf 2) 8), v177] (by simp) (ones_cons rfl (ones_cons k183.2.1 ones_nil))
    refine Wo.val .undef H187 (by kernel_rfl) (iop_stP (a := { b := H178.n, g := 0, o := 0 }) (v := AV.agg [AV.int IntKind.u64 ↑(rdV (rdL lf 2) 8), v177]) (vs := [AV.int IntKind.u64 ↑(rdV (rdL lf 2) 8), v177]) (by kernel_rfl) (by kernel_rfl) rfl rfl e187) ?_
    have m188 := X187.1
    replace P187 : Pt H187 H178.n (Blk.cells 0 70 [AV.int IntKind.u64 ↑(rdV (rdL lf 2) 8), v177] 0 false) := P187
    refine Wo.nil ?_
    refine Wp.seq ?_
    refine Wp.seq ?_
    refine Wp.region ?_
    have F189 := (q170.fr (((X174.trans0 X181.fr).trans0 X185).transL X187) (by (first | omega | (intro s hs; omega) | (dsimp only; omega) | (intro s hs; dsimp only at hs; omega) | (simp; done))))
    refine Wo.val (AV.int IntKind.i64 (orI (orI (orI (orI (orI 0 (rdE lf 2)) (rdE (rdL lf 2) 8)) (rdE (rdL (rdL lf 2) 8) 2)) (vE (rdL (rdL (rdL lf 2) 8) 2) 3)) 4)) H187 (by kernel_rfl) (iop_ldP F189 (a := { b := H7.n, g := 0, o := 0 }) (by kernel_rfl) rfl (by kernel_rfl)) ?_
    refine Wo.cmpN (op := .neq) (x := IX.t 68) (y := IX.c (AV.int IntKind.i64 0)) (k := IntKind.i64) (a := orI (orI (orI (orI (orI 0 (rdE lf 2)) (rdE (rdL lf 2) 8)) (rdE (rdL (rdL lf 2) 8) 2)) (vE (rdL (rdL (rdL lf 2) 8) 2) 3)) 4) (b := 0) ((orI (orI (orI (orI (orI 0 (rdE lf 2)) (rdE (rdL lf 2) 8)) (rdE (rdL (rdL lf 2) 8) 2)) (vE (rdL (rdL (rdL lf 2) 8) 2) 3)) 4 : Int) = (0 : Int)) (by kernel_rfl) (by kernel_rfl) (by kernel_rfl) (by kernel_rfl) (by simp) (by kernel_rfl) (fun q190 => ?_) (fun q190 => ?_)
    · skip
      exact absurd ‹orI _ 4 = 0› (by simp [orI_zero])
    · skip
      have m191 := F165.1
      have m192 := P174.1
      have m193 := F176.bd
      have k194 := F176.parts
      have m195 := P185.1
      have m196 := P187.1
      have m197 := F189.1
      refine Wo.pre 1 (by kernel_rfl) ?_
      refine Wo.pre 1 (by kernel_rfl) ?_
      refine Wo.pre 1 (by kernel_rfl) ?_
      refine Wo.pre 1 (by kernel_rfl) ?_
      refine Wo.pre 1 (by kernel_rfl) ?_
      refine Wo.nil ?_
      refine Wp.cond true (by kernel_rfl) ?_
      refine Wp.seq ?_
      refine Wp.region ?_
      refine Wo.val (.agg [AV.int IntKind.u64 0, AV.nils]) H187 (by kernel_rfl) (iop_buildP rfl) ?_
      have F198 := (P7.fr ((((((((((((((((X9.trans0 X21.fr).trans0 X38.fr).transL X50.fr).trans X61).trans X69.fr).trans X80).trans X88.fr).trans X99).trans X109.fr).trans X122).trans X134.fr).trans X171).transR X174).transR X181.fr).transR X185).trans X187) (by (first | omega | (intro s hs; omega) | (dsimp only; omega) | (intro s hs; dsimp only at hs; omega) | (simp; done))))
      obtain ⟨H199, e199, P199, X199, n199⟩ := F198.st 0 [AV.int IntKind.u64 0, AV.nils] (by simp) (ones_cons rfl (ones_cons rfl ones_nil))
      refine Wo.val .undef H199 (by kernel_rfl) (iop_stP (a := { b := H5.n, g := 0, o := 0 }) (v := AV.agg [AV.int IntKind.u64 0, AV.nils]) (vs := [AV.int IntKind.u64 0, AV.nils]) (by kernel_rfl) (by kernel_rfl) rfl rfl e199) ?_
      have m200 := X199.1
      replace P199 : Pt H199 H5.n (Blk.cells 0 70 [AV.int IntKind.u64 0, AV.nils] 0 false) := P199
      refine Wo.pre 1 (by kernel_rfl) ?_
      refine Wo.nil ?_
      refine Wp.ret ?_
      refine ⟨.inr rfl, (.tup [AV.agg [AV.int IntKind.u64 0, AV.nils], AV.int IntKind.i64 5]), (ret_many (res_cell (a := { b := H5.n, g := 0, o := 0 }) (by kernel_rfl) (P199.ld rfl (by kernel_rfl)) (res_tmp (by kernel_rfl) res_nil)) rfl), ?_⟩
      dsimp only
      exact ⟨0, .nils, [], 5, rfl, ((((((((((((((((((((X5.trans0 X7).trans0 X9).trans0 X21.fr).trans0 X38.fr).transL X50.fr).trans X61).trans X69.fr).trans X80).trans X88.fr).trans X99).trans X109.fr).trans X122).trans X134.fr).trans X171).transR X174).transR X181.fr).transR X185).trans X187).trans X199).ext (by intro s hs; first | omega | (dsimp only at hs; omega))), OwnK.none, (by (exact prog_bad (fun e => by rw [pE, ‹certP _ = none›] at e; simp at e)))⟩
  · skip
    have m201 := P5.1
    have m202 := P7.1
    have m203 := P9.1
    have m204 := F11.1
    have m205 := F12.bd
    have k206 := F12.parts
    have m207 := F28.1
    have m208 := F29.bd
    have k209 := F29.parts
    have m210 := F45.bd
    have m211 := F55.1
    have m212 := F64.bd
    have m213 := F74.1
    have m214 := F83.bd
    have m215 := F93.1
    have m216 := F102.bd
    have m217 := F116.1
    have m218 := F125.bd
    have m219 := q133.bd
    have m220 := q143.bd
    have k221 := q143.parts
    have m222 := X134.1
    have m223 := q135.blk
    refine Wo.call (by kernel_rfl) (by kernel_rfl) c128 ?_
    refine Wo.pre 5 (by kernel_rfl) ?_
    refine Wo.nil ?_
    refine Wp.seq ?_
    refine Wp.region ?_
    refine Wo.pre 2 (by kernel_rfl) ?_
    have F224 := (q121.fr X134.fr (by (first | omega | (intro s hs; omega) | (dsimp only; omega) | (intro s hs; dsimp only at hs; omega) | (simp; done))))
    obtain ⟨r225, H226, c227, rfl, q229, X230⟩ := keep_run F224 (0)
    have m231 := q229.1
    have m232 := X230.1
    refine Wo.call (by kernel_rfl) (by kernel_rfl) c227 ?_
    refine Wo.nil ?_
    refine Wp.seq ?_
    refine Wp.region ?_
    refine Wo.pre 2 (by kernel_rfl) ?_
    obtain ⟨H233, e233, P233, X233, n233⟩ := bsl_new H226 22 [x104] (ones_cons k113.2.1 ones_nil)
    refine Wo.val (.sl ⟨H.n H226, 0, 0⟩ 1 (.ex 1)) H233 (by kernel_rfl) (e233 (fill_cons (v := x104) (vs := [x104]) (by kernel_rfl) k113.1 (by kernel_rfl) rfl)) ?_
    have m234 := X233.1
    refine Wo.pre 1 (by kernel_rfl) ?_
    have F235 := (q108.fr (((X122.trans X134.fr).trans X230).transR X233) (by (first | omega | (intro s hs; omega) | (dsimp only; omega) | (intro s hs; dsimp only at hs; omega) | (simp; done))))
    have F236 := (q143.fr (X230.transR X233) (by (first | omega | (intro s hs; omega) | (dsimp only; omega) | (intro s hs; dsimp only at hs; omega) | (simp; done))))
    obtain ⟨v237, H238, a239, q240, X241⟩ := app22_lit P233 F235 F236 (by first | omega | (simp; omega) | (simp; done) | assumption | (have h := certP_few ‹certP _ = some _›; rw [says_len] at h; first | exact h | (simp only [List.length_cons]; omega)))
    refine Wo.val _ _ (by kernel_rfl) (iop_appG (v := AV.sl { b := H226.n, g := 0, o := 0 } 1 (Cp.ex 1)) (w := z129) (by kernel_rfl) (by kernel_rfl) k221.2.2 a239) ?_
    have m242 := q240.bd
    have k243 := q240.parts
    have m244 := X241.1
    refine Wo.val (.agg [AV.int IntKind.u64 ↑(rdV (rdL lf 2) 8), v237]) H238 (by kernel_rfl) (iop_buildP (fill_cons (v := AV.int IntKind.u64 ↑(rdV (rdL lf 2) 8)) (vs := [AV.int IntKind.u64 ↑(rdV (rdL lf 2) 8)]) (by kernel_rfl) rfl (by kernel_rfl) (fill_cons (v := v237) (vs := [v237]) (by kernel_rfl) k243.1 (by kernel_rfl) rfl))) ?_
    obtain ⟨H245, e245, P245, X245, n245⟩ := pt_new H238 70 [AV.int IntKind.u64 0, AV.nils] (ones_cons rfl (ones_cons rfl ones_nil))
    refine Wo.val (.ptr ⟨H.n H238, 0, 0⟩) H245 (by kernel_rfl) (e245 (v := AV.agg [AV.int IntKind.u64 0, AV.nils]) (by kernel_rfl) rfl) ?_
    have m246 := X245.1
    obtain ⟨H247, e247, P247, X247, n247⟩ := P245.st 0 [AV.int IntKind.u64 ↑(rdV (rdL lf 2) 8), v237] (by simp) (ones_cons rfl (ones_cons k243.2.1 ones_nil))
    refine Wo.val .undef H247 (by kernel_rfl) (iop_stP (a := { b := H238.n, g := 0, o := 0 }) (v := AV.agg [AV.int IntKind.u64 ↑(rdV (rdL lf 2) 8), v237]) (vs := [AV.int IntKind.u64 ↑(rdV (rdL lf 2) 8), v237]) (by kernel_rfl) (by kernel_rfl) rfl rfl e247) ?_
    have m248 := X247.1
    replace P247 : Pt H247 H238.n (Blk.cells 0 70 [AV.int IntKind.u64 ↑(rdV (rdL lf 2) 8), v237] 0 false) := P247
    refine Wo.nil ?_
    refine Wp.seq ?_
    refine Wp.seq ?_
    refine Wp.region ?_
    have F249 := (q229.fr (((X233.trans0 X241.fr).trans0 X245).transL X247) (by (first | omega | (intro s hs; omega) | (dsimp only; omega) | (intro s hs; dsimp only at hs; omega) | (simp; done))))
    refine Wo.val (AV.int IntKind.i64 (orI (orI (orI (orI (orI 0 (rdE lf 2)) (rdE (rdL lf 2) 8)) (rdE (rdL (rdL lf 2) 8) 2)) (vE (rdL (rdL (rdL lf 2) 8) 2) 3)) 0)) H247 (by kernel_rfl) (iop_ldP F249 (a := { b := H7.n, g := 0, o := 0 }) (by kernel_rfl) rfl (by kernel_rfl)) ?_
    refine Wo.cmpN (op := .neq) (x := IX.t 68) (y := IX.c (AV.int IntKind.i64 0)) (k := IntKind.i64) (a := orI (orI (orI (orI (orI 0 (rdE lf 2)) (rdE (rdL lf 2) 8)) (rdE (rdL (rdL lf 2) 8) 2)) (vE (rdL (rdL (rdL lf 2) 8) 2) 3)) 0) (b := 0) ((orI (orI (orI (orI (orI 0 (rdE lf 2)) (rdE (rdL lf 2) 8)) (rdE (rdL (rdL lf 2) 8) 2)) (vE (rdL (rdL (rdL lf 2) 8) 2) 3)) 0 : Int) = (0 : Int)) (by kernel_rfl) (by kernel_rfl) (by kernel_rfl) (by kernel_rfl) (by simp) (by kernel_rfl) (fun q250 => ?_) (fun q250 => ?_)
    · skip
      have m251 := F224.1
      have m252 := P233.1
      have m253 := F235.bd
      have k254 := F235.parts
      have m255 := F236.bd
      have k256 := F236.parts
      have m257 := P245.1
      have m258 := P247.1
      have m259 := F249.1
      refine Wo.pre 1 (by kernel_rfl) ?_
      refine Wo.val (AV.agg [AV.int IntKind.u64 ↑(rdV (rdL lf 2) 8), v237]) H247 (by kernel_rfl) (iop_ldP P247 (a := { b := H238.n, g := 0, o := 0 }) (by kernel_rfl) rfl (by kernel_rfl)) ?_
      have F260 := (q240.fr (X245.transL X247) (by (first | omega | (intro s hs; omega) | (dsimp only; omega) | (intro s hs; dsimp only at hs; omega) | (simp; done))))
      obtain ⟨r261, H262, c263, rfl, X265⟩ := may_run F260.ch (by first | omega | (simp; omega) | (simp; done) | assumption | (have h := certP_few ‹certP _ = some _›; rw [says_len] at h; first | exact h | (simp only [List.length_cons]; omega))) (rdV (rdL lf 2) 8)
      have m266 := X265.1
      refine Wo.call (by kernel_rfl) (by kernel_rfl) c263 ?_
      refine Wo.boolS (fun q267 => ?_) (fun q267 => ?_)
      · skip
        have m268 := F260.bd
        have k269 := F260.parts
        refine Wo.pre 2 (by kernel_rfl) ?_
        refine Wo.nil ?_
        refine Wp.cond false (by kernel_rfl) ?_
        refine Wp.skip ?_
        refine Wp.seq ?_
        refine Wp.region ?_
        have F270 := (P247.fr X265.fr id)
        refine Wo.val (AV.agg [AV.int IntKind.u64 ↑(rdV (rdL lf 2) 8), v237]) H262 (by kernel_rfl) (iop_ldP F270 (a := { b := H238.n, g := 0, o := 0 }) (by kernel_rfl) rfl (by kernel_rfl)) ?_
        have F271 := (F260.fr X265.fr (fun _ e => e.elim))
        obtain ⟨r272, H273, c274, z275, w276, rfl, X278, q279, q280, q281⟩ := item_run F271.ch (by first | omega | (simp; omega) | (simp; done) | assumption | (have h := certP_few ‹certP _ = some _›; rw [says_len] at h; first | exact h | (simp only [List.length_cons]; omega))) rv
        have m282 := X278.1
        have m283 := q279.bd
        have k284 := q279.parts
        have m285 := q280.bd
        have k286 := q280.parts
        refine Wo.call (by kernel_rfl) (by kernel_rfl) c274 ?_
        refine Wo.pre 3 (by kernel_rfl) ?_
        obtain ⟨H287, e287, P287, X287, n287⟩ := pt_new H273 78 [AV.nils, AV.nils] (ones_cons rfl (ones_cons rfl ones_nil))
        refine Wo.val (.ptr ⟨H.n H273, 0, 0⟩) H287 (by kernel_rfl) (e287 (v := AV.agg [AV.nils, AV.nils]) (by kernel_rfl) rfl) ?_
        have m288 := X287.1
        obtain ⟨H289, e289, P289, X289, n289⟩ := P287.st 0 [z275, w276] (by simp) (ones_cons k284.2.1 (ones_cons k286.2.1 ones_nil))
        refine Wo.val .undef H289 (by kernel_rfl) (iop_stP (a := { b := H273.n, g := 0, o := 0 }) (v := AV.agg [z275, w276]) (vs := [z275, w276]) (by kernel_rfl) (by kernel_rfl) rfl rfl e289) ?_
        have m290 := X289.1
        replace P289 : Pt H289 H273.n (Blk.cells 0 78 [z275, w276] 0 false) := P289
        refine Wo.pre 1 (by kernel_rfl) ?_
        refine Wo.nil ?_
        refine Wp.seq ?_
        refine Wp.seq ?_
        refine Wp.region ?_
        refine Wo.pre 1 (by kernel_rfl) ?_
        refine Wo.cmpN (op := .neq) (x := IX.t 81) (y := IX.c (AV.int IntKind.i64 0)) (k := IntKind.i64) (a := leafE ((x104, vX (rdL (rdL (rdL lf 2) 8) 2) 3) :: ps140)) (b := 0) ((leafE ((x104, vX (rdL (rdL (rdL lf 2) 8) 2) 3) :: ps140) : Int) = (0 : Int)) (by kernel_rfl) (by kernel_rfl) (by kernel_rfl) (by kernel_rfl) (by simp) (by kernel_rfl) (fun q291 => ?_) (fun q291 => ?_)
        · skip
          have m292 := F270.1
          have m293 := F271.bd
          have k294 := F271.parts
          have m295 := P287.1
          have m296 := P289.1
          refine Wo.pre 2 (by kernel_rfl) ?_
          refine Wo.val (z275) H289 (by kernel_rfl) (iop_ldP P289 (a := { b := H273.n, g := 0, o := 0 }) (by kernel_rfl) rfl (by kernel_rfl)) ?_
          refine Wo.pre 1 (by kernel_rfl) ?_
          have F297 := (F28.fr ((((((((((((((((((X38.fr.transL X50.fr).trans X61).trans X69.fr).trans X80).trans X88.fr).trans X99).trans X109.fr).trans X122).trans X134.fr).trans X230).transR X233).transR X241.fr).transR X245).trans X247).transR X265.fr).transR X278.fr).transR X287).trans X289) (by (first | omega | (intro s hs; omega) | (dsimp only; omega) | (intro s hs; dsimp only at hs; omega) | (simp; done))))
          refine Wo.val (y) H289 (by kernel_rfl) (iop_ldP F297 (a := { b := h.n, g := 0, o := 0 }) (by kernel_rfl) rfl (by kernel_rfl)) ?_
          have F298 := (q279.fr (X287.transL X289) (by (first | omega | (intro s hs; omega) | (dsimp only; omega) | (intro s hs; dsimp only at hs; omega) | (simp; done))))
          have F299 := (F12.fr (((((((((((((((((((X21.fr.trans0 X38.fr).transL X50.fr).trans X61).trans X69.fr).trans X80).trans X88.fr).trans X99).trans X109.fr).trans X122).trans X134.fr).trans X230).transR X233).transR X241.fr).transR X245).trans X247).transR X265.fr).transR X278.fr).transR X287).trans X289) (by (first | omega | (intro s hs; omega) | (dsimp only; omega) | (intro s hs; dsimp only at hs; omega) | (simp; done))))
          have c300 := equal_run F298.bs F299
          refine Wo.call (by kernel_rfl) (by kernel_rfl) c300 ?_
          refine Wo.boolS (fun q301 => ?_) (fun q301 => ?_)
          · skip
            have m302 := F297.1
            have m303 := F298.bd
            have k304 := F298.parts
            have m305 := F299.bd
            have k306 := F299.parts
            refine Wo.pre 4 (by kernel_rfl) ?_
            refine Wo.val (w276) H289 (by kernel_rfl) (iop_ldP P289 (a := { b := H273.n, g := 0, o := 1 }) (by kernel_rfl) rfl (by kernel_rfl)) ?_
            refine Wo.pre 1 (by kernel_rfl) ?_
            refine Wo.val (x) H289 (by kernel_rfl) (iop_ldP F297 (a := { b := h.n, g := 0, o := 1 }) (by kernel_rfl) rfl (by kernel_rfl)) ?_
            have F307 := (q280.fr (X287.transL X289) (by (first | omega | (intro s hs; omega) | (dsimp only; omega) | (intro s hs; dsimp only at hs; omega) | (simp; done))))
            have F308 := (F29.fr ((((((((((((((((((X38.fr.transL X50.fr).trans X61).trans X69.fr).trans X80).trans X88.fr).trans X99).trans X109.fr).trans X122).trans X134.fr).trans X230).transR X233).transR X241.fr).transR X245).trans X247).transR X265.fr).transR X278.fr).transR X287).trans X289) (by (first | omega | (intro s hs; omega) | (dsimp only; omega) | (intro s hs; dsimp only at hs; omega) | (simp; done))))
            have c309 := equal_run F307.bs F308
            refine Wo.call (by kernel_rfl) (by kernel_rfl) c309 ?_
            refine Wo.boolS (fun q310 => ?_) (fun q310 => ?_)
            · skip
              have m311 := F307.bd
              have k312 := F307.parts
              have m313 := F308.bd
              have k314 := F308.parts
              refine Wo.pre 2 (by kernel_rfl) ?_
              refine Wo.nil ?_
              refine Wp.cond false (by kernel_rfl) ?_
              refine Wp.skip ?_
              refine Wp.seq ?_
              refine Wp.region ?_
              have F315 := (F270.fr ((X278.fr.trans0 X287).transL X289) (by (first | omega | (intro s hs; omega) | (dsimp only; omega) | (intro s hs; dsimp only at hs; omega) | (simp; done))))
              refine Wo.val (AV.agg [AV.int IntKind.u64 ↑(rdV (rdL lf 2) 8), v237]) H289 (by kernel_rfl) (iop_ldP F315 (a := { b := H238.n, g := 0, o := 0 }) (by kernel_rfl) rfl (by kernel_rfl)) ?_
              have F316 := (P7.fr ((((((((((((((((((((X9.trans0 X21.fr).trans0 X38.fr).transL X50.fr).trans X61).trans X69.fr).trans X80).trans X88.fr).trans X99).trans X109.fr).trans X122).trans X134.fr).trans X230).transR X233).transR X241.fr).transR X245).trans X247).transR X265.fr).transR X278.fr).transR X287).trans X289) (by (first | omega | (intro s hs; omega) | (dsimp only; omega) | (intro s hs; dsimp only at hs; omega) | (simp; done))))
              obtain ⟨H317, e317, P317, X317, n317⟩ := F316.st 0 [AV.int IntKind.u64 ↑(rdV (rdL lf 2) 8), v237] (by simp) (ones_cons rfl (ones_cons k294.2.1 ones_nil))
              refine Wo.val .undef H317 (by kernel_rfl) (iop_stP (a := { b := H5.n, g := 0, o := 0 }) (v := AV.agg [AV.int IntKind.u64 ↑(rdV (rdL lf 2) 8), v237]) (vs := [AV.int IntKind.u64 ↑(rdV (rdL lf 2) 8), v237]) (by kernel_rfl) (by kernel_rfl) rfl rfl e317) ?_
              have m318 := X317.1
              replace P317 : Pt H317 H5.n (Blk.cells 0 70 [AV.int IntKind.u64 ↑(rdV (rdL lf 2) 8), v237] 0 false) := P317
              refine Wo.pre 1 (by kernel_rfl) ?_
              refine Wo.nil ?_
              refine Wp.ret ?_
              refine ⟨.inr rfl, (.tup [AV.agg [AV.int IntKind.u64 ↑(rdV (rdL lf 2) 8), v237], AV.int IntKind.i64 0]), (ret_many (res_cell (a := { b := H5.n, g := 0, o := 0 }) (by kernel_rfl) (P317.ld rfl (by kernel_rfl)) (res_tmp (by kernel_rfl) res_nil)) rfl), ?_⟩
              dsimp only
              exact ⟨_, _, _, 0, rfl, ((((((((((((((((((((((((X5.trans0 X7).trans0 X9).trans0 X21.fr).trans0 X38.fr).transL X50.fr).trans X61).trans X69.fr).trans X80).trans X88.fr).trans X99).trans X109.fr).trans X122).trans X134.fr).trans X230).transR X233).transR X241.fr).transR X245).trans X247).transR X265.fr).transR X278.fr).transR X287).trans X289).trans X317).ext (by intro s hs; first | omega | (dsimp only at hs; omega))), ((F271.fr (((X278.fr.trans0 X287).transL X289).trans X317) (by (first | omega | (intro s hs; omega) | (dsimp only; omega) | (intro s hs; dsimp only at hs; omega) | (simp; done)))).mono (by omega)), (by (have a := ‹mayE _ = true›; have b := eq_of_beq ‹(leafX _ _ == _) = true›; have c := eq_of_beq ‹(extraX _ == _) = true›; rw [leafX, if_pos a] at b; rw [extraX, if_pos a, List.drop_one, List.tail_cons, list_says] at c; rw [may_says] at a; exact prog_good (rdV8_lt _) a b c))⟩
            · skip
              have m319 := F307.bd
              have k320 := F307.parts
              have m321 := F308.bd
              have k322 := F308.parts
              refine Wo.pre 2 (by kernel_rfl) ?_
              refine Wo.nil ?_
              refine Wp.cond true (by kernel_rfl) ?_
              refine Wp.seq ?_
              refine Wp.region ?_
              refine Wo.val (.agg [AV.int IntKind.u64 0, AV.nils]) H289 (by kernel_rfl) (iop_buildP rfl) ?_
              have F323 := (P7.fr ((((((((((((((((((((X9.trans0 X21.fr).trans0 X38.fr).transL X50.fr).trans X61).trans X69.fr).trans X80).trans X88.fr).trans X99).trans X109.fr).trans X122).trans X134.fr).trans X230).transR X233).transR X241.fr).transR X245).trans X247).transR X265.fr).transR X278.fr).transR X287).trans X289) (by (first | omega | (intro s hs; omega) | (dsimp only; omega) | (intro s hs; dsimp only at hs; omega) | (simp; done))))
              obtain ⟨H324, e324, P324, X324, n324⟩ := F323.st 0 [AV.int IntKind.u64 0, AV.nils] (by simp) (ones_cons rfl (ones_cons rfl ones_nil))
              refine Wo.val .undef H324 (by kernel_rfl) (iop_stP (a := { b := H5.n, g := 0, o := 0 }) (v := AV.agg [AV.int IntKind.u64 0, AV.nils]) (vs := [AV.int IntKind.u64 0, AV.nils]) (by kernel_rfl) (by kernel_rfl) rfl rfl e324) ?_
              have m325 := X324.1
              replace P324 : Pt H324 H5.n (Blk.cells 0 70 [AV.int IntKind.u64 0, AV.nils] 0 false) := P324
              refine Wo.pre 1 (by kernel_rfl) ?_
              refine Wo.nil ?_
              refine Wp.ret ?_
              refine ⟨.inr rfl, (.tup [AV.agg [AV.int IntKind.u64 0, AV.nils], AV.int IntKind.i64 5]), (ret_many (res_cell (a := { b := H5.n, g := 0, o := 0 }) (by kernel_rfl) (P324.ld rfl (by kernel_rfl)) (res_tmp (by kernel_rfl) res_nil)) rfl), ?_⟩
              dsimp only
              exact ⟨0, .nils, [], 5, rfl, ((((((((((((((((((((((((X5.trans0 X7).trans0 X9).trans0 X21.fr).trans0 X38.fr).transL X50.fr).trans X61).trans X69.fr).trans X80).trans X88.fr).trans X99).trans X109.fr).trans X122).trans X134.fr).trans X230).transR X233).transR X241.fr).transR X245).trans X247).transR X265.fr).transR X278.fr).transR X287).trans X289).trans X324).ext (by intro s hs; first | omega | (dsimp only at hs; omega))), OwnK.none, (by (exact prog_not (by assumption) (fun e => by have h1 := e.2.2; have h2 := ‹(extraX _ == _) = false›; rw [extraX, if_pos ‹mayE _ = true›, List.drop_one, List.tail_cons, list_says] at h2; exact ne_of_beq_false h2 h1)))⟩
          · skip
            have m326 := F297.1
            have m327 := F298.bd
            have k328 := F298.parts
            have m329 := F299.bd
            have k330 := F299.parts
            refine Wo.pre 4 (by kernel_rfl) ?_
            refine Wo.pre 1 (by kernel_rfl) ?_
            refine Wo.pre 1 (by kernel_rfl) ?_
            refine Wo.pre 1 (by kernel_rfl) ?_
            refine Wo.pre 1 (by kernel_rfl) ?_
            refine Wo.pre 1 (by kernel_rfl) ?_
            refine Wo.pre 1 (by kernel_rfl) ?_
            refine Wo.nil ?_
            refine Wp.cond true (by kernel_rfl) ?_
            refine Wp.seq ?_
            refine Wp.region ?_
            refine Wo.val (.agg [AV.int IntKind.u64 0, AV.nils]) H289 (by kernel_rfl) (iop_buildP rfl) ?_
            have F331 := (P7.fr ((((((((((((((((((((X9.trans0 X21.fr).trans0 X38.fr).transL X50.fr).trans X61).trans X69.fr).trans X80).trans X88.fr).trans X99).trans X109.fr).trans X122).trans X134.fr).trans X230).transR X233).transR X241.fr).transR X245).trans X247).transR X265.fr).transR X278.fr).transR X287).trans X289) (by (first | omega | (intro s hs; omega) | (dsimp only; omega) | (intro s hs; dsimp only at hs; omega) | (simp; done))))
            obtain ⟨H332, e332, P332, X332, n332⟩ := F331.st 0 [AV.int IntKind.u64 0, AV.nils] (by simp) (ones_cons rfl (ones_cons rfl ones_nil))
            refine Wo.val .undef H332 (by kernel_rfl) (iop_stP (a := { b := H5.n, g := 0, o := 0 }) (v := AV.agg [AV.int IntKind.u64 0, AV.nils]) (vs := [AV.int IntKind.u64 0, AV.nils]) (by kernel_rfl) (by kernel_rfl) rfl rfl e332) ?_
            have m333 := X332.1
            replace P332 : Pt H332 H5.n (Blk.cells 0 70 [AV.int IntKind.u64 0, AV.nils] 0 false) := P332
            refine Wo.pre 1 (by kernel_rfl) ?_
            refine Wo.nil ?_
            refine Wp.ret ?_
            refine ⟨.inr rfl, (.tup [AV.agg [AV.int IntKind.u64 0, AV.nils], AV.int IntKind.i64 5]), (ret_many (res_cell (a := { b := H5.n, g := 0, o := 0 }) (by kernel_rfl) (P332.ld rfl (by kernel_rfl)) (res_tmp (by kernel_rfl) res_nil)) rfl), ?_⟩
            dsimp only
            exact ⟨0, .nils, [], 5, rfl, ((((((((((((((((((((((((X5.trans0 X7).trans0 X9).trans0 X21.fr).trans0 X38.fr).transL X50.fr).trans X61).trans X69.fr).trans X80).trans X88.fr).trans X99).trans X109.fr).trans X122).trans X134.fr).trans X230).transR X233).transR X241.fr).transR X245).trans X247).transR X265.fr).transR X278.fr).transR X287).trans X289).trans X332).ext (by intro s hs; first | omega | (dsimp only at hs; omega))), OwnK.none, (by (exact prog_not (by assumption) (fun e => by have h1 := e.2.1; have h2 := ‹(leafX _ _ == _) = false›; rw [leafX, if_pos ‹mayE _ = true›] at h2; exact ne_of_beq_false h2 h1)))⟩
        · skip
          exact absurd (show leafE _ = 0 from if_pos ‹mayE _ = true›) ‹¬ leafE _ = 0›
      · skip
        have m334 := F260.bd
        have k335 := F260.parts
        refine Wo.pre 2 (by kernel_rfl) ?_
        refine Wo.nil ?_
        refine Wp.cond true (by kernel_rfl) ?_
        refine Wp.seq ?_
        refine Wp.region ?_
        refine Wo.val (.agg [AV.int IntKind.u64 0, AV.nils]) H262 (by kernel_rfl) (iop_buildP rfl) ?_
        have F336 := (P7.fr (((((((((((((((((X9.trans0 X21.fr).trans0 X38.fr).transL X50.fr).trans X61).trans X69.fr).trans X80).trans X88.fr).trans X99).trans X109.fr).trans X122).trans X134.fr).trans X230).transR X233).transR X241.fr).transR X245).trans X247).transR X265.fr) (by (first | omega | (intro s hs; omega) | (dsimp only; omega) | (intro s hs; dsimp only at hs; omega) | (simp; done))))
        obtain ⟨H337, e337, P337, X337, n337⟩ := F336.st 0 [AV.int IntKind.u64 0, AV.nils] (by simp) (ones_cons rfl (ones_cons rfl ones_nil))
        refine Wo.val .undef H337 (by kernel_rfl) (iop_stP (a := { b := H5.n, g := 0, o := 0 }) (v := AV.agg [AV.int IntKind.u64 0, AV.nils]) (vs := [AV.int IntKind.u64 0, AV.nils]) (by kernel_rfl) (by kernel_rfl) rfl rfl e337) ?_
        have m338 := X337.1
        replace P337 : Pt H337 H5.n (Blk.cells 0 70 [AV.int IntKind.u64 0, AV.nils] 0 false) := P337
        refine Wo.pre 1 (by kernel_rfl) ?_
        refine Wo.nil ?_
        refine Wp.ret ?_
        refine ⟨.inr rfl, (.tup [AV.agg [AV.int IntKind.u64 0, AV.nils], AV.int IntKind.i64 5]), (ret_many (res_cell (a := { b := H5.n, g := 0, o := 0 }) (by kernel_rfl) (P337.ld rfl (by kernel_rfl)) (res_tmp (by kernel_rfl) res_nil)) rfl), ?_⟩
        dsimp only
        exact ⟨0, .nils, [], 5, rfl, (((((((((((((((((((((X5.trans0 X7).trans0 X9).trans0 X21.fr).trans0 X38.fr).transL X50.fr).trans X61).trans X69.fr).trans X80).trans X88.fr).trans X99).trans X109.fr).trans X122).trans X134.fr).trans X230).transR X233).transR X241.fr).transR X245).trans X247).transR X265.fr).trans X337).ext (by intro s hs; first | omega | (dsimp only at hs; omega))), OwnK.none, (by (exact prog_not (by assumption) (fun e => by have h1 := e.1; have h2 := ‹mayE _ = false›; rw [may_says] at h2; exact absurd (h2.symm.trans h1) (by simp))))⟩
    · skip
      have m339 := F224.1
      have m340 := P233.1
      have m341 := F235.bd
      have k342 := F235.parts
      have m343 := F236.bd
      have k344 := F236.parts
      have m345 := P245.1
      have m346 := P247.1
      have m347 := F249.1
      refine Wo.pre 1 (by kernel_rfl) ?_
      refine Wo.pre 1 (by kernel_rfl) ?_
      refine Wo.pre 1 (by kernel_rfl) ?_
      refine Wo.pre 1 (by kernel_rfl) ?_
      refine Wo.pre 1 (by kernel_rfl) ?_
      refine Wo.nil ?_
      refine Wp.cond true (by kernel_rfl) ?_
      refine Wp.seq ?_
      refine Wp.region ?_
      refine Wo.val (.agg [AV.int IntKind.u64 0, AV.nils]) H247 (by kernel_rfl) (iop_buildP rfl) ?_
      have F348 := (P7.fr ((((((((((((((((X9.trans0 X21.fr).trans0 X38.fr).transL X50.fr).trans X61).trans X69.fr).trans X80).trans X88.fr).trans X99).trans X109.fr).trans X122).trans X134.fr).trans X230).transR X233).transR X241.fr).transR X245).trans X247) (by (first | omega | (intro s hs; omega) | (dsimp only; omega) | (intro s hs; dsimp only at hs; omega) | (simp; done))))
      obtain ⟨H349, e349, P349, X349, n349⟩ := F348.st 0 [AV.int IntKind.u64 0, AV.nils] (by simp) (ones_cons rfl (ones_cons rfl ones_nil))
      refine Wo.val .undef H349 (by kernel_rfl) (iop_stP (a := { b := H5.n, g := 0, o := 0 }) (v := AV.agg [AV.int IntKind.u64 0, AV.nils]) (vs := [AV.int IntKind.u64 0, AV.nils]) (by kernel_rfl) (by kernel_rfl) rfl rfl e349) ?_
      have m350 := X349.1
      replace P349 : Pt H349 H5.n (Blk.cells 0 70 [AV.int IntKind.u64 0, AV.nils] 0 false) := P349
      refine Wo.pre 1 (by kernel_rfl) ?_
      refine Wo.nil ?_
      refine Wp.ret ?_
      refine ⟨.inr rfl, (.tup [AV.agg [AV.int IntKind.u64 0, AV.nils], AV.int IntKind.i64 5]), (ret_many (res_cell (a := { b := H5.n, g := 0, o := 0 }) (by kernel_rfl) (P349.ld rfl (by kernel_rfl)) (res_tmp (by kernel_rfl) res_nil)) rfl), ?_⟩
      dsimp only
      exact ⟨0, .nils, [], 5, rfl, ((((((((((((((((((((X5.trans0 X7).trans0 X9).trans0 X21.fr).trans0 X38.fr).transL X50.fr).trans X61).trans X69.fr).trans X80).trans X88.fr).trans X99).trans X109.fr).trans X122).trans X134.fr).trans X230).transR X233).transR X241.fr).transR X245).trans X247).trans X349).ext (by intro s hs; first | omega | (dsimp only at hs; omega))), OwnK.none, (by exact prog_bad (fun e => ‹¬ orI _ _ = 0› (by simp only [orI_zero, e.1, e.2.1, e.2.2.1, e.2.2.2.1, and_self])))⟩

theorem rd8_of {l : List UInt8} (h : 8 = l.length) : rdV l 8 = be l := by
  rw [(rd8_good (by omega)).2.1, List.take_of_length_le (by omega)]

theorem leafE_zero {xs : List (AV × List UInt8)} (h : leafE xs = 0) : mayE xs = true := by
  unfold leafE at h
  by_cases hm : mayE xs = true
  · exact hm
  · rw [if_neg hm] at h; cases h
/-- The chain that the reference's reading lays out. -/
def itemXs (lf : List UInt8) (z : AV) (ps : List (AV × List UInt8)) : List (AV × List UInt8) := [] ++ [(z, List.drop 15 (List.take (lf.length - 2) lf))] ++ ps
theorem itemXs_may {lf : List UInt8} {z : AV} {ps : List (AV × List UInt8)} : mayE (itemXs lf z ps) = mayS (itemC lf :: says ps) := may_says _
theorem itemT_rd {lf : List UInt8} (h : 17 ≤ lf.length) : rdV (List.drop 2 (List.take 10 lf)) 8 = itemT lf := rd8_of (by rw [List.length_drop, List.length_take]; omega)
theorem itemR_1 {lf ex : List UInt8} {z : AV} {ps : List (AV × List UInt8)} (h : 17 ≤ lf.length) (hc : certR ex = some (says ps)) (hq : ¬ leafE (itemXs lf z ps) = 0) : itemOf lf ex = (0, says [], 5) := by
  rw [item_some h hc, if_neg (fun e => hq (if_pos (itemXs_may.trans e.1)))]; rfl
theorem itemR_2 {lf ex : List UInt8} {z : AV} {ps : List (AV × List UInt8)} (h : 17 ≤ lf.length) (hc : certR ex = some (says ps)) (he : leafE (itemXs lf z ps) = 0) (hq : leafX (rdV (List.drop 2 (List.take 10 lf)) 8) (itemXs lf z ps) ≠ lf) : itemOf lf ex = (0, says [], 5) := by
  rw [leafX, if_pos (leafE_zero he), itemT_rd h] at hq
  rw [item_some h hc, if_neg (fun e => hq e.2)]; rfl
theorem itemR_3 {lf ex : List UInt8} {z : AV} {ps : List (AV × List UInt8)} (hc : certR ex = some (says ps)) (he : leafE (itemXs lf z ps) = 0) : extraX (itemXs lf z ps) = ex := by
  rw [extraX, if_pos (leafE_zero he)]
  show listB ps = ex
  rw [list_says]
  exact (certR_dec hc).1
theorem itemR_4 {lf ex : List UInt8} {z : AV} {ps zs : List (AV × List UInt8)} (h : 17 ≤ lf.length) (hc : certR ex = some (says ps)) (he : leafE (itemXs lf z ps) = 0) (hq : leafX (rdV (List.drop 2 (List.take 10 lf)) 8) (itemXs lf z ps) = lf) (hz : says zs = says (itemXs lf z ps)) : itemOf lf ex = (rdV (List.drop 2 (List.take 10 lf)) 8, says zs, 0) := by
  rw [leafX, if_pos (leafE_zero he), itemT_rd h] at hq
  have hm := leafE_zero he
  rw [itemXs_may] at hm
  rw [item_some h hc, if_pos ⟨hm, hq⟩, itemT_rd h, hz]; rfl

set_option maxHeartbeats 16000000 in
theorem rtakeitem_run {h : H} {y x : AV} {lf ex : List UInt8} (hy : Bs h y lf) (hx : Bs h x ex) (oy : Cok y) (ox : Cok x) (hl : lf.length ≤ maxRow) (hl2 : ex.length ≤ maxRow) : ∃ r h', Runs TF 57 [itemV y x] h r h' ∧ ∃ t z ps E, r = .tup [entV t z, .int .i64 E] ∧ Ext h h' ∧ OwnCh h.n h' z ps ∧ itemOf lf ex = (t, says ps, E) := by
  refine Runs.ofP f57 rfl ?_
  have hmx : 200000000000000 = maxRow := rfl
  have rl : (List.drop 2 (List.take 10 lf)).length ≤ lf.length := by rw [List.length_drop, List.length_take]; omega
  have cl : (List.drop 15 (List.take (lf.length - 2) lf)).length ≤ lf.length := by rw [List.length_drop, List.length_take]; omega
  have rv := rdV8_lt (List.drop 2 (List.take 10 lf))
  have m1 := hy.bd
  have k2 := hy.parts
  have m3 := hx.bd
  have k4 := hx.parts
  refine Wp.seq ?_
  refine Wp.region ?_
  obtain ⟨H5, e5, P5, X5, n5⟩ := pt_new h 78 [y, x] (ones_cons k2.2.1 (ones_cons k4.2.1 ones_nil))
  refine Wo.val (.ptr ⟨H.n h, 0, 0⟩) H5 (by kernel_rfl) (e5 (v := AV.agg [y, x]) (by kernel_rfl) rfl) ?_
  have m6 := X5.1
  obtain ⟨H7, e7, P7, X7, n7⟩ := pt_new H5 70 [AV.int IntKind.u64 0, AV.nils] (ones_cons rfl (ones_cons rfl ones_nil))
  refine Wo.val (.ptr ⟨H.n H5, 0, 0⟩) H7 (by kernel_rfl) (e7 (v := AV.agg [AV.int IntKind.u64 0, AV.nils]) (by kernel_rfl) rfl) ?_
  have m8 := X7.1
  refine Wo.pre 1 (by kernel_rfl) ?_
  refine Wo.nil ?_
  refine Wp.seq ?_
  refine Wp.seq ?_
  refine Wp.region ?_
  refine Wo.pre 1 (by kernel_rfl) ?_
  have F9 := (P5.fr X7 id)
  refine Wo.val (y) H7 (by kernel_rfl) (iop_ldP F9 (a := { b := h.n, g := 0, o := 0 }) (by kernel_rfl) rfl (by kernel_rfl)) ?_
  have F10 := (hy.fr (X5.trans0 X7) (.inr id))
  refine Wo.val (.int .i64 (List.length (lf) : Nat)) H7 (by kernel_rfl) (Bs.len F10 (by kernel_rfl)) ?_
  refine Wo.cmp (op := .lss) (x := IX.t 15) (y := IX.c (AV.int IntKind.i64 17)) (k := IntKind.i64) (a := ↑lf.length) (b := 17) ((↑lf.length : Int) < (17 : Int)) (by kernel_rfl) (by kernel_rfl) (by kernel_rfl) (by kernel_rfl) (by simp) (by kernel_rfl) (fun q11 => ?_) (fun q11 => ?_)
  · skip
    have m12 := P5.1
    have m13 := P7.1
    have m14 := F9.1
    have m15 := F10.bd
    have k16 := F10.parts
    refine Wo.nil ?_
    refine Wp.cond true (by kernel_rfl) ?_
    refine Wp.seq ?_
    refine Wp.region ?_
    refine Wo.val (.agg [AV.int IntKind.u64 0, AV.nils]) H7 (by kernel_rfl) (iop_buildP rfl) ?_
    obtain ⟨H17, e17, P17, X17, n17⟩ := P7.st 0 [AV.int IntKind.u64 0, AV.nils] (by simp) (ones_cons rfl (ones_cons rfl ones_nil))
    refine Wo.val .undef H17 (by kernel_rfl) (iop_stP (a := { b := H5.n, g := 0, o := 0 }) (v := AV.agg [AV.int IntKind.u64 0, AV.nils]) (vs := [AV.int IntKind.u64 0, AV.nils]) (by kernel_rfl) (by kernel_rfl) rfl rfl e17) ?_
    have m18 := X17.1
    replace P17 : Pt H17 H5.n (Blk.cells 0 70 [AV.int IntKind.u64 0, AV.nils] 0 false) := P17
    refine Wo.pre 1 (by kernel_rfl) ?_
    refine Wo.nil ?_
    refine Wp.ret ?_
    refine ⟨.inr rfl, (.tup [AV.agg [AV.int IntKind.u64 0, AV.nils], AV.int IntKind.i64 5]), (ret_many (res_cell (a := { b := H5.n, g := 0, o := 0 }) (by kernel_rfl) (P17.ld rfl (by kernel_rfl)) (res_tmp (by kernel_rfl) res_nil)) rfl), ?_⟩
    dsimp only
    exact ⟨0, .nils, [], 5, rfl, (((X5.trans0 X7).transL X17).ext (by intro s hs; first | omega | (dsimp only at hs; omega) | (simp only [blk_nils, blk_sl] at hs ⊢; omega))), OwnCh.none, (by exact item_short (by omega))⟩
  · skip
    have m19 := P5.1
    have m20 := P7.1
    have m21 := F9.1
    have m22 := F10.bd
    have k23 := F10.parts
    refine Wo.nil ?_
    refine Wp.cond false (by kernel_rfl) ?_
    refine Wp.skip ?_
    refine Wp.seq ?_
    refine Wp.region ?_
    refine Wo.pre 1 (by kernel_rfl) ?_
    refine Wo.val (y) H7 (by kernel_rfl) (iop_ldP F9 (a := { b := h.n, g := 0, o := 0 }) (by kernel_rfl) rfl (by kernel_rfl)) ?_
    obtain ⟨z24, e24, b24, o24⟩ := F10.subN oy (ei := (2 : Int)) (ej := (10 : Int)) 2 10 rfl rfl (by first | omega | simp; omega) (by first | omega | simp; omega)
    refine Wo.val z24 H7 (by kernel_rfl) (e24 (by kernel_rfl) (by kernel_rfl) (by kernel_rfl)) ?_
    have m25 := b24.bd
    have k26 := b24.parts
    obtain ⟨H27, b28, u29, c30, q31, q32, X33, q34⟩ := rrnew_run b24 (by first | omega | (simp; omega) | (simp; done) | assumption | ((intro q hq; have h := (mayE_small (leafE_zero ‹leafE _ = 0›)).1.2 q hq; omega)) | ((have h := (mayE_small (leafE_zero ‹leafE _ = 0›)).1.1; omega)) | ((have h := certR_few ‹certR _ = some _›; rw [says_len] at h; first | exact h | (simp; omega))) | ((intro q hq; simp at hq)) | ((intro q hq; simp only [List.nil_append, List.mem_cons, List.not_mem_nil, or_false] at hq; rw [hq]; dsimp only; omega)))
    have m35 := q32.bd
    have m36 := X33.1
    refine Wo.call (by kernel_rfl) (by kernel_rfl) c30 ?_
    refine Wo.pre 1 (by kernel_rfl) ?_
    refine Wo.nil ?_
    refine Wp.seq ?_
    refine Wp.region ?_
    refine Wo.pre 1 (by kernel_rfl) ?_
    obtain ⟨H37, v38, c39, q40, X41, q42⟩ := rrnum_any q32 (8) (by first | omega | (simp; omega) | (simp; done) | assumption | ((intro q hq; have h := (mayE_small (leafE_zero ‹leafE _ = 0›)).1.2 q hq; omega)) | ((have h := (mayE_small (leafE_zero ‹leafE _ = 0›)).1.1; omega)) | ((have h := certR_few ‹certR _ = some _›; rw [says_len] at h; first | exact h | (simp; omega))) | ((intro q hq; simp at hq)) | ((intro q hq; simp only [List.nil_append, List.mem_cons, List.not_mem_nil, or_false] at hq; rw [hq]; dsimp only; omega)))
    have m43 := q40.bd
    have m44 := X41.1
    have m45 := q42.blk
    refine Wo.call (by kernel_rfl) (by kernel_rfl) c39 ?_
    refine Wo.pre 5 (by kernel_rfl) ?_
    refine Wo.nil ?_
    refine Wp.seq ?_
    refine Wp.region ?_
    refine Wo.pre 1 (by kernel_rfl) ?_
    refine Wo.nil ?_
    refine Wp.seq ?_
    refine Wp.region ?_
    refine Wo.pre 2 (by kernel_rfl) ?_
    have F46 := (F9.fr (X33.fr.transL X41.fr) (by (first | omega | (intro s hs; omega) | (dsimp only; omega) | (intro s hs; dsimp only at hs; omega) | (simp only [blk_nils, blk_sl]; omega) | (intro s hs; simp only [blk_nils, blk_sl] at hs ⊢; omega) | (simp; done))))
    refine Wo.val (y) H37 (by kernel_rfl) (iop_ldP F46 (a := { b := h.n, g := 0, o := 0 }) (by kernel_rfl) rfl (by kernel_rfl)) ?_
    refine Wo.pre 1 (by kernel_rfl) ?_
    refine Wo.val (y) H37 (by kernel_rfl) (iop_ldP F46 (a := { b := h.n, g := 0, o := 0 }) (by kernel_rfl) rfl (by kernel_rfl)) ?_
    have F47 := (F10.fr (X33.fr.transL X41.fr) (by (first | omega | (intro s hs; omega) | (dsimp only; omega) | (intro s hs; dsimp only at hs; omega) | (simp only [blk_nils, blk_sl]; omega) | (intro s hs; simp only [blk_nils, blk_sl] at hs ⊢; omega) | (simp; done))))
    refine Wo.val (.int .i64 (List.length (lf) : Nat)) H37 (by kernel_rfl) (Bs.len F47 (by kernel_rfl)) ?_
    refine Wo.val (.int IntKind.i64 ((↑lf.length : Int) - (2 : Int))) H37 (by kernel_rfl) (iop_arith (op := .sub) (a := ↑lf.length) (b := 2) (by kernel_rfl) (by kernel_rfl) (by simp) (bin_sub IntKind.i64 (by simp only [min_i64]; omega) (by simp only [max_i64]; omega))) ?_
    obtain ⟨z48, e48, b48, o48⟩ := F47.subN oy (ei := (15 : Int)) (ej := (↑lf.length - 2 : Int)) 15 (lf.length - 2) rfl (by omega) (by first | omega | simp; omega) (by first | omega | simp; omega)
    refine Wo.val z48 H37 (by kernel_rfl) (e48 (by kernel_rfl) (by kernel_rfl) (by kernel_rfl)) ?_
    have m49 := b48.bd
    have k50 := b48.parts
    obtain ⟨H51, e51, P51, X51, n51⟩ := bsl_new H37 22 [z48] (ones_cons k50.2.1 ones_nil)
    refine Wo.val (.sl ⟨H.n H37, 0, 0⟩ 1 (.ex 1)) H51 (by kernel_rfl) (e51 (fill_cons (v := z48) (vs := [z48]) (by kernel_rfl) k50.1 (by kernel_rfl) rfl)) ?_
    have m52 := X51.1
    have F53 := (b48.fr X51 (.inr id))
    obtain ⟨v54, H55, a56, q57, X58⟩ := app22_one P51 (OwB.none (lo := H51.n)) F53 o48 (by first | omega | (simp; omega) | (simp; done) | assumption | ((intro q hq; have h := (mayE_small (leafE_zero ‹leafE _ = 0›)).1.2 q hq; omega)) | ((have h := (mayE_small (leafE_zero ‹leafE _ = 0›)).1.1; omega)) | ((have h := certR_few ‹certR _ = some _›; rw [says_len] at h; first | exact h | (simp; omega))) | ((intro q hq; simp at hq)) | ((intro q hq; simp only [List.nil_append, List.mem_cons, List.not_mem_nil, or_false] at hq; rw [hq]; dsimp only; omega))) (by first | omega | (simp; omega) | (simp; done) | assumption | ((intro q hq; have h := (mayE_small (leafE_zero ‹leafE _ = 0›)).1.2 q hq; omega)) | ((have h := (mayE_small (leafE_zero ‹leafE _ = 0›)).1.1; omega)) | ((have h := certR_few ‹certR _ = some _›; rw [says_len] at h; first | exact h | (simp; omega))) | ((intro q hq; simp at hq)) | ((intro q hq; simp only [List.nil_append, List.mem_cons, List.not_mem_nil, or_false] at hq; rw [hq]; dsimp only; omega))) (by first | omega | (simp; omega) | (simp; done) | assumption | ((intro q hq; have h := (mayE_small (leafE_zero ‹leafE _ = 0›)).1.2 q hq; omega)) | ((have h := (mayE_small (leafE_zero ‹leafE _ = 0›)).1.1; omega)) | ((have h := certR_few ‹certR _ = some _›; rw [says_len] at h; first | exact h | (simp; omega))) | ((intro q hq; simp at hq)) | ((intro q hq; simp only [List.nil_append, List.mem_cons, List.not_mem_nil, or_false] at hq; rw [hq]; dsimp only; omega))) (by first | omega | (simp; omega) | (simp; done) | assumption | ((intro q hq; have h := (mayE_small (leafE_zero ‹leafE _ = 0›)).1.2 q hq; omega)) | ((have h := (mayE_small (leafE_zero ‹leafE _ = 0›)).1.1; omega)) | ((have h := certR_few ‹certR _ = some _›; rw [says_len] at h; first | exact h | (simp; omega))) | ((intro q hq; simp at hq)) | ((intro q hq; simp only [List.nil_append, List.mem_cons, List.not_mem_nil, or_false] at hq; rw [hq]; dsimp only; omega)))
    refine Wo.val _ _ (by kernel_rfl) (iop_appG (v := AV.nils) (w := AV.sl { b := H37.n, g := 0, o := 0 } 1 (Cp.ex 1)) (by kernel_rfl) (by kernel_rfl) rfl a56) ?_
    have m59 := q57.bd
    have k60 := q57.parts
    have m61 := X58.1
    refine Wo.pre 1 (by kernel_rfl) ?_
    refine Wo.nil ?_
    refine Wp.seq ?_
    refine Wp.region ?_
    refine Wo.pre 1 (by kernel_rfl) ?_
    have F62 := (F46.fr (X51.transL X58) (by (first | omega | (intro s hs; omega) | (dsimp only; omega) | (intro s hs; dsimp only at hs; omega) | (simp only [blk_nils, blk_sl]; omega) | (intro s hs; simp only [blk_nils, blk_sl] at hs ⊢; omega) | (simp; done))))
    refine Wo.val (x) H55 (by kernel_rfl) (iop_ldP F62 (a := { b := h.n, g := 0, o := 1 }) (by kernel_rfl) rfl (by kernel_rfl)) ?_
    have F63 := (hx.fr (((((X5.trans0 X7).trans0 X33.fr).transL X41.fr).transR X51).trans X58) (by (first | omega | (intro s hs; omega) | (dsimp only; omega) | (intro s hs; dsimp only at hs; omega) | (simp only [blk_nils, blk_sl]; omega) | (intro s hs; simp only [blk_nils, blk_sl] at hs ⊢; omega) | (simp; done))))
    rcases rcerts_run F63 hl2 with ⟨r64, H65, c66, z67, ok68, rfl, X70, (⟨q72, rfl, rfl⟩ | ⟨ps75, q76, rfl, q78⟩)⟩
    · skip
      have m79 := F46.1
      have m80 := F47.bd
      have k81 := F47.parts
      have m82 := P51.1
      have m83 := F53.bd
      have k84 := F53.parts
      have m85 := F62.1
      have m86 := F63.bd
      have k87 := F63.parts
      have m88 := X70.1
      refine Wo.call (by kernel_rfl) (by kernel_rfl) c66 ?_
      refine Wo.pre 5 (by kernel_rfl) ?_
      refine Wo.nil ?_
      refine Wp.seq ?_
      refine Wp.seq ?_
      refine Wp.region ?_
      refine Wo.pre 1 (by kernel_rfl) ?_
      refine Wo.pre 1 (by kernel_rfl) ?_
      refine Wo.nil ?_
      refine Wp.cond true (by kernel_rfl) ?_
      refine Wp.seq ?_
      refine Wp.region ?_
      refine Wo.val (.agg [AV.int IntKind.u64 0, AV.nils]) H65 (by kernel_rfl) (iop_buildP rfl) ?_
      have F89 := (P7.fr ((((X33.fr.transL X41.fr).transR X51).trans X58).transR X70.fr) (by (first | omega | (intro s hs; omega) | (dsimp only; omega) | (intro s hs; dsimp only at hs; omega) | (simp only [blk_nils, blk_sl]; omega) | (intro s hs; simp only [blk_nils, blk_sl] at hs ⊢; omega) | (simp; done))))
      obtain ⟨H90, e90, P90, X90, n90⟩ := F89.st 0 [AV.int IntKind.u64 0, AV.nils] (by simp) (ones_cons rfl (ones_cons rfl ones_nil))
      refine Wo.val .undef H90 (by kernel_rfl) (iop_stP (a := { b := H5.n, g := 0, o := 0 }) (v := AV.agg [AV.int IntKind.u64 0, AV.nils]) (vs := [AV.int IntKind.u64 0, AV.nils]) (by kernel_rfl) (by kernel_rfl) rfl rfl e90) ?_
      have m91 := X90.1
      replace P90 : Pt H90 H5.n (Blk.cells 0 70 [AV.int IntKind.u64 0, AV.nils] 0 false) := P90
      refine Wo.pre 1 (by kernel_rfl) ?_
      refine Wo.nil ?_
      refine Wp.ret ?_
      refine ⟨.inr rfl, (.tup [AV.agg [AV.int IntKind.u64 0, AV.nils], AV.int IntKind.i64 5]), (ret_many (res_cell (a := { b := H5.n, g := 0, o := 0 }) (by kernel_rfl) (P90.ld rfl (by kernel_rfl)) (res_tmp (by kernel_rfl) res_nil)) rfl), ?_⟩
      dsimp only
      exact ⟨0, .nils, [], 5, rfl, ((((((((X5.trans0 X7).trans0 X33.fr).transL X41.fr).transR X51).trans X58).transR X70.fr).trans X90).ext (by intro s hs; first | omega | (dsimp only at hs; omega) | (simp only [blk_nils, blk_sl] at hs ⊢; omega))), OwnCh.none, (by exact item_none (by omega) (by assumption))⟩
    · skip
      have m92 := F46.1
      have m93 := F47.bd
      have k94 := F47.parts
      have m95 := P51.1
      have m96 := F53.bd
      have k97 := F53.parts
      have m98 := F62.1
      have m99 := F63.bd
      have k100 := F63.parts
      have m101 := q78.bd
      have k102 := q78.parts
      have m103 := X70.1
      refine Wo.call (by kernel_rfl) (by kernel_rfl) c66 ?_
      refine Wo.pre 5 (by kernel_rfl) ?_
      refine Wo.nil ?_
      refine Wp.seq ?_
      refine Wp.seq ?_
      refine Wp.region ?_
      refine Wo.pre 1 (by kernel_rfl) ?_
      refine Wo.pre 1 (by kernel_rfl) ?_
      refine Wo.nil ?_
      refine Wp.cond false (by kernel_rfl) ?_
      refine Wp.skip ?_
      refine Wp.seq ?_
      refine Wp.region ?_
      refine Wo.pre 3 (by kernel_rfl) ?_
      have F104 := (q57.fr X70.fr (fun _ e => e.elim))
      obtain ⟨v105, H106, a107, q108, X109⟩ := app22_more F104 q78 (by first | omega | (simp; omega) | (simp; done) | assumption | ((intro q hq; have h := (mayE_small (leafE_zero ‹leafE _ = 0›)).1.2 q hq; omega)) | ((have h := (mayE_small (leafE_zero ‹leafE _ = 0›)).1.1; omega)) | ((have h := certR_few ‹certR _ = some _›; rw [says_len] at h; first | exact h | (simp; omega))) | ((intro q hq; simp at hq)) | ((intro q hq; simp only [List.nil_append, List.mem_cons, List.not_mem_nil, or_false] at hq; rw [hq]; dsimp only; omega))) (by first | omega | (simp; omega) | (simp; done) | assumption | ((intro q hq; have h := (mayE_small (leafE_zero ‹leafE _ = 0›)).1.2 q hq; omega)) | ((have h := (mayE_small (leafE_zero ‹leafE _ = 0›)).1.1; omega)) | ((have h := certR_few ‹certR _ = some _›; rw [says_len] at h; first | exact h | (simp; omega))) | ((intro q hq; simp at hq)) | ((intro q hq; simp only [List.nil_append, List.mem_cons, List.not_mem_nil, or_false] at hq; rw [hq]; dsimp only; omega))) (by first | omega | (simp; omega) | (simp; done) | assumption | ((intro q hq; have h := (mayE_small (leafE_zero ‹leafE _ = 0›)).1.2 q hq; omega)) | ((have h := (mayE_small (leafE_zero ‹leafE _ = 0›)).1.1; omega)) | ((have h := certR_few ‹certR _ = some _›; rw [says_len] at h; first | exact h | (simp; omega))) | ((intro q hq; simp at hq)) | ((intro q hq; simp only [List.nil_append, List.mem_cons, List.not_mem_nil, or_false] at hq; rw [hq]; dsimp only; omega))) (by first | omega | (simp; omega) | (simp; done) | assumption | ((intro q hq; have h := (mayE_small (leafE_zero ‹leafE _ = 0›)).1.2 q hq; omega)) | ((have h := (mayE_small (leafE_zero ‹leafE _ = 0›)).1.1; omega)) | ((have h := certR_few ‹certR _ = some _›; rw [says_len] at h; first | exact h | (simp; omega))) | ((intro q hq; simp at hq)) | ((intro q hq; simp only [List.nil_append, List.mem_cons, List.not_mem_nil, or_false] at hq; rw [hq]; dsimp only; omega)))
      refine Wo.val _ _ (by kernel_rfl) (iop_appG (v := v54) (w := z67) (by kernel_rfl) (by kernel_rfl) k102.2.2 a107) ?_
      have m110 := q108.bd
      have k111 := q108.parts
      have m112 := X109.1
      refine Wo.val (.agg [AV.int IntKind.u64 ↑(rdV (List.drop 2 (List.take 10 lf)) 8), v105]) H106 (by kernel_rfl) (iop_buildP (fill_cons (v := AV.int IntKind.u64 ↑(rdV (List.drop 2 (List.take 10 lf)) 8)) (vs := [AV.int IntKind.u64 ↑(rdV (List.drop 2 (List.take 10 lf)) 8)]) (by kernel_rfl) rfl (by kernel_rfl) (fill_cons (v := v105) (vs := [v105]) (by kernel_rfl) k111.1 (by kernel_rfl) rfl))) ?_
      obtain ⟨H113, e113, P113, X113, n113⟩ := pt_new H106 70 [AV.int IntKind.u64 0, AV.nils] (ones_cons rfl (ones_cons rfl ones_nil))
      refine Wo.val (.ptr ⟨H.n H106, 0, 0⟩) H113 (by kernel_rfl) (e113 (v := AV.agg [AV.int IntKind.u64 0, AV.nils]) (by kernel_rfl) rfl) ?_
      have m114 := X113.1
      obtain ⟨H115, e115, P115, X115, n115⟩ := P113.st 0 [AV.int IntKind.u64 ↑(rdV (List.drop 2 (List.take 10 lf)) 8), v105] (by simp) (ones_cons rfl (ones_cons k111.2.1 ones_nil))
      refine Wo.val .undef H115 (by kernel_rfl) (iop_stP (a := { b := H106.n, g := 0, o := 0 }) (v := AV.agg [AV.int IntKind.u64 ↑(rdV (List.drop 2 (List.take 10 lf)) 8), v105]) (vs := [AV.int IntKind.u64 ↑(rdV (List.drop 2 (List.take 10 lf)) 8), v105]) (by kernel_rfl) (by kernel_rfl) rfl rfl e115) ?_
      have m116 := X115.1
      replace P115 : Pt H115 H106.n (Blk.cells 0 70 [AV.int IntKind.u64 ↑(rdV (List.drop 2 (List.take 10 lf)) 8), v105] 0 false) := P115
      refine Wo.nil ?_
      refine Wp.seq ?_
      refine Wp.region ?_
      refine Wo.val (AV.agg [AV.int IntKind.u64 ↑(rdV (List.drop 2 (List.take 10 lf)) 8), v105]) H115 (by kernel_rfl) (iop_ldP P115 (a := { b := H106.n, g := 0, o := 0 }) (by kernel_rfl) rfl (by kernel_rfl)) ?_
      have F117 := (q108.fr (X113.transL X115) (by (first | omega | (intro s hs; omega) | (dsimp only; omega) | (intro s hs; dsimp only at hs; omega) | (simp only [blk_nils, blk_sl]; omega) | (intro s hs; simp only [blk_nils, blk_sl] at hs ⊢; omega) | (simp; done))))
      obtain ⟨r118, H119, c120, z121, w122, rfl, X124, q125, q126, q127⟩ := ritem_run F117.ch (by first | omega | (simp; omega) | (simp; done) | assumption | ((intro q hq; have h := (mayE_small (leafE_zero ‹leafE _ = 0›)).1.2 q hq; omega)) | ((have h := (mayE_small (leafE_zero ‹leafE _ = 0›)).1.1; omega)) | ((have h := certR_few ‹certR _ = some _›; rw [says_len] at h; first | exact h | (simp; omega))) | ((intro q hq; simp at hq)) | ((intro q hq; simp only [List.nil_append, List.mem_cons, List.not_mem_nil, or_false] at hq; rw [hq]; dsimp only; omega))) rv
      have m128 := X124.1
      have m129 := q125.bd
      have k130 := q125.parts
      have m131 := q126.bd
      have k132 := q126.parts
      refine Wo.call (by kernel_rfl) (by kernel_rfl) c120 ?_
      refine Wo.pre 3 (by kernel_rfl) ?_
      obtain ⟨H133, e133, P133, X133, n133⟩ := pt_new H119 78 [AV.nils, AV.nils] (ones_cons rfl (ones_cons rfl ones_nil))
      refine Wo.val (.ptr ⟨H.n H119, 0, 0⟩) H133 (by kernel_rfl) (e133 (v := AV.agg [AV.nils, AV.nils]) (by kernel_rfl) rfl) ?_
      have m134 := X133.1
      obtain ⟨H135, e135, P135, X135, n135⟩ := P133.st 0 [z121, w122] (by simp) (ones_cons k130.2.1 (ones_cons k132.2.1 ones_nil))
      refine Wo.val .undef H135 (by kernel_rfl) (iop_stP (a := { b := H119.n, g := 0, o := 0 }) (v := AV.agg [z121, w122]) (vs := [z121, w122]) (by kernel_rfl) (by kernel_rfl) rfl rfl e135) ?_
      have m136 := X135.1
      replace P135 : Pt H135 H119.n (Blk.cells 0 78 [z121, w122] 0 false) := P135
      refine Wo.pre 1 (by kernel_rfl) ?_
      refine Wo.nil ?_
      refine Wp.seq ?_
      refine Wp.seq ?_
      refine Wp.region ?_
      refine Wo.pre 1 (by kernel_rfl) ?_
      refine Wo.cmpN (op := .neq) (x := IX.t 56) (y := IX.c (AV.int IntKind.i64 0)) (k := IntKind.i64) (a := leafE ([] ++ [(z48, List.drop 15 (List.take (lf.length - 2) lf))] ++ ps75)) (b := 0) ((leafE ([] ++ [(z48, List.drop 15 (List.take (lf.length - 2) lf))] ++ ps75) : Int) = (0 : Int)) (by kernel_rfl) (by kernel_rfl) (by kernel_rfl) (by kernel_rfl) (by simp) (by kernel_rfl) (fun q137 => ?_) (fun q137 => ?_)
      · skip
        have m138 := F104.bd
        have k139 := F104.parts
        have m140 := P113.1
        have m141 := P115.1
        have m142 := F117.bd
        have k143 := F117.parts
        have m144 := P133.1
        have m145 := P135.1
        refine Wo.pre 2 (by kernel_rfl) ?_
        refine Wo.val (z121) H135 (by kernel_rfl) (iop_ldP P135 (a := { b := H119.n, g := 0, o := 0 }) (by kernel_rfl) rfl (by kernel_rfl)) ?_
        have F146 := (q125.fr (X133.transL X135) (by (first | omega | (intro s hs; omega) | (dsimp only; omega) | (intro s hs; dsimp only at hs; omega) | (simp only [blk_nils, blk_sl]; omega) | (intro s hs; simp only [blk_nils, blk_sl] at hs ⊢; omega) | (simp; done))))
        refine Wo.val (.str (leafX (rdV (List.drop 2 (List.take 10 lf)) 8) ([] ++ [(z48, List.drop 15 (List.take (lf.length - 2) lf))] ++ ps75))) H135 (by kernel_rfl) (iop_cvBS (v := z121) (by kernel_rfl) F146.bs) ?_
        refine Wo.pre 1 (by kernel_rfl) ?_
        have F147 := (F62.fr ((((((X70.fr.transL X109).transR X113).trans X115).transR X124.fr).transR X133).trans X135) (by (first | omega | (intro s hs; omega) | (dsimp only; omega) | (intro s hs; dsimp only at hs; omega) | (simp only [blk_nils, blk_sl]; omega) | (intro s hs; simp only [blk_nils, blk_sl] at hs ⊢; omega) | (simp; done))))
        refine Wo.val (y) H135 (by kernel_rfl) (iop_ldP F147 (a := { b := h.n, g := 0, o := 0 }) (by kernel_rfl) rfl (by kernel_rfl)) ?_
        have F148 := (F47.fr ((((((((X51.transL X58).transR X70.fr).trans X109).transR X113).trans X115).transR X124.fr).transR X133).trans X135) (by (first | omega | (intro s hs; omega) | (dsimp only; omega) | (intro s hs; dsimp only at hs; omega) | (simp only [blk_nils, blk_sl]; omega) | (intro s hs; simp only [blk_nils, blk_sl] at hs ⊢; omega) | (simp; done))))
        refine Wo.val (.str (lf)) H135 (by kernel_rfl) (iop_cvBS (v := y) (by kernel_rfl) F148) ?_
        refine Wo.cmpSN (x := IX.t 61) (y := IX.t 64) (a := Decidable.rec (fun h => (fun x => []) h) (fun h => (fun x => leafB (rdV (List.drop 2 (List.take 10 lf)) 8) (c0 ([] ++ [(z48, List.drop 15 (List.take (lf.length - 2) lf))] ++ ps75))) h) (instDecidableEqBool (mayE ([] ++ [(z48, List.drop 15 (List.take (lf.length - 2) lf))] ++ ps75)) true)) (b := lf) (by kernel_rfl) (by kernel_rfl) (by kernel_rfl) (by kernel_rfl) (fun q149 => ?_) (fun q149 => ?_)
        · skip
          have m150 := F146.bd
          have k151 := F146.parts
          have m152 := F147.1
          have m153 := F148.bd
          have k154 := F148.parts
          refine Wo.pre 3 (by kernel_rfl) ?_
          refine Wo.val (w122) H135 (by kernel_rfl) (iop_ldP P135 (a := { b := H119.n, g := 0, o := 1 }) (by kernel_rfl) rfl (by kernel_rfl)) ?_
          have F155 := (q126.fr (X133.transL X135) (by (first | omega | (intro s hs; omega) | (dsimp only; omega) | (intro s hs; dsimp only at hs; omega) | (simp only [blk_nils, blk_sl]; omega) | (intro s hs; simp only [blk_nils, blk_sl] at hs ⊢; omega) | (simp; done))))
          refine Wo.val (.str (extraX ([] ++ [(z48, List.drop 15 (List.take (lf.length - 2) lf))] ++ ps75))) H135 (by kernel_rfl) (iop_cvBS (v := w122) (by kernel_rfl) F155.bs) ?_
          refine Wo.pre 1 (by kernel_rfl) ?_
          refine Wo.val (x) H135 (by kernel_rfl) (iop_ldP F147 (a := { b := h.n, g := 0, o := 1 }) (by kernel_rfl) rfl (by kernel_rfl)) ?_
          have F156 := (F63.fr ((((((X70.fr.transL X109).transR X113).trans X115).transR X124.fr).transR X133).trans X135) (by (first | omega | (intro s hs; omega) | (dsimp only; omega) | (intro s hs; dsimp only at hs; omega) | (simp only [blk_nils, blk_sl]; omega) | (intro s hs; simp only [blk_nils, blk_sl] at hs ⊢; omega) | (simp; done))))
          refine Wo.val (.str (ex)) H135 (by kernel_rfl) (iop_cvBS (v := x) (by kernel_rfl) F156) ?_
          refine Wo.cmpSN (x := IX.t 70) (y := IX.t 73) (a := Decidable.rec (fun h => (fun x => []) h) (fun h => (fun x => listB (List.drop 1 ([] ++ [(z48, List.drop 15 (List.take (lf.length - 2) lf))] ++ ps75))) h) (instDecidableEqBool (mayE ([] ++ [(z48, List.drop 15 (List.take (lf.length - 2) lf))] ++ ps75)) true)) (b := ex) (by kernel_rfl) (by kernel_rfl) (by kernel_rfl) (by kernel_rfl) (fun q157 => ?_) (fun q157 => ?_)
          · skip
            have m158 := F155.bd
            have k159 := F155.parts
            have m160 := F156.bd
            have k161 := F156.parts
            refine Wo.pre 1 (by kernel_rfl) ?_
            refine Wo.nil ?_
            refine Wp.cond false (by kernel_rfl) ?_
            refine Wp.skip ?_
            refine Wp.seq ?_
            refine Wp.region ?_
            have F162 := (P115.fr ((X124.fr.trans0 X133).transL X135) (by (first | omega | (intro s hs; omega) | (dsimp only; omega) | (intro s hs; dsimp only at hs; omega) | (simp only [blk_nils, blk_sl]; omega) | (intro s hs; simp only [blk_nils, blk_sl] at hs ⊢; omega) | (simp; done))))
            refine Wo.val (AV.agg [AV.int IntKind.u64 ↑(rdV (List.drop 2 (List.take 10 lf)) 8), v105]) H135 (by kernel_rfl) (iop_ldP F162 (a := { b := H106.n, g := 0, o := 0 }) (by kernel_rfl) rfl (by kernel_rfl)) ?_
            have F163 := (F117.fr ((X124.fr.trans0 X133).transL X135) (by (first | omega | (intro s hs; omega) | (dsimp only; omega) | (intro s hs; dsimp only at hs; omega) | (simp only [blk_nils, blk_sl]; omega) | (intro s hs; simp only [blk_nils, blk_sl] at hs ⊢; omega) | (simp; done))))
            obtain ⟨r164, H165, c166, v167, ys168, rfl, X170, q171, q172⟩ := owne_run F163.ch (by first | omega | (simp; omega) | (simp; done) | assumption | ((intro q hq; have h := (mayE_small (leafE_zero ‹leafE _ = 0›)).1.2 q hq; omega)) | ((have h := (mayE_small (leafE_zero ‹leafE _ = 0›)).1.1; omega)) | ((have h := certR_few ‹certR _ = some _›; rw [says_len] at h; first | exact h | (simp; omega))) | ((intro q hq; simp at hq)) | ((intro q hq; simp only [List.nil_append, List.mem_cons, List.not_mem_nil, or_false] at hq; rw [hq]; dsimp only; omega))) (by first | omega | (simp; omega) | (simp; done) | assumption | ((intro q hq; have h := (mayE_small (leafE_zero ‹leafE _ = 0›)).1.2 q hq; omega)) | ((have h := (mayE_small (leafE_zero ‹leafE _ = 0›)).1.1; omega)) | ((have h := certR_few ‹certR _ = some _›; rw [says_len] at h; first | exact h | (simp; omega))) | ((intro q hq; simp at hq)) | ((intro q hq; simp only [List.nil_append, List.mem_cons, List.not_mem_nil, or_false] at hq; rw [hq]; dsimp only; omega))) (rdV (List.drop 2 (List.take 10 lf)) 8)
            have m173 := X170.1
            have m174 := q171.bd
            have k175 := q171.parts
            refine Wo.call (by kernel_rfl) (by kernel_rfl) c166 ?_
            have F176 := (P7.fr (((((((((((X33.fr.transL X41.fr).transR X51).trans X58).transR X70.fr).trans X109).transR X113).trans X115).transR X124.fr).transR X133).trans X135).transR X170.fr) (by (first | omega | (intro s hs; omega) | (dsimp only; omega) | (intro s hs; dsimp only at hs; omega) | (simp only [blk_nils, blk_sl]; omega) | (intro s hs; simp only [blk_nils, blk_sl] at hs ⊢; omega) | (simp; done))))
            obtain ⟨H177, e177, P177, X177, n177⟩ := F176.st 0 [AV.int IntKind.u64 ↑(rdV (List.drop 2 (List.take 10 lf)) 8), v167] (by simp) (ones_cons rfl (ones_cons k175.2.1 ones_nil))
            refine Wo.val .undef H177 (by kernel_rfl) (iop_stP (a := { b := H5.n, g := 0, o := 0 }) (v := AV.agg [AV.int IntKind.u64 ↑(rdV (List.drop 2 (List.take 10 lf)) 8), v167]) (vs := [AV.int IntKind.u64 ↑(rdV (List.drop 2 (List.take 10 lf)) 8), v167]) (by kernel_rfl) (by kernel_rfl) rfl rfl e177) ?_
            have m178 := X177.1
            replace P177 : Pt H177 H5.n (Blk.cells 0 70 [AV.int IntKind.u64 ↑(rdV (List.drop 2 (List.take 10 lf)) 8), v167] 0 false) := P177
            refine Wo.pre 1 (by kernel_rfl) ?_
            refine Wo.nil ?_
            refine Wp.ret ?_
            refine ⟨.inr rfl, (.tup [AV.agg [AV.int IntKind.u64 ↑(rdV (List.drop 2 (List.take 10 lf)) 8), v167], AV.int IntKind.i64 0]), (ret_many (res_cell (a := { b := H5.n, g := 0, o := 0 }) (by kernel_rfl) (P177.ld rfl (by kernel_rfl)) (res_tmp (by kernel_rfl) res_nil)) rfl), ?_⟩
            dsimp only
            exact ⟨_, _, _, 0, rfl, (((((((((((((((X5.trans0 X7).trans0 X33.fr).transL X41.fr).transR X51).trans X58).transR X70.fr).trans X109).transR X113).trans X115).transR X124.fr).transR X133).trans X135).transR X170.fr).trans X177).ext (by intro s hs; first | omega | (dsimp only at hs; omega) | (simp only [blk_nils, blk_sl] at hs ⊢; omega))), ((q171.fr X177 (by (first | omega | (intro s hs; omega) | (dsimp only; omega) | (intro s hs; dsimp only at hs; omega) | (simp only [blk_nils, blk_sl]; omega) | (intro s hs; simp only [blk_nils, blk_sl] at hs ⊢; omega) | (simp; done)))).mono (by omega)), (by exact itemR_4 (by omega) ‹certR _ = some _› ‹leafE _ = 0› ‹leafX _ _ = _› (by assumption))⟩
          · skip
            exact absurd (itemR_3 ‹certR _ = some _› ‹leafE _ = 0›) ‹extraX _ ≠ _›
        · skip
          have m179 := F146.bd
          have k180 := F146.parts
          have m181 := F147.1
          have m182 := F148.bd
          have k183 := F148.parts
          refine Wo.pre 3 (by kernel_rfl) ?_
          refine Wo.pre 1 (by kernel_rfl) ?_
          refine Wo.pre 1 (by kernel_rfl) ?_
          refine Wo.pre 1 (by kernel_rfl) ?_
          refine Wo.pre 1 (by kernel_rfl) ?_
          refine Wo.pre 1 (by kernel_rfl) ?_
          refine Wo.pre 1 (by kernel_rfl) ?_
          refine Wo.pre 1 (by kernel_rfl) ?_
          refine Wo.nil ?_
          refine Wp.cond true (by kernel_rfl) ?_
          refine Wp.seq ?_
          refine Wp.region ?_
          refine Wo.val (.agg [AV.int IntKind.u64 0, AV.nils]) H135 (by kernel_rfl) (iop_buildP rfl) ?_
          have F184 := (P7.fr ((((((((((X33.fr.transL X41.fr).transR X51).trans X58).transR X70.fr).trans X109).transR X113).trans X115).transR X124.fr).transR X133).trans X135) (by (first | omega | (intro s hs; omega) | (dsimp only; omega) | (intro s hs; dsimp only at hs; omega) | (simp only [blk_nils, blk_sl]; omega) | (intro s hs; simp only [blk_nils, blk_sl] at hs ⊢; omega) | (simp; done))))
          obtain ⟨H185, e185, P185, X185, n185⟩ := F184.st 0 [AV.int IntKind.u64 0, AV.nils] (by simp) (ones_cons rfl (ones_cons rfl ones_nil))
          refine Wo.val .undef H185 (by kernel_rfl) (iop_stP (a := { b := H5.n, g := 0, o := 0 }) (v := AV.agg [AV.int IntKind.u64 0, AV.nils]) (vs := [AV.int IntKind.u64 0, AV.nils]) (by kernel_rfl) (by kernel_rfl) rfl rfl e185) ?_
          have m186 := X185.1
          replace P185 : Pt H185 H5.n (Blk.cells 0 70 [AV.int IntKind.u64 0, AV.nils] 0 false) := P185
          refine Wo.pre 1 (by kernel_rfl) ?_
          refine Wo.nil ?_
          refine Wp.ret ?_
          refine ⟨.inr rfl, (.tup [AV.agg [AV.int IntKind.u64 0, AV.nils], AV.int IntKind.i64 5]), (ret_many (res_cell (a := { b := H5.n, g := 0, o := 0 }) (by kernel_rfl) (P185.ld rfl (by kernel_rfl)) (res_tmp (by kernel_rfl) res_nil)) rfl), ?_⟩
          dsimp only
          exact ⟨0, .nils, [], 5, rfl, ((((((((((((((X5.trans0 X7).trans0 X33.fr).transL X41.fr).transR X51).trans X58).transR X70.fr).trans X109).transR X113).trans X115).transR X124.fr).transR X133).trans X135).trans X185).ext (by intro s hs; first | omega | (dsimp only at hs; omega) | (simp only [blk_nils, blk_sl] at hs ⊢; omega))), OwnCh.none, (by exact itemR_2 (by omega) ‹certR _ = some _› ‹leafE _ = 0› ‹leafX _ _ ≠ _›)⟩
      · skip
        have m187 := F104.bd
        have k188 := F104.parts
        have m189 := P113.1
        have m190 := P115.1
        have m191 := F117.bd
        have k192 := F117.parts
        have m193 := P133.1
        have m194 := P135.1
        refine Wo.pre 2 (by kernel_rfl) ?_
        refine Wo.pre 1 (by kernel_rfl) ?_
        refine Wo.pre 1 (by kernel_rfl) ?_
        refine Wo.pre 1 (by kernel_rfl) ?_
        refine Wo.pre 1 (by kernel_rfl) ?_
        refine Wo.pre 1 (by kernel_rfl) ?_
        refine Wo.pre 1 (by kernel_rfl) ?_
        refine Wo.pre 3 (by kernel_rfl) ?_
        refine Wo.pre 1 (by kernel_rfl) ?_
        refine Wo.pre 1 (by kernel_rfl) ?_
        refine Wo.pre 1 (by kernel_rfl) ?_
        refine Wo.pre 1 (by kernel_rfl) ?_
        refine Wo.pre 1 (by kernel_rfl) ?_
        refine Wo.pre 1 (by kernel_rfl) ?_
        refine Wo.pre 1 (by kernel_rfl) ?_
        refine Wo.nil ?_
        refine Wp.cond true (by kernel_rfl) ?_
        refine Wp.seq ?_
        refine Wp.region ?_
        refine Wo.val (.agg [AV.int IntKind.u64 0, AV.nils]) H135 (by kernel_rfl) (iop_buildP rfl) ?_
        have F195 := (P7.fr ((((((((((X33.fr.transL X41.fr).transR X51).trans X58).transR X70.fr).trans X109).transR X113).trans X115).transR X124.fr).transR X133).trans X135) (by (first | omega | (intro s hs; omega) | (dsimp only; omega) | (intro s hs; dsimp only at hs; omega) | (simp only [blk_nils, blk_sl]; omega) | (intro s hs; simp only [blk_nils, blk_sl] at hs ⊢; omega) | (simp; done))))
        obtain ⟨H196, e196, P196, X196, n196⟩ := F195.st 0 [AV.int IntKind.u64 0, AV.nils] (by simp) (ones_cons rfl (ones_cons rfl ones_nil))
        refine Wo.val .undef H196 (by kernel_rfl) (iop_stP (a := { b := H5.n, g := 0, o := 0 }) (v := AV.agg [AV.int IntKind.u64 0, AV.nils]) (vs := [AV.int IntKind.u64 0, AV.nils]) (by kernel_rfl) (by kernel_rfl) rfl rfl e196) ?_
        have m197 := X196.1
        replace P196 : Pt H196 H5.n (Blk.cells 0 70 [AV.int IntKind.u64 0, AV.nils] 0 false) := P196
        refine Wo.pre 1 (by kernel_rfl) ?_
        refine Wo.nil ?_
        refine Wp.ret ?_
        refine ⟨.inr rfl, (.tup [AV.agg [AV.int IntKind.u64 0, AV.nils], AV.int IntKind.i64 5]), (ret_many (res_cell (a := { b := H5.n, g := 0, o := 0 }) (by kernel_rfl) (P196.ld rfl (by kernel_rfl)) (res_tmp (by kernel_rfl) res_nil)) rfl), ?_⟩
        dsimp only
        exact ⟨0, .nils, [], 5, rfl, ((((((((((((((X5.trans0 X7).trans0 X33.fr).transL X41.fr).transR X51).trans X58).transR X70.fr).trans X109).transR X113).trans X115).transR X124.fr).transR X133).trans X135).trans X196).ext (by intro s hs; first | omega | (dsimp only at hs; omega) | (simp only [blk_nils, blk_sl] at hs ⊢; omega))), OwnCh.none, (by exact itemR_1 (by omega) ‹certR _ = some _› ‹¬ leafE _ = 0›)⟩
end Go.Det

/- Rows are spoiled: within a range of blocks. -/
set_option linter.unusedVariables false
set_option linter.unusedSimpArgs false
set_option linter.unusedSectionVars false
namespace Go.Det
open Go.Proofs
attribute [local irreducible] Wp Wo Wd iop ev slots quiets wanted put

/-- Rows of bytes between lo and hi may be other bytes; all else stands. -/
def SpoiltI (lo hi : Nat) (h h' : H) : Prop := h'.n = h.n ∧ ∀ b, (b < lo ∨ hi ≤ b ∨ ∀ g c, h.get b ≠ some (.cells g 5 c 0 false)) → h'.get b = h.get b

theorem spoilI_step {h0 h : H} {lo hi : Nat} {rs : List (AV × List UInt8)} {p : AV × List UInt8} {l' : List UInt8} (hS : SpoiltI lo hi h0 h) (hr : ∀ p ∈ rs, ∃ l', l'.length = p.2.length ∧ Ow lo h p.1 l') (hl : l'.length = p.2.length) (hbk : Go.Det.blk p.1 ≤ hi) (ho : Ow lo h p.1 l') :
    ∃ blk g, (l'.length = 0 ∨ ((∃ cc, p.1 = .sl ⟨blk, g, 0⟩ l'.length cc) ∧ ∃ r : List UInt8, r.length = l'.length ∧ h.get blk = some (.cells g 5 (bytesAV r) 0 false))) ∧
      ∀ h1 : H, h1.n = h.n → (∀ b, b ≠ blk → h1.get b = h.get b) → (l'.length = 0 ∨ ∃ r : List UInt8, r.length = l'.length ∧ h1.get blk = some (.cells g 5 (bytesAV r) 0 false)) → (l'.length = 0 → h1 = h) → SpoiltI lo hi h0 h1 ∧ ∀ p ∈ rs, ∃ l', l'.length = p.2.length ∧ Ow lo h1 p.1 l' := by
  by_cases hz : l'.length = 0
  · exact ⟨0, 0, .inl hz, fun h1 _ _ _ e => by rw [e hz]; exact ⟨hS, hr⟩⟩
  · rcases ho with ⟨_, rfl⟩ | ⟨b, g, h1, h2, h3, h4⟩
    · exact absurd rfl hz
    refine ⟨b, g, .inr ⟨by rcases h4 with e | e <;> exact ⟨_, e⟩, l', rfl, h3⟩, fun k e1 e2 e3 e4 => ?_⟩
    obtain ⟨r, hr1, hr2⟩ := e3.resolve_left hz
    refine ⟨⟨by rw [e1]; exact hS.1, fun c hc => ?_⟩, fun q hq => ?_⟩
    · by_cases hcb : c = b
      · subst hcb
        rcases hc with hc | hc | hc
        · omega
        · rcases h4 with e | e <;> (rw [e] at hbk; simp only [blk_sl] at hbk; omega)
        · exact absurd (by rw [← hS.2 c (.inr (.inr hc))]; exact h3) (hc g (bytesAV l'))
      · rw [e2 c hcb]; exact hS.2 c hc
    · obtain ⟨m, hm, oq⟩ := hr q hq
      rcases oq with h0' | ⟨c, gc, w1, w2, w3, w4⟩
      · exact ⟨m, hm, .inl h0'⟩
      · by_cases hcb : c = b
        · subst hcb
          have e5 := h3.symm.trans w3
          simp only [Option.some.injEq, Blk.cells.injEq, and_true, true_and] at e5
          have e6 : r.length = m.length := by
            have := congrArg List.length e5.2
            simp only [bytes_len] at this
            omega
          refine ⟨r, by omega, .inr ⟨c, gc, w1, by omega, by rw [← e5.1]; exact hr2, ?_⟩⟩
          rw [e6]; exact w4
        · exact ⟨m, hm, .inr ⟨c, gc, w1, by omega, by rw [e2 c hcb]; exact w3, w4⟩⟩

set_option maxHeartbeats 1000000 in
theorem spoilI_loop {h0 : H} {lo hi sbk sg : Nat} {cq : Cp} {rs : List (AV × List UInt8)} (hg : h0.get sbk = some (.cells sg 22 (rs.map (·.1)) 0 false)) (hlen : rs.length < 2 ^ 62) (hm : ∀ p ∈ rs, p.2.length ≤ maxRow) (hbs : ∀ p ∈ rs, Go.Det.blk p.1 ≤ hi) :
    ∀ (k i : Nat), i + k = rs.length → ∀ (h : H) (ts : List AV), SpoiltI lo hi h0 h → (∀ p ∈ rs, ∃ l', l'.length = p.2.length ∧ Ow lo h p.1 l') → ts.length = 24 → getL ts 5 = some (.sl ⟨sbk, sg, 0⟩ rs.length cq) → getL ts 6 = some (.int .i64 rs.length) → getL ts 7 = some (.int .i64 i) →
      ∀ (Q : Ex → St → Prop), (∀ ts' h', ts'.length = 24 → SpoiltI lo hi h0 h' → Q (.exit 0) (ts', h')) → Wp TF (.loop l53_2) (ts, h) Q := by
  intro k
  induction k with
  | zero =>
    intro i hi h ts hS hr t0 t5 t6 t7 Q hQ
    obtain rfl : i = rs.length := by omega
    refine Wp.loop ?_
    rw [laid_eq t0 [(5, .sl ⟨sbk, sg, 0⟩ rs.length cq), (6, .int .i64 rs.length), (7, .int .i64 rs.length)] (by simp [t5, t6, t7])]
    unfold l53_2
    refine Wp.seq ?_
    refine Wp.region ?_
    refine Wo.val (.bool false) h (by kernel_rfl) (iop_cmp (op := .lss) (k := .i64) (a := rs.length) (b := rs.length) false (by kernel_rfl) (by kernel_rfl) (by simp) (by simp [binInt])) ?_
    refine Wo.nil ?_
    refine Wp.seq ?_
    refine Wp.cond false (by kernel_rfl) ?_
    exact Wp.exit (hQ _ _ (by kernel_rfl) hS)
  | succ k ih =>
    intro i hi h ts hS hr t0 t5 t6 t7 Q hQ
    have hlt : i < rs.length := by omega
    obtain ⟨p, hp⟩ : ∃ p, rs[i]? = some p := ⟨rs[i], List.getElem?_eq_getElem hlt⟩
    obtain ⟨l', hl', ho⟩ := hr p (List.mem_of_getElem? hp)
    have hpm := hm p (List.mem_of_getElem? hp)
    have hgh : h.get sbk = some (.cells sg 22 (rs.map (·.1)) 0 false) := by rw [hS.2 sbk (.inr (.inr (fun g c e => by rw [hg] at e; simp at e)))]; exact hg
    have hld : h.ldg ⟨sbk, sg, 0 + i * 1⟩ none = some p.1 := by simp [H.ldg, H.ld, H.row, hgh, getL_eq, hp]
    have hmx : maxRow < 2 ^ 62 := by decide
    have wi : IntKind.i64.wrap ((i : Int) + 1) = ((i + 1 : Nat) : Int) := by rw [i64_fit _ (by omega)]; omega
    refine Wp.loop ?_
    rw [laid_eq t0 [(5, .sl ⟨sbk, sg, 0⟩ rs.length cq), (6, .int .i64 rs.length), (7, .int .i64 i)] (by simp [t5, t6, t7])]
    unfold l53_2
    refine Wp.seq ?_
    refine Wp.region ?_
    refine Wo.val (.bool true) h (by kernel_rfl) (iop_cmp (op := .lss) (k := .i64) (a := i) (b := rs.length) true (by kernel_rfl) (by kernel_rfl) (by simp) (by simp [binInt]; omega)) ?_
    refine Wo.nil ?_
    refine Wp.seq ?_
    refine Wp.cond true (by kernel_rfl) ?_
    refine Wp.skip ?_
    refine Wp.seq ?_
    refine Wp.block ?_
    refine Wp.seq ?_
    refine Wp.region ?_
    refine Wo.val _ h (by kernel_rfl) (iop_ia (a := ⟨sbk, sg, 0⟩) (n := rs.length) (c := cq) (i := i) (by kernel_rfl) (by kernel_rfl) hlt) ?_
    refine Wo.val p.1 h (by kernel_rfl) (iop_ld (a := ⟨sbk, sg, 0 + i * 1⟩) (by kernel_rfl) hld) ?_
    refine Wo.pre 1 (by kernel_rfl) ?_
    refine Wo.nil ?_
    refine Wp.seq ?_
    refine Wp.region ?_
    refine Wo.pre 1 (by kernel_rfl) ?_
    refine Wo.val (.int .i64 l'.length) h (by kernel_rfl) ((ho.bs.len (by kernel_rfl))) ?_
    refine Wo.pre 1 (by kernel_rfl) ?_
    refine Wo.nil ?_
    refine Wp.block ?_
    obtain ⟨blk, g, hsx, hst⟩ := spoilI_step hS hr hl' (hbs p (List.mem_of_getElem? hp)) ho
    refine spoil53_1 (n := l'.length) (by omega) l'.length 0 (by omega) h _ p.1 (by kernel_rfl) (by kernel_rfl) (by kernel_rfl) (by kernel_rfl) hsx _ ?_
    intro ts1 h1 g0 g1 g2 g3 g4 g5
    obtain ⟨hS1, hr1⟩ := hst h1 g2 g3 g4 g5
    rw [laid_eq g0 [(5, .sl ⟨sbk, sg, 0⟩ rs.length cq), (6, .int .i64 rs.length), (7, .int .i64 i)] (by intro p hp; simp only [List.mem_cons, List.not_mem_nil, or_false] at hp; rcases hp with rfl | rfl | rfl <;> (rw [g1 _ (by show _ < _; omega) (by show _ ≠ _; omega)]; kernel_rfl))]
    refine Wp.region ?_
    refine Wo.pre 8 (by kernel_rfl) ?_
    refine Wo.nil ?_
    refine ih (i + 1) (by omega) h1 _ hS1 hr1 (by kernel_rfl) (by kernel_rfl) (by kernel_rfl) (by rw [← wi]; kernel_rfl) Q hQ


/-- A chain of its own, its blocks between two numbers. -/
structure OwI (lo hi : Nat) (h : H) (v : AV) (ys : List (AV × List UInt8)) : Prop where
  k : OwnK lo h v ys
  hi : Go.Det.blk v ≤ hi ∧ ∀ p ∈ ys, Go.Det.blk p.1 ≤ hi
theorem OwI.of {lo : Nat} {h : H} {v : AV} {ys : List (AV × List UInt8)} (o : OwnK lo h v ys) : OwI lo h.n h v ys := ⟨o, o.bd.2, fun p hp => (o.el p hp).bd.2⟩
theorem OwI.ch {lo hi : Nat} {h : H} {v : AV} {ys : List (AV × List UInt8)} (o : OwI lo hi h v ys) : Ch h v ys := o.k.ch
theorem OwI.parts {lo hi : Nat} {h : H} {v : AV} {xs : List (AV × List UInt8)} (c : OwI lo hi h v xs) : v.cells = [v] ∧ v.one = true ∧ isStrV v = false := c.ch.parts
theorem OwI.bd {lo hi : Nat} {h : H} {v : AV} {xs : List (AV × List UInt8)} (c : OwI lo hi h v xs) : (Go.Det.blk v = 0 ∨ lo < Go.Det.blk v) ∧ Go.Det.blk v ≤ hi := ⟨c.k.bd.1, c.hi.1⟩
theorem OwI.bq {lo hi : Nat} {h : H} {v : AV} {xs : List (AV × List UInt8)} (c : OwI lo hi h v xs) : Dj (Go.Det.blk v = 0 ∨ lo < Go.Det.blk v) ∧ Go.Det.blk v ≤ hi := c.bd
theorem OwI.fr {lo hi : Nat} {h h' : H} {v : AV} {ys : List (AV × List UInt8)} (o : OwI lo hi h v ys) {S : Nat → Prop} (x : Fr S h h') (hs : ∀ s, S s → s ≤ lo ∨ hi < s ∨ h.n < s) : OwI lo hi h' v ys := by
  refine ⟨⟨?_, fun p hp => ?_⟩, o.hi⟩
  · have hv := o.hi.1
    refine o.k.row.imp id ?_
    rintro ⟨b, g, c, h1, h2, h3, rfl, h4⟩
    have := x.1
    exact ⟨b, g, c, h1, by omega, by rw [x.2 b h2 (fun e => by have := hs _ e; simp only [blk_sl] at hv; omega)]; exact h3, rfl, h4⟩
  · have h1 := o.k.el p hp
    have h2 := h1.bd
    have h3 := o.hi.2 p hp
    exact h1.fr x (by
      by_cases h0 : Go.Det.blk p.1 = 0
      · exact .inl h0
      · exact .inr (fun e => by have := hs _ e; omega))

theorem spoilk_run {h : H} {lo hi : Nat} {z : AV} {rs : List (AV × List UInt8)} (o : OwI lo hi h z rs) (hlen : rs.length < 2 ^ 62) (hm : ∀ p ∈ rs, p.2.length ≤ maxRow) :
    ∃ r h', Runs TF 53 [z] h r h' ∧ r = .tup [] ∧ Fr (fun s => lo < s ∧ s ≤ hi) h h' := by
  refine Runs.ofP f53 rfl ?_
  rcases o.k.row with ⟨rfl, e⟩ | ⟨b, g, c, h1, h2, h3, rfl, h4⟩
  · have m1 := o.bd
    have k2 := o.parts
    refine Wp.seq ?_
    refine Wp.region ?_
    refine Wo.pre 3 (by kernel_rfl) ?_
    refine Wo.nil ?_
    refine Wp.block ?_
    refine Wp.loop ?_
    refine Wp.seq ?_
    refine Wp.region ?_
    refine Wo.pre 1 (by kernel_rfl) ?_
    refine Wo.nil ?_
    refine Wp.seq ?_
    refine Wp.cond false (by kernel_rfl) ?_
    refine Wp.exit ?_
    refine ⟨.inl rfl, (.tup []), rfl, ?_⟩
    dsimp only
    exact ⟨rfl, Fr.mono (Fr.refl _) (by simp)⟩
  · rw [List.length_map]
    refine Wp.seq (Wp.region (Wo.pre 3 (by kernel_rfl) (Wo.nil (Wp.block ?_))))
    refine spoilI_loop (hi := hi) (cq := c) h3 hlen hm o.hi.2 rs.length 0 (by omega) h _ ⟨rfl, fun _ _ => rfl⟩ (fun p hp => ⟨p.2, rfl, o.k.el p hp⟩) (by kernel_rfl) (by kernel_rfl) (by kernel_rfl) (by kernel_rfl) _ ?_
    intro ts' h' t0 hS
    exact ⟨.inl rfl, _, rfl, rfl, by rw [hS.1]; exact Nat.le_refl _, fun k hk hs => hS.2 k (by omega)⟩

/-! The contracts, told so -/
theorem takerecI {h : H} {y : AV} {l : List UInt8} (hy : Bs h y l) (hl : l.length ≤ maxRow) : ∃ r h', Runs TF 54 [y] h r h' ∧ ∃ t z ps E, r = .tup [entV t z, .int .i64 E] ∧ Ext h h' ∧ OwI h.n h'.n h' z ps ∧ recOf l = (t, says ps, E) := by
  obtain ⟨r, h', c, t, z, ps, E, e, x, o, q⟩ := takerec_run hy hl
  exact ⟨r, h', c, t, z, ps, E, e, x, OwI.of o.k, q⟩
theorem rtakerecI {h : H} {y : AV} {l : List UInt8} (hy : Bs h y l) (hok : Cok y) (hl : l.length ≤ maxRow) : ∃ r h', Runs TF 55 [y] h r h' ∧ ∃ t z ps E, r = .tup [entV t z, .int .i64 E] ∧ Ext h h' ∧ OwI h.n h'.n h' z ps ∧ recOf l = (t, says ps, E) := by
  obtain ⟨r, h', c, t, z, ps, E, e, x, o, q⟩ := rtakerec_run hy hok hl
  exact ⟨r, h', c, t, z, ps, E, e, x, OwI.of o.k, q⟩
theorem takeitemI {h : H} {y x : AV} {lf ex : List UInt8} (hy : Bs h y lf) (hx : Bs h x ex) (hl : lf.length ≤ maxRow) (hl2 : ex.length ≤ maxRow) : ∃ r h', Runs TF 56 [itemV y x] h r h' ∧ ∃ t z ps E, r = .tup [entV t z, .int .i64 E] ∧ Ext h h' ∧ OwI h.n h'.n h' z ps ∧ itemOf lf ex = (t, says ps, E) := by
  obtain ⟨r, h', c, t, z, ps, E, e, x, o, q⟩ := takeitem_run hy hx hl hl2
  exact ⟨r, h', c, t, z, ps, E, e, x, OwI.of o, q⟩
theorem rtakeitemI {h : H} {y x : AV} {lf ex : List UInt8} (hy : Bs h y lf) (hx : Bs h x ex) (oy : Cok y) (ox : Cok x) (hl : lf.length ≤ maxRow) (hl2 : ex.length ≤ maxRow) : ∃ r h', Runs TF 57 [itemV y x] h r h' ∧ ∃ t z ps E, r = .tup [entV t z, .int .i64 E] ∧ Ext h h' ∧ OwI h.n h'.n h' z ps ∧ itemOf lf ex = (t, says ps, E) := by
  obtain ⟨r, h', c, t, z, ps, E, e, x, o, q⟩ := rtakeitem_run hy hx oy ox hl hl2
  exact ⟨r, h', c, t, z, ps, E, e, x, OwI.of o.k, q⟩

end Go.Det

/- Chains as arguments. -/
set_option linter.unusedVariables false
set_option linter.unusedSimpArgs false
namespace Go.Det
open Go.Proofs

end Go.Det

