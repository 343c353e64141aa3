/- Entries: leaves, what is signed. -/
import Derived.Test.YthahfhdibhgboaaEnt1
set_option linter.unusedVariables false
set_option linter.unusedSimpArgs false
set_option linter.unusedSectionVars false
namespace Go.Det
open Go.Proofs
attribute [local irreducible] Wp Wo Wd iop ev slots quiets wanted put

/-- An entry, handed in: its own block. -/
theorem ent_new {h : H} {v : AV} {xs : List (AV × List UInt8)} (hc : Ch h v xs) (t : Nat) : ∃ H1, Ext h H1 ∧ h.n < H1.n ∧ (∀ {x : IX} {ρ : IX → AV}, ρ x = entV t v → iop (.new 70 x) ρ h = some (.val (.ptr ⟨h.n, 0, 0⟩) H1)) ∧
    ∀ q, Ext H1 q → q.ldg ⟨h.n, 0, 0⟩ none = some (.int .u64 t) ∧ q.ldg ⟨h.n, 0, 1⟩ none = some v ∧ q.ldg ⟨h.n, 0, 0⟩ (some 2) = some (entV t v) := by
  have hall : ([.int .u64 t, v] : List AV).all AV.one = true := by
    have o1 := hc.parts.2.1
    have o3 : ∀ k i, (AV.int k i).one = true := fun _ _ => rfl
    simp [o1, o3]
  refine ⟨h.new (.cells 0 70 [.int .u64 t, v] 0 false), Ext.new _ _, by simp, fun hx => iop_new hx hall, fun q hq => ?_⟩
  have g1 : q.get h.n = some (.cells 0 70 [.int .u64 t, v] 0 false) := by rw [hq.2 _ (by simp)]; exact h.get_new _
  simp [H.ldg, H.ld, H.ldn, H.row, g1, getL, cut, entV]

def c0 (xs : List (AV × List UInt8)) : List UInt8 := (xs.headD (.nils, [])).2
def leafB (t : Nat) (c : List UInt8) : List UInt8 := [0, 0] ++ digits t 8 8 ++ [0, 0] ++ (digits c.length 3 3 ++ c) ++ [0, 0]
def leafE (xs : List (AV × List UInt8)) : Int := if mayE xs = true then 0 else 1
def leafX (t : Nat) (xs : List (AV × List UInt8)) : List UInt8 := if mayE xs = true then leafB t (c0 xs) else []

theorem mayE_first {xs : List (AV × List UInt8)} (hm : mayE xs = true) : ∃ p, xs[0]? = some p ∧ c0 xs = p.2 ∧ 1 ≤ p.2.length ∧ p.2.length ≤ 512 ∧ xs.length ≤ 4 := by
  unfold mayE at hm
  simp only [Bool.and_eq_true, decide_eq_true_eq, List.all_eq_true] at hm
  obtain ⟨⟨h1, h4⟩, h2⟩ := hm
  cases xs with
  | nil => simp at h1
  | cons p xs =>
    have := h2 p (by simp)
    simp only [mayC, decide_eq_true_eq] at this
    exact ⟨p, rfl, rfl, this.1, this.2, h4⟩

theorem vecE_small {n : Nat} (hn : n < 65536) {s : Nat} (hs : s = 2 ∨ s = 3) : vecE n (s : Nat) = 0 := by
  have h1 : 1 ≤ (s : Int) ∧ (s : Int) ≤ 3 := by omega
  have h2 : (1 ≤ (s : Int) ∧ (s : Int) ≤ 4 ∨ (s : Int) = 8) := by omega
  have h3 : ¬ 2 ^ (8 * s) ≤ n := by rcases hs with rfl | rfl <;> omega
  unfold vecE
  rw [if_pos h1]
  unfold numE
  rw [if_neg (fun q => q h2), Int.toNat_natCast, if_neg h3]
theorem numE_8 {n : Nat} (hn : n < 2 ^ 64) : numE n 8 = 0 := by
  simp [numE]; omega
theorem numE_2 : numE 0 2 = 0 := by simp [numE]
theorem dig02 : digits 0 2 2 = [0, 0] := by kernel_rfl

set_option maxHeartbeats 2000000 in
theorem timed_run {h : H} {v : AV} {xs : List (AV × List UInt8)} (hc : Ch h v xs) (hlen : xs.length < 2 ^ 62) {t : Nat} (ht : t < 2 ^ 64) : ∃ r h', Runs TF 78 [entV t v] h r h' ∧ ∃ z, r = .tup [z, .int .i64 (leafE xs)] ∧ Ext h h' ∧ Ow h.n h' z (leafX t xs) := by
  refine Runs.ofP f78 rfl ?_
  obtain ⟨H1, X1, n1, enew, Ld⟩ := ent_new hc t
  obtain ⟨r2, H2, c2, rfl, X2⟩ := may_run (hc.ext X1) hlen t
  have hmx : 200000000000000 = maxRow := rfl
  have l2 := Ld H1 (Ext.refl _)
  by_cases hm : mayE xs = true
  rotate_left
  · have hm : mayE xs = false := by simpa using hm
    rw [hm] at c2
    have e1 : leafE xs = 1 := by rw [leafE, hm]; rfl
    have e2 : leafX t xs = [] := by rw [leafX, hm]; rfl
    refine Wp.seq ?_
    refine Wp.region ?_
    refine Wo.val _ _ (by kernel_rfl) (enew (by kernel_rfl)) ?_
    refine Wo.pre 8 (by kernel_rfl) ?_
    refine Wo.nil ?_
    refine Wp.seq ?_
    refine Wp.seq ?_
    refine Wp.region ?_
    refine Wo.val (entV t v) H1 (by kernel_rfl) (iop_ld (a := ⟨h.n, 0, 0⟩) (by kernel_rfl) l2.2.2) ?_
    refine Wo.call (by kernel_rfl) (by kernel_rfl) (c2) ?_
    refine Wo.pre 8 (by kernel_rfl) ?_
    refine Wo.nil ?_
    refine Wp.cond true (by kernel_rfl) ?_
    refine Wp.seq ?_
    refine Wp.region ?_
    refine Wo.pre 8 (by kernel_rfl) ?_
    refine Wo.nil ?_
    refine Wp.ret ⟨.inr rfl, .tup [.nils, .int .i64 1], (by kernel_rfl), .nils, by rw [e1], X1.trans X2, by rw [e2]; exact .inl ⟨rfl, rfl⟩⟩
  rw [hm] at c2
  have eE : leafE xs = 0 := by rw [leafE, hm]; rfl
  have eX : leafX t xs = leafB t (c0 xs) := by rw [leafX, hm]; rfl
  obtain ⟨p, hp, hc0, hp1, hp2, hx4⟩ := mayE_first hm
  rw [eE, eX, hc0]
  obtain ⟨a, q, rfl, hld⟩ := hc.at hp
  have hpB := (hc.el p (List.mem_of_getElem? hp)).1
  have ldp : ∀ k, Ext h k → k.ldg ⟨a.b, a.g, a.o + 0 * 1⟩ none = some p.1 := fun k hk => by
    obtain ⟨a', q', e, hl⟩ := (hc.ext hk).at hp
    simp only [AV.sl.injEq] at e
    obtain ⟨rfl, _, rfl⟩ := e
    exact hl
  have hlt : 0 < xs.length := (List.getElem?_eq_some_iff.1 hp).1
  obtain ⟨H3, hH3⟩ : ∃ H3, H3 = H2.new (.cells 0 5 (bytesAV [0, 0]) 0 false) := ⟨_, rfl⟩
  have X3 : Ext H2 H3 := by rw [hH3]; exact Ext.new _ _
  have lit3 : Ow H2.n H3 (.sl ⟨H2.n, 0, 0⟩ 2 (.ex 2)) [0, 0] := by rw [hH3]; exact Ow.lit H2 [0, 0]
  have eH3 : ∀ ts, iop (.bsl 5 [.int .u8 0, .int .u8 0] 2 [(0, 1, .c (.int .u8 0)), (1, 1, .c (.int .u8 0))]) (ev ts) H2 = some (.val (.sl ⟨H2.n, 0, 0⟩ 2 (.ex 2)) H3) := fun ts => by rw [hH3]; kernel_rfl
  obtain ⟨z4, H4, c4, X4, o4⟩ := number_run lit3.bs (by simp; omega) ht 8
  rw [if_pos (numE_8 ht)] at o4
  obtain ⟨z5, H5, c5, X5, o5⟩ := number_run o4.bs (by simp [digits_len]; omega) (n := 0) (by omega) 2
  rw [if_pos numE_2] at o5
  obtain ⟨r6, H6, c6, z6, rfl, X6, o6⟩ := wvec_any o5.bs (((((hpB.ext X1).ext X2).ext X3).ext X4).ext X5) (3 : Nat) (by simp [digits_len]; omega) (by omega)
  rw [vecE_small (by omega) (.inr rfl)] at c6
  rw [if_pos (vecE_small (by omega) (.inr rfl))] at o6
  obtain ⟨r7, H7, c7, z7, rfl, X7, o7⟩ := wvec_any o6.bs (y := .nils) (ly := []) (.inl ⟨rfl, rfl⟩) (2 : Nat) (by simp [digits_len]; omega) (by simp)
  rw [vecE_small (by simp) (.inl rfl)] at c7
  rw [if_pos (vecE_small (by simp) (.inl rfl))] at o7
  have l3 := Ld H3 (X2.trans X3)
  have l5 := Ld H5 (((X2.trans X3).trans X4).trans X5)
  have hld5 := ldp H5 ((((X1.trans X2).trans X3).trans X4).trans X5)
  refine Wp.seq ?_
  refine Wp.region ?_
  refine Wo.val _ _ (by kernel_rfl) (enew (by kernel_rfl)) ?_
  refine Wo.pre 8 (by kernel_rfl) ?_
  refine Wo.nil ?_
  refine Wp.seq ?_
  refine Wp.seq ?_
  refine Wp.region ?_
  refine Wo.val (entV t (.sl a xs.length q)) H1 (by kernel_rfl) (iop_ld (a := ⟨h.n, 0, 0⟩) (by kernel_rfl) l2.2.2) ?_
  refine Wo.call (by kernel_rfl) (by kernel_rfl) (c2) ?_
  refine Wo.pre 8 (by kernel_rfl) ?_
  refine Wo.nil ?_
  refine Wp.cond false (by kernel_rfl) ?_
  refine Wp.skip ?_
  refine Wp.seq ?_
  refine Wp.region ?_
  refine Wo.val _ _ (by kernel_rfl) (eH3 _) ?_
  refine Wo.pre 1 (by kernel_rfl) ?_
  refine Wo.val (.int .u64 t) H3 (by kernel_rfl) (iop_ld (a := ⟨h.n, 0, 0⟩) (by kernel_rfl) l3.1) ?_
  refine Wo.call (by kernel_rfl) (by kernel_rfl) (c4) ?_
  refine Wo.pre 8 (by kernel_rfl) ?_
  refine Wo.nil ?_
  refine Wp.seq ?_
  refine Wp.region ?_
  refine Wo.pre 1 (by kernel_rfl) ?_
  refine Wo.call (by kernel_rfl) (by kernel_rfl) (c5) ?_
  refine Wo.pre 8 (by kernel_rfl) ?_
  refine Wo.nil ?_
  refine Wp.seq ?_
  refine Wp.region ?_
  refine Wo.pre 1 (by kernel_rfl) ?_
  refine Wo.pre 1 (by kernel_rfl) ?_
  refine Wo.val (.sl a xs.length q) H5 (by kernel_rfl) (iop_ld (a := ⟨h.n, 0, 1⟩) (by kernel_rfl) l5.2.1) ?_
  refine Wo.val _ H5 (by kernel_rfl) (iop_ia (a := a) (n := xs.length) (c := q) (i := 0) (by kernel_rfl) (by kernel_rfl) hlt) ?_
  refine Wo.val p.1 H5 (by kernel_rfl) (iop_ld (a := ⟨a.b, a.g, a.o + 0 * 1⟩) (by kernel_rfl) hld5) ?_
  refine Wo.call (by kernel_rfl) (by kernel_rfl) (c6) ?_
  refine Wo.pre 8 (by kernel_rfl) ?_
  refine Wo.nil ?_
  refine Wp.seq ?_
  refine Wp.seq ?_
  refine Wp.region ?_
  refine Wo.pre 8 (by kernel_rfl) ?_
  refine Wo.nil ?_
  refine Wp.cond false (by kernel_rfl) ?_
  refine Wp.skip ?_
  refine Wp.seq ?_
  refine Wp.region ?_
  refine Wo.pre 1 (by kernel_rfl) ?_
  refine Wo.call (by kernel_rfl) (by kernel_rfl) (c7) ?_
  refine Wo.pre 8 (by kernel_rfl) ?_
  refine Wo.nil ?_
  have e : [0, 0] ++ digits t 8 (8 : Int).toNat ++ digits 0 2 (2 : Int).toNat ++ digits p.2.length ((3 : Nat) : Int).toNat ((3 : Nat) : Int).toNat ++ p.2 ++ digits ([] : List UInt8).length ((2 : Nat) : Int).toNat ((2 : Nat) : Int).toNat ++ [] = leafB t p.2 := by
    show [0, 0] ++ digits t 8 8 ++ digits 0 2 2 ++ digits p.2.length 3 3 ++ p.2 ++ digits 0 2 2 ++ [] = _
    rw [dig02]
    simp [leafB]
  refine Wp.ret ⟨.inr rfl, .tup [z7, .int .i64 0], (by kernel_rfl), z7, rfl, (((((X1.trans X2).trans X3).trans X4).trans X5).trans X6).trans X7, ?_⟩
  have o7' := o7.mono (lo' := h.n) (by have := X1.1; have := X2.1; have := X3.1; have := X4.1; have := X5.1; have := X6.1; omega)
  rw [← e]
  simpa using o7'

theorem leaf_run {h : H} {v : AV} {xs : List (AV × List UInt8)} (hc : Ch h v xs) (hlen : xs.length < 2 ^ 62) {t : Nat} (ht : t < 2 ^ 64) : ∃ r h', Runs TF 38 [entV t v] h r h' ∧ ∃ z, r = .tup [z, .int .i64 (leafE xs)] ∧ Ext h h' ∧ Ow h.n h' z (leafX t xs) := by
  refine Runs.ofP f38 rfl ?_
  obtain ⟨H1, X1, n1, enew, Ld⟩ := ent_new hc t
  obtain ⟨r2, H2, c2, z, rfl, X2, o2⟩ := timed_run (hc.ext X1) hlen ht
  refine Wp.seq ?_
  refine Wp.region ?_
  refine Wo.val _ _ (by kernel_rfl) (enew (by kernel_rfl)) ?_
  refine Wo.pre 8 (by kernel_rfl) ?_
  refine Wo.nil ?_
  refine Wp.seq ?_
  refine Wp.region ?_
  refine Wo.val (entV t v) H1 (by kernel_rfl) (iop_ld (a := ⟨h.n, 0, 0⟩) (by kernel_rfl) (Ld H1 (Ext.refl _)).2.2) ?_
  refine Wo.call (by kernel_rfl) (by kernel_rfl) (c2) ?_
  refine Wo.pre 8 (by kernel_rfl) ?_
  refine Wo.nil ?_
  exact Wp.ret ⟨.inr rfl, .tup [z, .int .i64 (leafE xs)], (by kernel_rfl), z, rfl, X1.trans X2, o2.mono X1.1⟩

theorem sct_run {h : H} {v : AV} {xs : List (AV × List UInt8)} (hc : Ch h v xs) (hlen : xs.length < 2 ^ 62) {t : Nat} (ht : t < 2 ^ 64) : ∃ r h', Runs TF 39 [entV t v] h r h' ∧ ∃ z, r = .tup [z, .int .i64 (leafE xs)] ∧ Ext h h' ∧ Ow h.n h' z (leafX t xs) := by
  refine Runs.ofP f39 rfl ?_
  obtain ⟨H1, X1, n1, enew, Ld⟩ := ent_new hc t
  obtain ⟨r2, H2, c2, z, rfl, X2, o2⟩ := timed_run (hc.ext X1) hlen ht
  refine Wp.seq ?_
  refine Wp.region ?_
  refine Wo.val _ _ (by kernel_rfl) (enew (by kernel_rfl)) ?_
  refine Wo.pre 8 (by kernel_rfl) ?_
  refine Wo.nil ?_
  refine Wp.seq ?_
  refine Wp.region ?_
  refine Wo.val (entV t v) H1 (by kernel_rfl) (iop_ld (a := ⟨h.n, 0, 0⟩) (by kernel_rfl) (Ld H1 (Ext.refl _)).2.2) ?_
  refine Wo.call (by kernel_rfl) (by kernel_rfl) (c2) ?_
  refine Wo.pre 8 (by kernel_rfl) ?_
  refine Wo.nil ?_
  exact Wp.ret ⟨.inr rfl, .tup [z, .int .i64 (leafE xs)], (by kernel_rfl), z, rfl, X1.trans X2, o2.mono X1.1⟩
end Go.Det
