/- Entries: what stands beside, records, items. -/
import Derived.Test.YthahfhdibhgboaaList
set_option linter.unusedVariables false
set_option linter.unusedSimpArgs false
set_option linter.unusedSectionVars false
namespace Go.Det
open Go.Proofs
attribute [local irreducible] Wp Wo Wd iop ev slots quiets wanted put

/-- A chain without its first. -/
theorem Ch.rest {h : H} {v : AV} {xs : List (AV × List UInt8)} (hc : Ch h v xs) (h1 : 1 ≤ xs.length) :
    ∃ v', (∀ (x y : IX) (ρ : IX → AV), ρ x = v → ρ y = .int .i64 1 → iop (.slL 1 x (some y) none none) ρ h = some (.val v' h)) ∧ Ch h v' (xs.drop 1) := by
  rcases hc.row with ⟨_, rfl⟩ | ⟨a, c, rfl, ha, hld⟩
  · simp at h1
  · have hel : ∀ p ∈ xs.drop 1, Bs h p.1 p.2 ∧ Cok p.1 := fun p hp => hc.el p (List.mem_of_mem_drop hp)
    have hd := ldn_drop hld (n := 1) h1
    have hm : (xs.map (·.1)).drop 1 = (xs.drop 1).map (·.1) := by rw [List.map_drop]
    rw [hm] at hd
    have hl : (xs.drop 1).length = xs.length - 1 := by simp
    have q1 : (1 : Int) ≤ (xs.length : Int) := by omega
    rcases hc.cok a _ c rfl with ⟨k, rfl, hk⟩ | rfl
    · have q2 : (xs.length : Int) ≤ (k : Int) := by omega
      by_cases hk1 : k = 1
      · have hx1 : xs.length = 1 := by omega
        have hnil : xs.drop 1 = [] := List.eq_nil_of_length_eq_zero (by omega)
        refine ⟨.sl a (xs.length - 1) (.ex (k - 1)), ?_, ?_⟩
        · intro x y ρ hx hy
          simp [iop, hx, hy, bounds, asI, q1, q2, hk1]
        · rw [hnil]
          refine ⟨.inr ⟨a, .ex (k - 1), by simp [hx1], ha, ?_⟩, fun p hp => by simp at hp, ?_⟩
          · exact ldn_take hld (n := 0) (by omega)
          · rintro a' m c' e
            simp only [AV.sl.injEq] at e
            obtain ⟨rfl, rfl, rfl⟩ := e
            exact .inl ⟨_, rfl, by omega⟩
      · refine ⟨.sl ⟨a.b, a.g, a.o + 1⟩ (xs.length - 1) (.ex (k - 1)), ?_, ⟨.inr ⟨⟨a.b, a.g, a.o + 1⟩, _, by rw [hl], ha, by rw [hl]; exact hd⟩, hel, ?_⟩⟩
        · intro x y ρ hx hy
          simp [iop, hx, hy, bounds, asI, q1, q2, hk1]
        · rintro a' m c' e
          simp only [AV.sl.injEq] at e
          obtain ⟨rfl, rfl, rfl⟩ := e
          exact .inl ⟨_, rfl, by omega⟩
    · refine ⟨.sl ⟨a.b, a.g, a.o + 1⟩ (xs.length - 1) (.op 1), ?_, ⟨.inr ⟨⟨a.b, a.g, a.o + 1⟩, _, by rw [hl], ha, by rw [hl]; exact hd⟩, hel, ?_⟩⟩
      · intro x y ρ hx hy
        simp [iop, hx, hy, bounds, asI, q1]
      · rintro a' m c' e
        simp only [AV.sl.injEq] at e
        obtain ⟨rfl, rfl, rfl⟩ := e
        exact .inr rfl

theorem mayE_small {xs : List (AV × List UInt8)} (hm : mayE xs = true) : Small xs ∧ 1 ≤ xs.length := by
  unfold mayE at hm
  simp only [Bool.and_eq_true, decide_eq_true_eq, List.all_eq_true] at hm
  obtain ⟨⟨h1, h4⟩, h2⟩ := hm
  refine ⟨⟨h4, fun p hp => ?_⟩, h1⟩
  have := h2 p hp
  simp only [mayC, decide_eq_true_eq] at this
  exact this.2

def extraX (xs : List (AV × List UInt8)) : List UInt8 := if mayE xs = true then listB (xs.drop 1) else []
def recX (t : Nat) (xs : List (AV × List UInt8)) : List UInt8 := if mayE xs = true then digits t 8 8 ++ listB xs else []

set_option maxHeartbeats 1000000 in
theorem extra_run {h : H} {v : AV} {xs : List (AV × List UInt8)} (hc : Ch h v xs) (hlen : xs.length < 2 ^ 62) {t : Nat} (ht : t < 2 ^ 64) : ∃ r h', Runs TF 42 [entV t v] h r h' ∧ ∃ z, r = .tup [z, .int .i64 (leafE xs)] ∧ Ext h h' ∧ Ow h.n h' z (extraX xs) := by
  refine Runs.ofP f42 rfl ?_
  have hmx : 200000000000000 = maxRow := rfl
  obtain ⟨H1, X1, n1, enew, Ld⟩ := ent_new hc t
  obtain ⟨r2, H2, c2, rfl, X2⟩ := may_run (hc.ext X1) hlen t
  have l1 := Ld H1 (Ext.refl _)
  have l2 := Ld H2 X2
  by_cases hm : mayE xs = true
  rotate_left
  · have hm : mayE xs = false := by simpa using hm
    rw [hm] at c2
    have e1 : leafE xs = 1 := by rw [leafE, hm]; rfl
    have e2 : extraX xs = [] := by simp [extraX, recX, hm]
    refine Wp.seq ?_
    refine Wp.region ?_
    refine Wo.val _ _ (by kernel_rfl) (enew (by kernel_rfl)) ?_
    refine Wo.pre 8 (by kernel_rfl) ?_
    refine Wo.nil ?_
    refine Wp.seq ?_
    refine Wp.seq ?_
    refine Wp.region ?_
    refine Wo.val (entV t v) H1 (by kernel_rfl) (iop_ld (a := ⟨h.n, 0, 0⟩) (by kernel_rfl) l1.2.2) ?_
    refine Wo.call (by kernel_rfl) (by kernel_rfl) (c2) ?_
    refine Wo.pre 8 (by kernel_rfl) ?_
    refine Wo.nil ?_
    refine Wp.cond true (by kernel_rfl) ?_
    refine Wp.seq ?_
    refine Wp.region ?_
    refine Wo.pre 8 (by kernel_rfl) ?_
    refine Wo.nil ?_
    refine Wp.ret ⟨.inr rfl, .tup [.nils, .int .i64 1], (by kernel_rfl), .nils, by rw [e1], X1.trans X2, by rw [e2]; exact .inl ⟨rfl, rfl⟩⟩
  rw [hm] at c2
  have eE : leafE xs = 0 := by rw [leafE, hm]; rfl
  obtain ⟨hs, hx1⟩ := mayE_small hm
  have X12 := X1.trans X2
  rw [eE]
  have eX : extraX xs = listB (xs.drop 1) := by rw [extraX, if_pos hm]
  rw [eX]
  obtain ⟨v', s1, s2⟩ := (hc.ext X12).rest hx1
  have hs' : Small (xs.drop 1) := ⟨by have := hs.1; simp; omega, fun p hp => hs.2 p (List.mem_of_mem_drop hp)⟩
  obtain ⟨z, H3, c3, X3, o3⟩ := list_run s2 hs'
  refine Wp.seq ?_
  refine Wp.region ?_
  refine Wo.val _ _ (by kernel_rfl) (enew (by kernel_rfl)) ?_
  refine Wo.pre 8 (by kernel_rfl) ?_
  refine Wo.nil ?_
  refine Wp.seq ?_
  refine Wp.seq ?_
  refine Wp.region ?_
  refine Wo.val (entV t v) H1 (by kernel_rfl) (iop_ld (a := ⟨h.n, 0, 0⟩) (by kernel_rfl) l1.2.2) ?_
  refine Wo.call (by kernel_rfl) (by kernel_rfl) (c2) ?_
  refine Wo.pre 8 (by kernel_rfl) ?_
  refine Wo.nil ?_
  refine Wp.cond false (by kernel_rfl) ?_
  refine Wp.skip ?_
  refine Wp.seq ?_
  refine Wp.region ?_
  refine Wo.pre 1 (by kernel_rfl) ?_
  refine Wo.val v H2 (by kernel_rfl) (iop_ld (a := ⟨h.n, 0, 1⟩) (by kernel_rfl) l2.2.1) ?_
  refine Wo.val v' H2 (by kernel_rfl) (s1 _ _ _ (by kernel_rfl) (by kernel_rfl)) ?_
  refine Wo.call (by kernel_rfl) (by kernel_rfl) (c3) ?_
  refine Wo.pre 8 (by kernel_rfl) ?_
  refine Wo.nil ?_
  exact Wp.ret ⟨.inr rfl, .tup [z, .int .i64 0], (by kernel_rfl), z, rfl, X12.trans X3, o3.mono X12.1⟩

set_option maxHeartbeats 1000000 in
theorem rextra_run {h : H} {v : AV} {xs : List (AV × List UInt8)} (hc : Ch h v xs) (hlen : xs.length < 2 ^ 62) {t : Nat} (ht : t < 2 ^ 64) : ∃ r h', Runs TF 43 [entV t v] h r h' ∧ ∃ z, r = .tup [z, .int .i64 (leafE xs)] ∧ Ext h h' ∧ Ow h.n h' z (extraX xs) := by
  refine Runs.ofP f43 rfl ?_
  have hmx : 200000000000000 = maxRow := rfl
  obtain ⟨H1, X1, n1, enew, Ld⟩ := ent_new hc t
  obtain ⟨r2, H2, c2, rfl, X2⟩ := rmay_run (hc.ext X1) hlen t
  have l1 := Ld H1 (Ext.refl _)
  have l2 := Ld H2 X2
  by_cases hm : mayE xs = true
  rotate_left
  · have hm : mayE xs = false := by simpa using hm
    rw [hm] at c2
    have e1 : leafE xs = 1 := by rw [leafE, hm]; rfl
    have e2 : extraX xs = [] := by simp [extraX, recX, hm]
    refine Wp.seq ?_
    refine Wp.region ?_
    refine Wo.val _ _ (by kernel_rfl) (enew (by kernel_rfl)) ?_
    refine Wo.pre 8 (by kernel_rfl) ?_
    refine Wo.nil ?_
    refine Wp.seq ?_
    refine Wp.seq ?_
    refine Wp.region ?_
    refine Wo.val (entV t v) H1 (by kernel_rfl) (iop_ld (a := ⟨h.n, 0, 0⟩) (by kernel_rfl) l1.2.2) ?_
    refine Wo.call (by kernel_rfl) (by kernel_rfl) (c2) ?_
    refine Wo.pre 8 (by kernel_rfl) ?_
    refine Wo.nil ?_
    refine Wp.cond true (by kernel_rfl) ?_
    refine Wp.seq ?_
    refine Wp.region ?_
    refine Wo.pre 8 (by kernel_rfl) ?_
    refine Wo.nil ?_
    refine Wp.ret ⟨.inr rfl, .tup [.nils, .int .i64 1], (by kernel_rfl), .nils, by rw [e1], X1.trans X2, by rw [e2]; exact .inl ⟨rfl, rfl⟩⟩
  rw [hm] at c2
  have eE : leafE xs = 0 := by rw [leafE, hm]; rfl
  obtain ⟨hs, hx1⟩ := mayE_small hm
  have X12 := X1.trans X2
  rw [eE]
  have eX : extraX xs = listB (xs.drop 1) := by rw [extraX, if_pos hm]
  rw [eX]
  obtain ⟨v', s1, s2⟩ := (hc.ext X12).rest hx1
  have hs' : Small (xs.drop 1) := ⟨by have := hs.1; simp; omega, fun p hp => hs.2 p (List.mem_of_mem_drop hp)⟩
  obtain ⟨z, H3, c3, X3, o3⟩ := rlist_run s2 hs'
  refine Wp.seq ?_
  refine Wp.region ?_
  refine Wo.val _ _ (by kernel_rfl) (enew (by kernel_rfl)) ?_
  refine Wo.pre 8 (by kernel_rfl) ?_
  refine Wo.nil ?_
  refine Wp.seq ?_
  refine Wp.seq ?_
  refine Wp.region ?_
  refine Wo.val (entV t v) H1 (by kernel_rfl) (iop_ld (a := ⟨h.n, 0, 0⟩) (by kernel_rfl) l1.2.2) ?_
  refine Wo.call (by kernel_rfl) (by kernel_rfl) (c2) ?_
  refine Wo.pre 8 (by kernel_rfl) ?_
  refine Wo.nil ?_
  refine Wp.cond false (by kernel_rfl) ?_
  refine Wp.skip ?_
  refine Wp.seq ?_
  refine Wp.region ?_
  refine Wo.pre 1 (by kernel_rfl) ?_
  refine Wo.val v H2 (by kernel_rfl) (iop_ld (a := ⟨h.n, 0, 1⟩) (by kernel_rfl) l2.2.1) ?_
  refine Wo.val v' H2 (by kernel_rfl) (s1 _ _ _ (by kernel_rfl) (by kernel_rfl)) ?_
  refine Wo.call (by kernel_rfl) (by kernel_rfl) (c3) ?_
  refine Wo.pre 8 (by kernel_rfl) ?_
  refine Wo.nil ?_
  exact Wp.ret ⟨.inr rfl, .tup [z, .int .i64 0], (by kernel_rfl), z, rfl, X12.trans X3, o3.mono X12.1⟩

set_option maxHeartbeats 1000000 in
theorem record_run {h : H} {v : AV} {xs : List (AV × List UInt8)} (hc : Ch h v xs) (hlen : xs.length < 2 ^ 62) {t : Nat} (ht : t < 2 ^ 64) : ∃ r h', Runs TF 44 [entV t v] h r h' ∧ ∃ z, r = .tup [z, .int .i64 (leafE xs)] ∧ Ext h h' ∧ Ow h.n h' z (recX t xs) := by
  refine Runs.ofP f44 rfl ?_
  have hmx : 200000000000000 = maxRow := rfl
  obtain ⟨H1, X1, n1, enew, Ld⟩ := ent_new hc t
  obtain ⟨r2, H2, c2, rfl, X2⟩ := may_run (hc.ext X1) hlen t
  have l1 := Ld H1 (Ext.refl _)
  have l2 := Ld H2 X2
  by_cases hm : mayE xs = true
  rotate_left
  · have hm : mayE xs = false := by simpa using hm
    rw [hm] at c2
    have e1 : leafE xs = 1 := by rw [leafE, hm]; rfl
    have e2 : recX t xs = [] := by simp [extraX, recX, hm]
    refine Wp.seq ?_
    refine Wp.region ?_
    refine Wo.val _ _ (by kernel_rfl) (enew (by kernel_rfl)) ?_
    refine Wo.pre 8 (by kernel_rfl) ?_
    refine Wo.nil ?_
    refine Wp.seq ?_
    refine Wp.seq ?_
    refine Wp.region ?_
    refine Wo.val (entV t v) H1 (by kernel_rfl) (iop_ld (a := ⟨h.n, 0, 0⟩) (by kernel_rfl) l1.2.2) ?_
    refine Wo.call (by kernel_rfl) (by kernel_rfl) (c2) ?_
    refine Wo.pre 8 (by kernel_rfl) ?_
    refine Wo.nil ?_
    refine Wp.cond true (by kernel_rfl) ?_
    refine Wp.seq ?_
    refine Wp.region ?_
    refine Wo.pre 8 (by kernel_rfl) ?_
    refine Wo.nil ?_
    refine Wp.ret ⟨.inr rfl, .tup [.nils, .int .i64 1], (by kernel_rfl), .nils, by rw [e1], X1.trans X2, by rw [e2]; exact .inl ⟨rfl, rfl⟩⟩
  rw [hm] at c2
  have eE : leafE xs = 0 := by rw [leafE, hm]; rfl
  obtain ⟨hs, hx1⟩ := mayE_small hm
  have X12 := X1.trans X2
  rw [eE]
  have eX : recX t xs = digits t 8 (8 : Int).toNat ++ listB xs := by rw [recX, if_pos hm]; rfl
  rw [eX]
  obtain ⟨y, H3, c3, X3, o3⟩ := number_run (h := H2) (b := .nils) (l := []) (.inl ⟨rfl, rfl⟩) (by decide) ht 8
  rw [if_pos (numE_8 ht), List.nil_append] at o3
  obtain ⟨z, H4, c4, X4, o4⟩ := list_run (hc.ext (X12.trans X3)) hs
  have hil := inner_len xs hs.2
  have h4 := hs.1
  have hlb : (listB xs).length ≤ 3000 := by
    unfold listB
    rw [List.length_append, digits_len]; omega
  have m3 := X3.1
  have m4 := X4.1
  have m12 := X12.1
  obtain ⟨w, H5, a5, o5, Y5, _⟩ := ((o3.mono m12).ext X4).app o4.bs (by omega) (by simp [digits_len]; omega)
  have l3 := Ld H3 (X2.trans X3)
  refine Wp.seq ?_
  refine Wp.region ?_
  refine Wo.val _ _ (by kernel_rfl) (enew (by kernel_rfl)) ?_
  refine Wo.pre 8 (by kernel_rfl) ?_
  refine Wo.nil ?_
  refine Wp.seq ?_
  refine Wp.seq ?_
  refine Wp.region ?_
  refine Wo.val (entV t v) H1 (by kernel_rfl) (iop_ld (a := ⟨h.n, 0, 0⟩) (by kernel_rfl) l1.2.2) ?_
  refine Wo.call (by kernel_rfl) (by kernel_rfl) (c2) ?_
  refine Wo.pre 8 (by kernel_rfl) ?_
  refine Wo.nil ?_
  refine Wp.cond false (by kernel_rfl) ?_
  refine Wp.skip ?_
  refine Wp.seq ?_
  refine Wp.draw ?_
  refine Wd.pure (by kernel_rfl) (by kernel_rfl) ?_
  refine Wd.read (.int .u64 t) (.ld none (.c (.ptr ⟨h.n, 0, 0⟩))) (by kernel_rfl) (by kernel_rfl) (iop_ld (a := ⟨h.n, 0, 0⟩) (by kernel_rfl) l2.1) ?_
  refine Wd.pure (by kernel_rfl) (by kernel_rfl) ?_
  refine Wd.read v (.ld none (.c (.ptr ⟨h.n, 0, 1⟩))) (by kernel_rfl) (by kernel_rfl) (iop_ld (a := ⟨h.n, 0, 1⟩) (by kernel_rfl) l2.2.1) ?_
  refine Wd.call (by kernel_rfl) (by kernel_rfl) c3 (holds_of [(.ld none (.c (.ptr ⟨h.n, 0, 1⟩)), v, 4), (.ld none (.c (.ptr ⟨h.n, 0, 0⟩)), .int .u64 t, 1)] (by kernel_rfl) (holds_and (rd_ld l2.2.1) (holds_and (rd_ld l2.1) rfl))) ?_
  refine Wd.call (by kernel_rfl) (by kernel_rfl) c4 (holds_of [(.ld none (.c (.ptr ⟨h.n, 0, 1⟩)), v, 4)] (by kernel_rfl) (holds_and (rd_ld l3.2.1) rfl)) ?_
  refine Wd.act w H5 (by kernel_rfl) (iop_app (v := y) (w := z) (by kernel_rfl) (by kernel_rfl) o4.bs.parts.2.2 a5) (holds_of [] (by kernel_rfl) rfl) ?_
  refine Wd.pure (by kernel_rfl) (by kernel_rfl) ?_
  refine Wd.pure (by kernel_rfl) (by kernel_rfl) ?_
  refine Wd.done (holds_of [] (by kernel_rfl) rfl) ?_
  exact Wp.ret ⟨.inr rfl, .tup [w, .int .i64 0], (by kernel_rfl), w, rfl, ((X12.trans X3).trans X4).then2 Y5, o5⟩

set_option maxHeartbeats 1000000 in
theorem rrecord_run {h : H} {v : AV} {xs : List (AV × List UInt8)} (hc : Ch h v xs) (hlen : xs.length < 2 ^ 62) {t : Nat} (ht : t < 2 ^ 64) : ∃ r h', Runs TF 45 [entV t v] h r h' ∧ ∃ z, r = .tup [z, .int .i64 (leafE xs)] ∧ Ext h h' ∧ Ow h.n h' z (recX t xs) := by
  refine Runs.ofP f45 rfl ?_
  have hmx : 200000000000000 = maxRow := rfl
  obtain ⟨H1, X1, n1, enew, Ld⟩ := ent_new hc t
  obtain ⟨r2, H2, c2, rfl, X2⟩ := rmay_run (hc.ext X1) hlen t
  have l1 := Ld H1 (Ext.refl _)
  have l2 := Ld H2 X2
  by_cases hm : mayE xs = true
  rotate_left
  · have hm : mayE xs = false := by simpa using hm
    rw [hm] at c2
    have e1 : leafE xs = 1 := by rw [leafE, hm]; rfl
    have e2 : recX t xs = [] := by simp [extraX, recX, hm]
    refine Wp.seq ?_
    refine Wp.region ?_
    refine Wo.val _ _ (by kernel_rfl) (enew (by kernel_rfl)) ?_
    refine Wo.pre 8 (by kernel_rfl) ?_
    refine Wo.nil ?_
    refine Wp.seq ?_
    refine Wp.seq ?_
    refine Wp.region ?_
    refine Wo.val (entV t v) H1 (by kernel_rfl) (iop_ld (a := ⟨h.n, 0, 0⟩) (by kernel_rfl) l1.2.2) ?_
    refine Wo.call (by kernel_rfl) (by kernel_rfl) (c2) ?_
    refine Wo.pre 8 (by kernel_rfl) ?_
    refine Wo.nil ?_
    refine Wp.cond true (by kernel_rfl) ?_
    refine Wp.seq ?_
    refine Wp.region ?_
    refine Wo.pre 8 (by kernel_rfl) ?_
    refine Wo.nil ?_
    refine Wp.ret ⟨.inr rfl, .tup [.nils, .int .i64 1], (by kernel_rfl), .nils, by rw [e1], X1.trans X2, by rw [e2]; exact .inl ⟨rfl, rfl⟩⟩
  rw [hm] at c2
  have eE : leafE xs = 0 := by rw [leafE, hm]; rfl
  obtain ⟨hs, hx1⟩ := mayE_small hm
  have X12 := X1.trans X2
  rw [eE]
  have eX : recX t xs = digits t 8 (8 : Int).toNat ++ listB xs := by rw [recX, if_pos hm]; rfl
  rw [eX]
  obtain ⟨y, H3, c3, X3, o3⟩ := rnumq_run (h := H2) ht 8
  rw [if_pos (numE_8 ht)] at o3
  obtain ⟨z, H4, c4, X4, o4⟩ := rlist_run (hc.ext (X12.trans X3)) hs
  have hil := inner_len xs hs.2
  have h4 := hs.1
  have hlb : (listB xs).length ≤ 3000 := by
    unfold listB
    rw [List.length_append, digits_len]; omega
  have m3 := X3.1
  have m4 := X4.1
  have m12 := X12.1
  obtain ⟨w, H5, a5, o5, Y5, _⟩ := ((o3.mono m12).ext X4).app o4.bs (by omega) (by simp [digits_len]; omega)
  have l3 := Ld H3 (X2.trans X3)
  refine Wp.seq ?_
  refine Wp.region ?_
  refine Wo.val _ _ (by kernel_rfl) (enew (by kernel_rfl)) ?_
  refine Wo.pre 8 (by kernel_rfl) ?_
  refine Wo.nil ?_
  refine Wp.seq ?_
  refine Wp.seq ?_
  refine Wp.region ?_
  refine Wo.val (entV t v) H1 (by kernel_rfl) (iop_ld (a := ⟨h.n, 0, 0⟩) (by kernel_rfl) l1.2.2) ?_
  refine Wo.call (by kernel_rfl) (by kernel_rfl) (c2) ?_
  refine Wo.pre 8 (by kernel_rfl) ?_
  refine Wo.nil ?_
  refine Wp.cond false (by kernel_rfl) ?_
  refine Wp.skip ?_
  refine Wp.seq ?_
  refine Wp.draw ?_
  refine Wd.pure (by kernel_rfl) (by kernel_rfl) ?_
  refine Wd.read (.int .u64 t) (.ld none (.c (.ptr ⟨h.n, 0, 0⟩))) (by kernel_rfl) (by kernel_rfl) (iop_ld (a := ⟨h.n, 0, 0⟩) (by kernel_rfl) l2.1) ?_
  refine Wd.pure (by kernel_rfl) (by kernel_rfl) ?_
  refine Wd.read v (.ld none (.c (.ptr ⟨h.n, 0, 1⟩))) (by kernel_rfl) (by kernel_rfl) (iop_ld (a := ⟨h.n, 0, 1⟩) (by kernel_rfl) l2.2.1) ?_
  refine Wd.call (by kernel_rfl) (by kernel_rfl) c3 (holds_of [(.ld none (.c (.ptr ⟨h.n, 0, 1⟩)), v, 4), (.ld none (.c (.ptr ⟨h.n, 0, 0⟩)), .int .u64 t, 1)] (by kernel_rfl) (holds_and (rd_ld l2.2.1) (holds_and (rd_ld l2.1) rfl))) ?_
  refine Wd.call (by kernel_rfl) (by kernel_rfl) c4 (holds_of [(.ld none (.c (.ptr ⟨h.n, 0, 1⟩)), v, 4)] (by kernel_rfl) (holds_and (rd_ld l3.2.1) rfl)) ?_
  refine Wd.act w H5 (by kernel_rfl) (iop_app (v := y) (w := z) (by kernel_rfl) (by kernel_rfl) o4.bs.parts.2.2 a5) (holds_of [] (by kernel_rfl) rfl) ?_
  refine Wd.pure (by kernel_rfl) (by kernel_rfl) ?_
  refine Wd.pure (by kernel_rfl) (by kernel_rfl) ?_
  refine Wd.done (holds_of [] (by kernel_rfl) rfl) ?_
  exact Wp.ret ⟨.inr rfl, .tup [w, .int .i64 0], (by kernel_rfl), w, rfl, ((X12.trans X3).trans X4).then2 Y5, o5⟩

theorem retI {ts : List AV} {h : H} {k j ag : Nat} {a : AA} {v w : AV} (LA : h.ldg a (some ag) = some v) (h1 : getL ts k = some (.ptr a)) (h2 : getL ts j = some w) : retV h ts [(k, some (some ag)), (j, none)] = some (.tup [v, w]) := by
  simp [retV, resOf, iop, ev, h1, h2, LA]

/-- An item as a value. -/
def itemV (a b : AV) : AV := .agg [a, b]

set_option maxHeartbeats 1000000 in
theorem item_run {h : H} {v : AV} {xs : List (AV × List UInt8)} (hc : Ch h v xs) (hlen : xs.length < 2 ^ 62) {t : Nat} (ht : t < 2 ^ 64) : ∃ r h', Runs TF 47 [entV t v] h r h' ∧ ∃ z w, r = .tup [itemV z w, .int .i64 (leafE xs)] ∧ Ext h h' ∧ Ow h.n h' z (leafX t xs) ∧ Ow h.n h' w (extraX xs) ∧ (∀ a n c a' n' c', z = .sl a n c → w = .sl a' n' c' → a.b ≠ a'.b) := by
  refine Runs.ofP f47 rfl ?_
  have hmx : 200000000000000 = maxRow := rfl
  obtain ⟨H1, X1, n1, enew, Ld⟩ := ent_new hc t
  obtain ⟨H2, hH2⟩ : ∃ H2, H2 = H1.new (.cells 0 78 [.nils, .nils] 0 false) := ⟨_, rfl⟩
  have X2 : Ext H1 H2 := by rw [hH2]; exact Ext.new _ _
  have g2 : H2.get H1.n = some (.cells 0 78 [.nils, .nils] 0 false) := by rw [hH2]; exact H1.get_new _
  have en2 : ∀ ts, iop (.new 78 (.c (.agg [.nils, .nils]))) (ev ts) H1 = some (.val (.ptr ⟨H1.n, 0, 0⟩) H2) := fun ts => by rw [hH2]; exact iop_new (by kernel_rfl) rfl
  have X12 := X1.trans X2
  have n2 : H1.n < H2.n := by rw [hH2]; simp
  obtain ⟨r3, H3, c3, z, rfl, X3, o3⟩ := leaf_run (hc.ext X12) hlen ht
  obtain ⟨r4, H4, c4, w, rfl, X4, o4⟩ := extra_run (hc.ext (X12.trans X3)) hlen ht
  have l2 := Ld H2 X2
  have l3 := Ld H3 (X2.trans X3)
  have m1 := X1.1
  have m3 := X3.1
  have m4 := X4.1
  by_cases hm : mayE xs = true
  · have eE : leafE xs = 0 := by rw [leafE, if_pos hm]
    rw [eE] at c3 c4 ⊢
    have g4 : H4.get H1.n = some (.cells 0 78 [.nils, .nils] 0 false) := by rw [X4.2 _ (by omega), X3.2 _ (by omega)]; exact g2
    have pz := o3.bs.parts
    have pw := o4.bs.parts
    obtain ⟨H5, hH5⟩ : ∃ H5, H5 = H4.set H1.n (.cells 0 78 [z, w] 0 false) := ⟨_, rfl⟩
    have st : H4.st ⟨H1.n, 0, 0⟩ [z, w] = some H5 := by
      unfold H.st
      simp only [g4]
      rw [if_pos (by simp [pz.2.1, pw.2.1]), hH5]
      rfl
    have g5 : H5.get H1.n = some (.cells 0 78 [z, w] 0 false) := by rw [hH5, H4.get_set]
    have eb : ∀ {x y : IX} {ρ : IX → AV}, ρ x = z → ρ y = w → iop (.build [.nils, .nils] [(0, 1, x), (1, 1, y)]) ρ H4 = some (.val (.agg [z, w]) H4) := by
      intro x y ρ hx hy
      simp [iop, fillL, hx, hy, pz.1, pw.1, putAt]
    have kp : ∀ b, b ≠ H1.n → H5.get b = H4.get b := fun b hb => by rw [hH5, H4.get_set_ne _ b _ hb]
    refine Wp.seq ?_
    refine Wp.region ?_
    refine Wo.val _ _ (by kernel_rfl) (enew (by kernel_rfl)) ?_
    refine Wo.val _ _ (by kernel_rfl) (en2 _) ?_
    refine Wo.pre 8 (by kernel_rfl) ?_
    refine Wo.nil ?_
    refine Wp.seq ?_
    refine Wp.region ?_
    refine Wo.val (entV t v) H2 (by kernel_rfl) (iop_ld (a := ⟨h.n, 0, 0⟩) (by kernel_rfl) l2.2.2) ?_
    refine Wo.call (by kernel_rfl) (by kernel_rfl) (c3) ?_
    refine Wo.pre 8 (by kernel_rfl) ?_
    refine Wo.nil ?_
    refine Wp.seq ?_
    refine Wp.seq ?_
    refine Wp.region ?_
    refine Wo.pre 8 (by kernel_rfl) ?_
    refine Wo.nil ?_
    refine Wp.cond false (by kernel_rfl) ?_
    refine Wp.skip ?_
    refine Wp.seq ?_
    refine Wp.region ?_
    refine Wo.val (entV t v) H3 (by kernel_rfl) (iop_ld (a := ⟨h.n, 0, 0⟩) (by kernel_rfl) l3.2.2) ?_
    refine Wo.call (by kernel_rfl) (by kernel_rfl) (c4) ?_
    refine Wo.pre 8 (by kernel_rfl) ?_
    refine Wo.nil ?_
    refine Wp.seq ?_
    refine Wp.seq ?_
    refine Wp.region ?_
    refine Wo.pre 8 (by kernel_rfl) ?_
    refine Wo.nil ?_
    refine Wp.cond false (by kernel_rfl) ?_
    refine Wp.skip ?_
    refine Wp.seq ?_
    refine Wp.region ?_
    refine Wo.pre 1 (by kernel_rfl) ?_
    refine Wo.pre 1 (by kernel_rfl) ?_
    refine Wo.val (.agg [z, w]) H4 (by kernel_rfl) (eb (by kernel_rfl) (by kernel_rfl)) ?_
    refine Wo.val .undef H5 (by kernel_rfl) (iop_stA (a := ⟨H1.n, 0, 0⟩) (cs := [z, w]) (by kernel_rfl) (by kernel_rfl) rfl st) ?_
    refine Wo.pre 8 (by kernel_rfl) ?_
    refine Wo.nil ?_
    refine Wp.ret ⟨.inr rfl, .tup [itemV z w, .int .i64 0], ?_, z, w, rfl, ⟨by rw [hH5]; show h.n ≤ H4.n; omega, fun b hb => ?_⟩, ?_, ?_, ?_⟩
    · have LA : H5.ldg ⟨H1.n, 0, 0⟩ (some 2) = some (itemV z w) := by simp [H.ldg, H.ldn, H.row, g5, cut, itemV]
      exact retI LA (by kernel_rfl) (by kernel_rfl)
    · rw [kp b (by omega), X4.2 b (by omega), X3.2 b (by omega)]; exact X12.2 b hb
    · rcases o3 with h0 | ⟨b, g, q1, q2, q3, q4⟩
      · exact .inl h0
      · exact .inr ⟨b, g, by omega, by rw [hH5]; show b < H4.n; omega, by rw [kp b (by omega), X4.2 b q2]; exact q3, q4⟩
    · rcases o4 with h0 | ⟨b, g, q1, q2, q3, q4⟩
      · exact .inl h0
      · exact .inr ⟨b, g, by omega, by rw [hH5]; exact q2, by rw [kp b (by omega)]; exact q3, q4⟩
    · intro a n c a' n' c' e1 e2
      have b1 := o3.blk e1
      have b2 := o4.blk e2
      omega
  · have eE : leafE xs = 1 := by rw [leafE, if_neg hm]
    rw [eE] at c3 ⊢
    have eX : leafX t xs = [] := by rw [leafX, if_neg hm]
    have eX' : extraX xs = [] := by rw [extraX, if_neg hm]
    have g3 : H3.get H1.n = some (.cells 0 78 [.nils, .nils] 0 false) := by rw [X3.2 _ (by omega)]; exact g2
    obtain ⟨H5, hH5⟩ : ∃ H5, H5 = H3.set H1.n (.cells 0 78 [.nils, .nils] 0 false) := ⟨_, rfl⟩
    have st : H3.st ⟨H1.n, 0, 0⟩ [.nils, .nils] = some H5 := by
      unfold H.st
      simp only [g3]
      rw [if_pos (by simp [AV.one]), hH5]
      rfl
    have g5 : H5.get H1.n = some (.cells 0 78 [.nils, .nils] 0 false) := by rw [hH5, H3.get_set]
    refine Wp.seq ?_
    refine Wp.region ?_
    refine Wo.val _ _ (by kernel_rfl) (enew (by kernel_rfl)) ?_
    refine Wo.val _ _ (by kernel_rfl) (en2 _) ?_
    refine Wo.pre 8 (by kernel_rfl) ?_
    refine Wo.nil ?_
    refine Wp.seq ?_
    refine Wp.region ?_
    refine Wo.val (entV t v) H2 (by kernel_rfl) (iop_ld (a := ⟨h.n, 0, 0⟩) (by kernel_rfl) l2.2.2) ?_
    refine Wo.call (by kernel_rfl) (by kernel_rfl) (c3) ?_
    refine Wo.pre 8 (by kernel_rfl) ?_
    refine Wo.nil ?_
    refine Wp.seq ?_
    refine Wp.seq ?_
    refine Wp.region ?_
    refine Wo.pre 8 (by kernel_rfl) ?_
    refine Wo.nil ?_
    refine Wp.cond true (by kernel_rfl) ?_
    refine Wp.seq ?_
    refine Wp.region ?_
    refine Wo.pre 1 (by kernel_rfl) ?_
    refine Wo.pre 1 (by kernel_rfl) ?_
    refine Wo.val .undef H5 (by kernel_rfl) (iop_stA (a := ⟨H1.n, 0, 0⟩) (cs := [.nils, .nils]) (by kernel_rfl) (by kernel_rfl) rfl st) ?_
    refine Wo.pre 8 (by kernel_rfl) ?_
    refine Wo.nil ?_
    refine Wp.ret ⟨.inr rfl, .tup [itemV .nils .nils, .int .i64 1], ?_, .nils, .nils, rfl, ⟨by rw [hH5]; show h.n ≤ H3.n; omega, fun b hb => ?_⟩, by rw [eX]; exact .inl ⟨rfl, rfl⟩, by rw [eX']; exact .inl ⟨rfl, rfl⟩, fun a n c a' n' c' e1 _ => by simp at e1⟩
    · have LA : H5.ldg ⟨H1.n, 0, 0⟩ (some 2) = some (itemV .nils .nils) := by simp [H.ldg, H.ldn, H.row, g5, cut, itemV]
      exact retI LA (by kernel_rfl) (by kernel_rfl)
    · rw [hH5, H3.get_set_ne _ b _ (by omega), X3.2 b (by omega)]; exact X12.2 b hb

set_option maxHeartbeats 1000000 in
theorem ritem_run {h : H} {v : AV} {xs : List (AV × List UInt8)} (hc : Ch h v xs) (hlen : xs.length < 2 ^ 62) {t : Nat} (ht : t < 2 ^ 64) : ∃ r h', Runs TF 48 [entV t v] h r h' ∧ ∃ z w, r = .tup [itemV z w, .int .i64 (leafE xs)] ∧ Ext h h' ∧ Ow h.n h' z (leafX t xs) ∧ Ow h.n h' w (extraX xs) ∧ (∀ a n c a' n' c', z = .sl a n c → w = .sl a' n' c' → a.b ≠ a'.b) := by
  refine Runs.ofP f48 rfl ?_
  have hmx : 200000000000000 = maxRow := rfl
  obtain ⟨H1, X1, n1, enew, Ld⟩ := ent_new hc t
  obtain ⟨H2, hH2⟩ : ∃ H2, H2 = H1.new (.cells 0 78 [.nils, .nils] 0 false) := ⟨_, rfl⟩
  have X2 : Ext H1 H2 := by rw [hH2]; exact Ext.new _ _
  have g2 : H2.get H1.n = some (.cells 0 78 [.nils, .nils] 0 false) := by rw [hH2]; exact H1.get_new _
  have en2 : ∀ ts, iop (.new 78 (.c (.agg [.nils, .nils]))) (ev ts) H1 = some (.val (.ptr ⟨H1.n, 0, 0⟩) H2) := fun ts => by rw [hH2]; exact iop_new (by kernel_rfl) rfl
  have X12 := X1.trans X2
  have n2 : H1.n < H2.n := by rw [hH2]; simp
  obtain ⟨r3, H3, c3, z, rfl, X3, o3⟩ := rleaf_run (hc.ext X12) hlen ht
  obtain ⟨r4, H4, c4, w, rfl, X4, o4⟩ := rextra_run (hc.ext (X12.trans X3)) hlen ht
  have l2 := Ld H2 X2
  have l3 := Ld H3 (X2.trans X3)
  have m1 := X1.1
  have m3 := X3.1
  have m4 := X4.1
  by_cases hm : mayE xs = true
  · have eE : leafE xs = 0 := by rw [leafE, if_pos hm]
    rw [eE] at c3 c4 ⊢
    have g4 : H4.get H1.n = some (.cells 0 78 [.nils, .nils] 0 false) := by rw [X4.2 _ (by omega), X3.2 _ (by omega)]; exact g2
    have pz := o3.bs.parts
    have pw := o4.bs.parts
    obtain ⟨H5, hH5⟩ : ∃ H5, H5 = H4.set H1.n (.cells 0 78 [z, w] 0 false) := ⟨_, rfl⟩
    have st : H4.st ⟨H1.n, 0, 0⟩ [z, w] = some H5 := by
      unfold H.st
      simp only [g4]
      rw [if_pos (by simp [pz.2.1, pw.2.1]), hH5]
      rfl
    have g5 : H5.get H1.n = some (.cells 0 78 [z, w] 0 false) := by rw [hH5, H4.get_set]
    have eb : ∀ {x y : IX} {ρ : IX → AV}, ρ x = z → ρ y = w → iop (.build [.nils, .nils] [(0, 1, x), (1, 1, y)]) ρ H4 = some (.val (.agg [z, w]) H4) := by
      intro x y ρ hx hy
      simp [iop, fillL, hx, hy, pz.1, pw.1, putAt]
    have kp : ∀ b, b ≠ H1.n → H5.get b = H4.get b := fun b hb => by rw [hH5, H4.get_set_ne _ b _ hb]
    refine Wp.seq ?_
    refine Wp.region ?_
    refine Wo.val _ _ (by kernel_rfl) (enew (by kernel_rfl)) ?_
    refine Wo.val _ _ (by kernel_rfl) (en2 _) ?_
    refine Wo.pre 8 (by kernel_rfl) ?_
    refine Wo.nil ?_
    refine Wp.seq ?_
    refine Wp.region ?_
    refine Wo.val (entV t v) H2 (by kernel_rfl) (iop_ld (a := ⟨h.n, 0, 0⟩) (by kernel_rfl) l2.2.2) ?_
    refine Wo.call (by kernel_rfl) (by kernel_rfl) (c3) ?_
    refine Wo.pre 8 (by kernel_rfl) ?_
    refine Wo.nil ?_
    refine Wp.seq ?_
    refine Wp.seq ?_
    refine Wp.region ?_
    refine Wo.pre 8 (by kernel_rfl) ?_
    refine Wo.nil ?_
    refine Wp.cond false (by kernel_rfl) ?_
    refine Wp.skip ?_
    refine Wp.seq ?_
    refine Wp.region ?_
    refine Wo.val (entV t v) H3 (by kernel_rfl) (iop_ld (a := ⟨h.n, 0, 0⟩) (by kernel_rfl) l3.2.2) ?_
    refine Wo.call (by kernel_rfl) (by kernel_rfl) (c4) ?_
    refine Wo.pre 8 (by kernel_rfl) ?_
    refine Wo.nil ?_
    refine Wp.seq ?_
    refine Wp.region ?_
    refine Wo.pre 1 (by kernel_rfl) ?_
    refine Wo.pre 1 (by kernel_rfl) ?_
    refine Wo.val (.agg [z, w]) H4 (by kernel_rfl) (eb (by kernel_rfl) (by kernel_rfl)) ?_
    refine Wo.val .undef H5 (by kernel_rfl) (iop_stA (a := ⟨H1.n, 0, 0⟩) (cs := [z, w]) (by kernel_rfl) (by kernel_rfl) rfl st) ?_
    refine Wo.pre 8 (by kernel_rfl) ?_
    refine Wo.nil ?_
    refine Wp.ret ⟨.inr rfl, .tup [itemV z w, .int .i64 0], ?_, z, w, rfl, ⟨by rw [hH5]; show h.n ≤ H4.n; omega, fun b hb => ?_⟩, ?_, ?_, ?_⟩
    · have LA : H5.ldg ⟨H1.n, 0, 0⟩ (some 2) = some (itemV z w) := by simp [H.ldg, H.ldn, H.row, g5, cut, itemV]
      exact retI LA (by kernel_rfl) (by kernel_rfl)
    · rw [kp b (by omega), X4.2 b (by omega), X3.2 b (by omega)]; exact X12.2 b hb
    · rcases o3 with h0 | ⟨b, g, q1, q2, q3, q4⟩
      · exact .inl h0
      · exact .inr ⟨b, g, by omega, by rw [hH5]; show b < H4.n; omega, by rw [kp b (by omega), X4.2 b q2]; exact q3, q4⟩
    · rcases o4 with h0 | ⟨b, g, q1, q2, q3, q4⟩
      · exact .inl h0
      · exact .inr ⟨b, g, by omega, by rw [hH5]; exact q2, by rw [kp b (by omega)]; exact q3, q4⟩
    · intro a n c a' n' c' e1 e2
      have b1 := o3.blk e1
      have b2 := o4.blk e2
      omega
  · have eE : leafE xs = 1 := by rw [leafE, if_neg hm]
    rw [eE] at c3 ⊢
    have eX : leafX t xs = [] := by rw [leafX, if_neg hm]
    have eX' : extraX xs = [] := by rw [extraX, if_neg hm]
    have g3 : H3.get H1.n = some (.cells 0 78 [.nils, .nils] 0 false) := by rw [X3.2 _ (by omega)]; exact g2
    obtain ⟨H5, hH5⟩ : ∃ H5, H5 = H3.set H1.n (.cells 0 78 [.nils, .nils] 0 false) := ⟨_, rfl⟩
    have st : H3.st ⟨H1.n, 0, 0⟩ [.nils, .nils] = some H5 := by
      unfold H.st
      simp only [g3]
      rw [if_pos (by simp [AV.one]), hH5]
      rfl
    have g5 : H5.get H1.n = some (.cells 0 78 [.nils, .nils] 0 false) := by rw [hH5, H3.get_set]
    refine Wp.seq ?_
    refine Wp.region ?_
    refine Wo.val _ _ (by kernel_rfl) (enew (by kernel_rfl)) ?_
    refine Wo.val _ _ (by kernel_rfl) (en2 _) ?_
    refine Wo.pre 8 (by kernel_rfl) ?_
    refine Wo.nil ?_
    refine Wp.seq ?_
    refine Wp.region ?_
    refine Wo.val (entV t v) H2 (by kernel_rfl) (iop_ld (a := ⟨h.n, 0, 0⟩) (by kernel_rfl) l2.2.2) ?_
    refine Wo.call (by kernel_rfl) (by kernel_rfl) (c3) ?_
    refine Wo.pre 8 (by kernel_rfl) ?_
    refine Wo.nil ?_
    refine Wp.seq ?_
    refine Wp.seq ?_
    refine Wp.region ?_
    refine Wo.pre 8 (by kernel_rfl) ?_
    refine Wo.nil ?_
    refine Wp.cond true (by kernel_rfl) ?_
    refine Wp.seq ?_
    refine Wp.region ?_
    refine Wo.pre 1 (by kernel_rfl) ?_
    refine Wo.pre 1 (by kernel_rfl) ?_
    refine Wo.val .undef H5 (by kernel_rfl) (iop_stA (a := ⟨H1.n, 0, 0⟩) (cs := [.nils, .nils]) (by kernel_rfl) (by kernel_rfl) rfl st) ?_
    refine Wo.pre 8 (by kernel_rfl) ?_
    refine Wo.nil ?_
    refine Wp.ret ⟨.inr rfl, .tup [itemV .nils .nils, .int .i64 1], ?_, .nils, .nils, rfl, ⟨by rw [hH5]; show h.n ≤ H3.n; omega, fun b hb => ?_⟩, by rw [eX]; exact .inl ⟨rfl, rfl⟩, by rw [eX']; exact .inl ⟨rfl, rfl⟩, fun a n c a' n' c' e1 _ => by simp at e1⟩
    · have LA : H5.ldg ⟨H1.n, 0, 0⟩ (some 2) = some (itemV .nils .nils) := by simp [H.ldg, H.ldn, H.row, g5, cut, itemV]
      exact retI LA (by kernel_rfl) (by kernel_rfl)
    · rw [hH5, H3.get_set_ne _ b _ (by omega), X3.2 b (by omega)]; exact X12.2 b hb
end Go.Det
