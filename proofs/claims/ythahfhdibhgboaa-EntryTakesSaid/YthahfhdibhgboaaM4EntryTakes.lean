/- Texts of the proof, one behind the other (Ent4, SameE, SameF, SpoilE, Own, SpoilR, Makes, CertL, Certs, TakeRec, ItemL, Fr). -/
import Derived.Test.YthahfhdibhgboaaM3EntryTakes
/- Entries: what stands beside, records, items. -/
set_option linter.unusedVariables false
set_option linter.unusedSimpArgs false
set_option linter.unusedSectionVars false
namespace Go.Det
open Go.Proofs
attribute [local irreducible] Wp Wo Wd iop ev slots quiets wanted put

/-- A chain without its first. -/
theorem Ch.rest {h : H} {v : AV} {xs : List (AV × List UInt8)} (hc : Ch h v xs) (h1 : 1 ≤ xs.length) :
    ∃ v', (∀ (x y : IX) (ρ : IX → AV), ρ x = v → ρ y = .int .i64 1 → iop (.slL 1 x (some y) none none) ρ h = some (.val v' h)) ∧ Ch h v' (xs.drop 1) := by
  rcases hc.row with ⟨_, rfl⟩ | ⟨a, c, rfl, ha, hld⟩
  · simp at h1
  · have hel : ∀ p ∈ xs.drop 1, Bs h p.1 p.2 ∧ Cok p.1 := fun p hp => hc.el p (List.mem_of_mem_drop hp)
    have hd := ldn_drop hld (n := 1) h1
    have hm : (xs.map (·.1)).drop 1 = (xs.drop 1).map (·.1) := by rw [List.map_drop]
    rw [hm] at hd
    have hl : (xs.drop 1).length = xs.length - 1 := by simp
    have q1 : (1 : Int) ≤ (xs.length : Int) := by omega
    rcases hc.cok a _ c rfl with ⟨k, rfl, hk⟩ | rfl
    · have q2 : (xs.length : Int) ≤ (k : Int) := by omega
      by_cases hk1 : k = 1
      · have hx1 : xs.length = 1 := by omega
        have hnil : xs.drop 1 = [] := List.eq_nil_of_length_eq_zero (by omega)
        refine ⟨.sl a (xs.length - 1) (.ex (k - 1)), ?_, ?_⟩
        · intro x y ρ hx hy
          simp [iop, hx, hy, bounds, asI, q1, q2, hk1]
        · rw [hnil]
          refine ⟨.inr ⟨a, .ex (k - 1), by simp [hx1], ha, ?_⟩, fun p hp => by simp at hp, ?_⟩
          · exact ldn_take hld (n := 0) (by omega)
          · rintro a' m c' e
            simp only [AV.sl.injEq] at e
            obtain ⟨rfl, rfl, rfl⟩ := e
            exact .inl ⟨_, rfl, by omega⟩
      · refine ⟨.sl ⟨a.b, a.g, a.o + 1⟩ (xs.length - 1) (.ex (k - 1)), ?_, ⟨.inr ⟨⟨a.b, a.g, a.o + 1⟩, _, by rw [hl], ha, by rw [hl]; exact hd⟩, hel, ?_⟩⟩
        · intro x y ρ hx hy
          simp [iop, hx, hy, bounds, asI, q1, q2, hk1]
        · rintro a' m c' e
          simp only [AV.sl.injEq] at e
          obtain ⟨rfl, rfl, rfl⟩ := e
          exact .inl ⟨_, rfl, by omega⟩
    · refine ⟨.sl ⟨a.b, a.g, a.o + 1⟩ (xs.length - 1) (.op 1), ?_, ⟨.inr ⟨⟨a.b, a.g, a.o + 1⟩, _, by rw [hl], ha, by rw [hl]; exact hd⟩, hel, ?_⟩⟩
      · intro x y ρ hx hy
        simp [iop, hx, hy, bounds, asI, q1]
      · rintro a' m c' e
        simp only [AV.sl.injEq] at e
        obtain ⟨rfl, rfl, rfl⟩ := e
        exact .inr rfl

theorem mayE_small {xs : List (AV × List UInt8)} (hm : mayE xs = true) : Small xs ∧ 1 ≤ xs.length := by
  unfold mayE at hm
  simp only [Bool.and_eq_true, decide_eq_true_eq, List.all_eq_true] at hm
  obtain ⟨⟨h1, h4⟩, h2⟩ := hm
  refine ⟨⟨h4, fun p hp => ?_⟩, h1⟩
  have := h2 p hp
  simp only [mayC, decide_eq_true_eq] at this
  exact this.2

def extraX (xs : List (AV × List UInt8)) : List UInt8 := if mayE xs = true then listB (xs.drop 1) else []
def recX (t : Nat) (xs : List (AV × List UInt8)) : List UInt8 := if mayE xs = true then digits t 8 8 ++ listB xs else []

set_option maxHeartbeats 1000000 in
theorem extra_run {h : H} {v : AV} {xs : List (AV × List UInt8)} (hc : Ch h v xs) (hlen : xs.length < 2 ^ 62) {t : Nat} (ht : t < 2 ^ 64) : ∃ r h', Runs TF 42 [entV t v] h r h' ∧ ∃ z, r = .tup [z, .int .i64 (leafE xs)] ∧ Ext h h' ∧ Ow h.n h' z (extraX xs) := by
  refine Runs.ofP f42 rfl ?_
  have hmx : 200000000000000 = maxRow := rfl
  obtain ⟨H1, X1, n1, enew, Ld⟩ := ent_new hc t
  obtain ⟨r2, H2, c2, rfl, X2⟩ := may_run (hc.ext X1) hlen t
  have l1 := Ld H1 (Ext.refl _)
  have l2 := Ld H2 X2
  by_cases hm : mayE xs = true
  rotate_left
  · have hm : mayE xs = false := by simpa using hm
    rw [hm] at c2
    have e1 : leafE xs = 1 := by rw [leafE, hm]; rfl
    have e2 : extraX xs = [] := by simp [extraX, recX, hm]
    refine Wp.seq ?_
    refine Wp.region ?_
    refine Wo.val _ _ (by kernel_rfl) (enew (by kernel_rfl)) ?_
    refine Wo.pre 8 (by kernel_rfl) ?_
    refine Wo.nil ?_
    refine Wp.seq ?_
    refine Wp.seq ?_
    refine Wp.region ?_
    refine Wo.val (entV t v) H1 (by kernel_rfl) (iop_ld (a := ⟨h.n, 0, 0⟩) (by kernel_rfl) l1.2.2) ?_
    refine Wo.call (by kernel_rfl) (by kernel_rfl) (c2) ?_
    refine Wo.pre 8 (by kernel_rfl) ?_
    refine Wo.nil ?_
    refine Wp.cond true (by kernel_rfl) ?_
    refine Wp.seq ?_
    refine Wp.region ?_
    refine Wo.pre 8 (by kernel_rfl) ?_
    refine Wo.nil ?_
    refine Wp.ret ⟨.inr rfl, .tup [.nils, .int .i64 1], (by kernel_rfl), .nils, by rw [e1], X1.trans X2, by rw [e2]; exact .inl ⟨rfl, rfl⟩⟩
  rw [hm] at c2
  have eE : leafE xs = 0 := by rw [leafE, hm]; rfl
  obtain ⟨hs, hx1⟩ := mayE_small hm
  have X12 := X1.trans X2
  rw [eE]
  have eX : extraX xs = listB (xs.drop 1) := by rw [extraX, if_pos hm]
  rw [eX]
  obtain ⟨v', s1, s2⟩ := (hc.ext X12).rest hx1
  have hs' : Small (xs.drop 1) := ⟨by have := hs.1; simp; omega, fun p hp => hs.2 p (List.mem_of_mem_drop hp)⟩
  obtain ⟨z, H3, c3, X3, o3⟩ := list_run s2 hs'
  refine Wp.seq ?_
  refine Wp.region ?_
  refine Wo.val _ _ (by kernel_rfl) (enew (by kernel_rfl)) ?_
  refine Wo.pre 8 (by kernel_rfl) ?_
  refine Wo.nil ?_
  refine Wp.seq ?_
  refine Wp.seq ?_
  refine Wp.region ?_
  refine Wo.val (entV t v) H1 (by kernel_rfl) (iop_ld (a := ⟨h.n, 0, 0⟩) (by kernel_rfl) l1.2.2) ?_
  refine Wo.call (by kernel_rfl) (by kernel_rfl) (c2) ?_
  refine Wo.pre 8 (by kernel_rfl) ?_
  refine Wo.nil ?_
  refine Wp.cond false (by kernel_rfl) ?_
  refine Wp.skip ?_
  refine Wp.seq ?_
  refine Wp.region ?_
  refine Wo.pre 1 (by kernel_rfl) ?_
  refine Wo.val v H2 (by kernel_rfl) (iop_ld (a := ⟨h.n, 0, 1⟩) (by kernel_rfl) l2.2.1) ?_
  refine Wo.val v' H2 (by kernel_rfl) (s1 _ _ _ (by kernel_rfl) (by kernel_rfl)) ?_
  refine Wo.call (by kernel_rfl) (by kernel_rfl) (c3) ?_
  refine Wo.pre 8 (by kernel_rfl) ?_
  refine Wo.nil ?_
  exact Wp.ret ⟨.inr rfl, .tup [z, .int .i64 0], (by kernel_rfl), z, rfl, X12.trans X3, o3.mono X12.1⟩

set_option maxHeartbeats 1000000 in
theorem rextra_run {h : H} {v : AV} {xs : List (AV × List UInt8)} (hc : Ch h v xs) (hlen : xs.length < 2 ^ 62) {t : Nat} (ht : t < 2 ^ 64) : ∃ r h', Runs TF 43 [entV t v] h r h' ∧ ∃ z, r = .tup [z, .int .i64 (leafE xs)] ∧ Ext h h' ∧ Ow h.n h' z (extraX xs) := by
  refine Runs.ofP f43 rfl ?_
  have hmx : 200000000000000 = maxRow := rfl
  obtain ⟨H1, X1, n1, enew, Ld⟩ := ent_new hc t
  obtain ⟨r2, H2, c2, rfl, X2⟩ := rmay_run (hc.ext X1) hlen t
  have l1 := Ld H1 (Ext.refl _)
  have l2 := Ld H2 X2
  by_cases hm : mayE xs = true
  rotate_left
  · have hm : mayE xs = false := by simpa using hm
    rw [hm] at c2
    have e1 : leafE xs = 1 := by rw [leafE, hm]; rfl
    have e2 : extraX xs = [] := by simp [extraX, recX, hm]
    refine Wp.seq ?_
    refine Wp.region ?_
    refine Wo.val _ _ (by kernel_rfl) (enew (by kernel_rfl)) ?_
    refine Wo.pre 8 (by kernel_rfl) ?_
    refine Wo.nil ?_
    refine Wp.seq ?_
    refine Wp.seq ?_
    refine Wp.region ?_
    refine Wo.val (entV t v) H1 (by kernel_rfl) (iop_ld (a := ⟨h.n, 0, 0⟩) (by kernel_rfl) l1.2.2) ?_
    refine Wo.call (by kernel_rfl) (by kernel_rfl) (c2) ?_
    refine Wo.pre 8 (by kernel_rfl) ?_
    refine Wo.nil ?_
    refine Wp.cond true (by kernel_rfl) ?_
    refine Wp.seq ?_
    refine Wp.region ?_
    refine Wo.pre 8 (by kernel_rfl) ?_
    refine Wo.nil ?_
    refine Wp.ret ⟨.inr rfl, .tup [.nils, .int .i64 1], (by kernel_rfl), .nils, by rw [e1], X1.trans X2, by rw [e2]; exact .inl ⟨rfl, rfl⟩⟩
  rw [hm] at c2
  have eE : leafE xs = 0 := by rw [leafE, hm]; rfl
  obtain ⟨hs, hx1⟩ := mayE_small hm
  have X12 := X1.trans X2
  rw [eE]
  have eX : extraX xs = listB (xs.drop 1) := by rw [extraX, if_pos hm]
  rw [eX]
  obtain ⟨v', s1, s2⟩ := (hc.ext X12).rest hx1
  have hs' : Small (xs.drop 1) := ⟨by have := hs.1; simp; omega, fun p hp => hs.2 p (List.mem_of_mem_drop hp)⟩
  obtain ⟨z, H3, c3, X3, o3⟩ := rlist_run s2 hs'
  refine Wp.seq ?_
  refine Wp.region ?_
  refine Wo.val _ _ (by kernel_rfl) (enew (by kernel_rfl)) ?_
  refine Wo.pre 8 (by kernel_rfl) ?_
  refine Wo.nil ?_
  refine Wp.seq ?_
  refine Wp.seq ?_
  refine Wp.region ?_
  refine Wo.val (entV t v) H1 (by kernel_rfl) (iop_ld (a := ⟨h.n, 0, 0⟩) (by kernel_rfl) l1.2.2) ?_
  refine Wo.call (by kernel_rfl) (by kernel_rfl) (c2) ?_
  refine Wo.pre 8 (by kernel_rfl) ?_
  refine Wo.nil ?_
  refine Wp.cond false (by kernel_rfl) ?_
  refine Wp.skip ?_
  refine Wp.seq ?_
  refine Wp.region ?_
  refine Wo.pre 1 (by kernel_rfl) ?_
  refine Wo.val v H2 (by kernel_rfl) (iop_ld (a := ⟨h.n, 0, 1⟩) (by kernel_rfl) l2.2.1) ?_
  refine Wo.val v' H2 (by kernel_rfl) (s1 _ _ _ (by kernel_rfl) (by kernel_rfl)) ?_
  refine Wo.call (by kernel_rfl) (by kernel_rfl) (c3) ?_
  refine Wo.pre 8 (by kernel_rfl) ?_
  refine Wo.nil ?_
  exact Wp.ret ⟨.inr rfl, .tup [z, .int .i64 0], (by kernel_rfl), z, rfl, X12.trans X3, o3.mono X12.1⟩

set_option maxHeartbeats 1000000 in
theorem record_run {h : H} {v : AV} {xs : List (AV × List UInt8)} (hc : Ch h v xs) (hlen : xs.length < 2 ^ 62) {t : Nat} (ht : t < 2 ^ 64) : ∃ r h', Runs TF 44 [entV t v] h r h' ∧ ∃ z, r = .tup [z, .int .i64 (leafE xs)] ∧ Ext h h' ∧ Ow h.n h' z (recX t xs) := by
  refine Runs.ofP f44 rfl ?_
  have hmx : 200000000000000 = maxRow := rfl
  obtain ⟨H1, X1, n1, enew, Ld⟩ := ent_new hc t
  obtain ⟨r2, H2, c2, rfl, X2⟩ := may_run (hc.ext X1) hlen t
  have l1 := Ld H1 (Ext.refl _)
  have l2 := Ld H2 X2
  by_cases hm : mayE xs = true
  rotate_left
  · have hm : mayE xs = false := by simpa using hm
    rw [hm] at c2
    have e1 : leafE xs = 1 := by rw [leafE, hm]; rfl
    have e2 : recX t xs = [] := by simp [extraX, recX, hm]
    refine Wp.seq ?_
    refine Wp.region ?_
    refine Wo.val _ _ (by kernel_rfl) (enew (by kernel_rfl)) ?_
    refine Wo.pre 8 (by kernel_rfl) ?_
    refine Wo.nil ?_
    refine Wp.seq ?_
    refine Wp.seq ?_
    refine Wp.region ?_
    refine Wo.val (entV t v) H1 (by kernel_rfl) (iop_ld (a := ⟨h.n, 0, 0⟩) (by kernel_rfl) l1.2.2) ?_
    refine Wo.call (by kernel_rfl) (by kernel_rfl) (c2) ?_
    refine Wo.pre 8 (by kernel_rfl) ?_
    refine Wo.nil ?_
    refine Wp.cond true (by kernel_rfl) ?_
    refine Wp.seq ?_
    refine Wp.region ?_
    refine Wo.pre 8 (by kernel_rfl) ?_
    refine Wo.nil ?_
    refine Wp.ret ⟨.inr rfl, .tup [.nils, .int .i64 1], (by kernel_rfl), .nils, by rw [e1], X1.trans X2, by rw [e2]; exact .inl ⟨rfl, rfl⟩⟩
  rw [hm] at c2
  have eE : leafE xs = 0 := by rw [leafE, hm]; rfl
  obtain ⟨hs, hx1⟩ := mayE_small hm
  have X12 := X1.trans X2
  rw [eE]
  have eX : recX t xs = digits t 8 (8 : Int).toNat ++ listB xs := by rw [recX, if_pos hm]; rfl
  rw [eX]
  obtain ⟨y, H3, c3, X3, o3⟩ := number_run (h := H2) (b := .nils) (l := []) (.inl ⟨rfl, rfl⟩) (by decide) ht 8
  rw [if_pos (numE_8 ht), List.nil_append] at o3
  obtain ⟨z, H4, c4, X4, o4⟩ := list_run (hc.ext (X12.trans X3)) hs
  have hil := inner_len xs hs.2
  have h4 := hs.1
  have hlb : (listB xs).length ≤ 3000 := by
    unfold listB
    rw [List.length_append, digits_len]; omega
  have m3 := X3.1
  have m4 := X4.1
  have m12 := X12.1
  obtain ⟨w, H5, a5, o5, Y5, _⟩ := ((o3.mono m12).ext X4).app o4.bs (by omega) (by simp [digits_len]; omega)
  have l3 := Ld H3 (X2.trans X3)
  refine Wp.seq ?_
  refine Wp.region ?_
  refine Wo.val _ _ (by kernel_rfl) (enew (by kernel_rfl)) ?_
  refine Wo.pre 8 (by kernel_rfl) ?_
  refine Wo.nil ?_
  refine Wp.seq ?_
  refine Wp.seq ?_
  refine Wp.region ?_
  refine Wo.val (entV t v) H1 (by kernel_rfl) (iop_ld (a := ⟨h.n, 0, 0⟩) (by kernel_rfl) l1.2.2) ?_
  refine Wo.call (by kernel_rfl) (by kernel_rfl) (c2) ?_
  refine Wo.pre 8 (by kernel_rfl) ?_
  refine Wo.nil ?_
  refine Wp.cond false (by kernel_rfl) ?_
  refine Wp.skip ?_
  refine Wp.seq ?_
  refine Wp.draw ?_
  refine Wd.pure (by kernel_rfl) (by kernel_rfl) ?_
  refine Wd.read (.int .u64 t) (.ld none (.c (.ptr ⟨h.n, 0, 0⟩))) (by kernel_rfl) (by kernel_rfl) (iop_ld (a := ⟨h.n, 0, 0⟩) (by kernel_rfl) l2.1) ?_
  refine Wd.pure (by kernel_rfl) (by kernel_rfl) ?_
  refine Wd.read v (.ld none (.c (.ptr ⟨h.n, 0, 1⟩))) (by kernel_rfl) (by kernel_rfl) (iop_ld (a := ⟨h.n, 0, 1⟩) (by kernel_rfl) l2.2.1) ?_
  refine Wd.call (by kernel_rfl) (by kernel_rfl) c3 (holds_of [(.ld none (.c (.ptr ⟨h.n, 0, 1⟩)), v, 4), (.ld none (.c (.ptr ⟨h.n, 0, 0⟩)), .int .u64 t, 1)] (by kernel_rfl) (holds_and (rd_ld l2.2.1) (holds_and (rd_ld l2.1) rfl))) ?_
  refine Wd.call (by kernel_rfl) (by kernel_rfl) c4 (holds_of [(.ld none (.c (.ptr ⟨h.n, 0, 1⟩)), v, 4)] (by kernel_rfl) (holds_and (rd_ld l3.2.1) rfl)) ?_
  refine Wd.act w H5 (by kernel_rfl) (iop_app (v := y) (w := z) (by kernel_rfl) (by kernel_rfl) o4.bs.parts.2.2 a5) (holds_of [] (by kernel_rfl) rfl) ?_
  refine Wd.pure (by kernel_rfl) (by kernel_rfl) ?_
  refine Wd.pure (by kernel_rfl) (by kernel_rfl) ?_
  refine Wd.done (holds_of [] (by kernel_rfl) rfl) ?_
  exact Wp.ret ⟨.inr rfl, .tup [w, .int .i64 0], (by kernel_rfl), w, rfl, ((X12.trans X3).trans X4).then2 Y5, o5⟩

set_option maxHeartbeats 1000000 in
theorem rrecord_run {h : H} {v : AV} {xs : List (AV × List UInt8)} (hc : Ch h v xs) (hlen : xs.length < 2 ^ 62) {t : Nat} (ht : t < 2 ^ 64) : ∃ r h', Runs TF 45 [entV t v] h r h' ∧ ∃ z, r = .tup [z, .int .i64 (leafE xs)] ∧ Ext h h' ∧ Ow h.n h' z (recX t xs) := by
  refine Runs.ofP f45 rfl ?_
  have hmx : 200000000000000 = maxRow := rfl
  obtain ⟨H1, X1, n1, enew, Ld⟩ := ent_new hc t
  obtain ⟨r2, H2, c2, rfl, X2⟩ := rmay_run (hc.ext X1) hlen t
  have l1 := Ld H1 (Ext.refl _)
  have l2 := Ld H2 X2
  by_cases hm : mayE xs = true
  rotate_left
  · have hm : mayE xs = false := by simpa using hm
    rw [hm] at c2
    have e1 : leafE xs = 1 := by rw [leafE, hm]; rfl
    have e2 : recX t xs = [] := by simp [extraX, recX, hm]
    refine Wp.seq ?_
    refine Wp.region ?_
    refine Wo.val _ _ (by kernel_rfl) (enew (by kernel_rfl)) ?_
    refine Wo.pre 8 (by kernel_rfl) ?_
    refine Wo.nil ?_
    refine Wp.seq ?_
    refine Wp.seq ?_
    refine Wp.region ?_
    refine Wo.val (entV t v) H1 (by kernel_rfl) (iop_ld (a := ⟨h.n, 0, 0⟩) (by kernel_rfl) l1.2.2) ?_
    refine Wo.call (by kernel_rfl) (by kernel_rfl) (c2) ?_
    refine Wo.pre 8 (by kernel_rfl) ?_
    refine Wo.nil ?_
    refine Wp.cond true (by kernel_rfl) ?_
    refine Wp.seq ?_
    refine Wp.region ?_
    refine Wo.pre 8 (by kernel_rfl) ?_
    refine Wo.nil ?_
    refine Wp.ret ⟨.inr rfl, .tup [.nils, .int .i64 1], (by kernel_rfl), .nils, by rw [e1], X1.trans X2, by rw [e2]; exact .inl ⟨rfl, rfl⟩⟩
  rw [hm] at c2
  have eE : leafE xs = 0 := by rw [leafE, hm]; rfl
  obtain ⟨hs, hx1⟩ := mayE_small hm
  have X12 := X1.trans X2
  rw [eE]
  have eX : recX t xs = digits t 8 (8 : Int).toNat ++ listB xs := by rw [recX, if_pos hm]; rfl
  rw [eX]
  obtain ⟨y, H3, c3, X3, o3⟩ := rnumq_run (h := H2) ht 8
  rw [if_pos (numE_8 ht)] at o3
  obtain ⟨z, H4, c4, X4, o4⟩ := rlist_run (hc.ext (X12.trans X3)) hs
  have hil := inner_len xs hs.2
  have h4 := hs.1
  have hlb : (listB xs).length ≤ 3000 := by
    unfold listB
    rw [List.length_append, digits_len]; omega
  have m3 := X3.1
  have m4 := X4.1
  have m12 := X12.1
  obtain ⟨w, H5, a5, o5, Y5, _⟩ := ((o3.mono m12).ext X4).app o4.bs (by omega) (by simp [digits_len]; omega)
  have l3 := Ld H3 (X2.trans X3)
  refine Wp.seq ?_
  refine Wp.region ?_
  refine Wo.val _ _ (by kernel_rfl) (enew (by kernel_rfl)) ?_
  refine Wo.pre 8 (by kernel_rfl) ?_
  refine Wo.nil ?_
  refine Wp.seq ?_
  refine Wp.seq ?_
  refine Wp.region ?_
  refine Wo.val (entV t v) H1 (by kernel_rfl) (iop_ld (a := ⟨h.n, 0, 0⟩) (by kernel_rfl) l1.2.2) ?_
  refine Wo.call (by kernel_rfl) (by kernel_rfl) (c2) ?_
  refine Wo.pre 8 (by kernel_rfl) ?_
  refine Wo.nil ?_
  refine Wp.cond false (by kernel_rfl) ?_
  refine Wp.skip ?_
  refine Wp.seq ?_
  refine Wp.draw ?_
  refine Wd.pure (by kernel_rfl) (by kernel_rfl) ?_
  refine Wd.read (.int .u64 t) (.ld none (.c (.ptr ⟨h.n, 0, 0⟩))) (by kernel_rfl) (by kernel_rfl) (iop_ld (a := ⟨h.n, 0, 0⟩) (by kernel_rfl) l2.1) ?_
  refine Wd.pure (by kernel_rfl) (by kernel_rfl) ?_
  refine Wd.read v (.ld none (.c (.ptr ⟨h.n, 0, 1⟩))) (by kernel_rfl) (by kernel_rfl) (iop_ld (a := ⟨h.n, 0, 1⟩) (by kernel_rfl) l2.2.1) ?_
  refine Wd.call (by kernel_rfl) (by kernel_rfl) c3 (holds_of [(.ld none (.c (.ptr ⟨h.n, 0, 1⟩)), v, 4), (.ld none (.c (.ptr ⟨h.n, 0, 0⟩)), .int .u64 t, 1)] (by kernel_rfl) (holds_and (rd_ld l2.2.1) (holds_and (rd_ld l2.1) rfl))) ?_
  refine Wd.call (by kernel_rfl) (by kernel_rfl) c4 (holds_of [(.ld none (.c (.ptr ⟨h.n, 0, 1⟩)), v, 4)] (by kernel_rfl) (holds_and (rd_ld l3.2.1) rfl)) ?_
  refine Wd.act w H5 (by kernel_rfl) (iop_app (v := y) (w := z) (by kernel_rfl) (by kernel_rfl) o4.bs.parts.2.2 a5) (holds_of [] (by kernel_rfl) rfl) ?_
  refine Wd.pure (by kernel_rfl) (by kernel_rfl) ?_
  refine Wd.pure (by kernel_rfl) (by kernel_rfl) ?_
  refine Wd.done (holds_of [] (by kernel_rfl) rfl) ?_
  exact Wp.ret ⟨.inr rfl, .tup [w, .int .i64 0], (by kernel_rfl), w, rfl, ((X12.trans X3).trans X4).then2 Y5, o5⟩

theorem retI {ts : List AV} {h : H} {k j ag : Nat} {a : AA} {v w : AV} (LA : h.ldg a (some ag) = some v) (h1 : getL ts k = some (.ptr a)) (h2 : getL ts j = some w) : retV h ts [(k, some (some ag)), (j, none)] = some (.tup [v, w]) := by
  simp [retV, resOf, iop, ev, h1, h2, LA]

/-- An item as a value. -/
def itemV (a b : AV) : AV := .agg [a, b]

set_option maxHeartbeats 1000000 in
theorem item_run {h : H} {v : AV} {xs : List (AV × List UInt8)} (hc : Ch h v xs) (hlen : xs.length < 2 ^ 62) {t : Nat} (ht : t < 2 ^ 64) : ∃ r h', Runs TF 47 [entV t v] h r h' ∧ ∃ z w, r = .tup [itemV z w, .int .i64 (leafE xs)] ∧ Ext h h' ∧ Ow h.n h' z (leafX t xs) ∧ Ow h.n h' w (extraX xs) ∧ (∀ a n c a' n' c', z = .sl a n c → w = .sl a' n' c' → a.b ≠ a'.b) := by
  refine Runs.ofP f47 rfl ?_
  have hmx : 200000000000000 = maxRow := rfl
  obtain ⟨H1, X1, n1, enew, Ld⟩ := ent_new hc t
  obtain ⟨H2, hH2⟩ : ∃ H2, H2 = H1.new (.cells 0 78 [.nils, .nils] 0 false) := ⟨_, rfl⟩
  have X2 : Ext H1 H2 := by rw [hH2]; exact Ext.new _ _
  have g2 : H2.get H1.n = some (.cells 0 78 [.nils, .nils] 0 false) := by rw [hH2]; exact H1.get_new _
  have en2 : ∀ ts, iop (.new 78 (.c (.agg [.nils, .nils]))) (ev ts) H1 = some (.val (.ptr ⟨H1.n, 0, 0⟩) H2) := fun ts => by rw [hH2]; exact iop_new (by kernel_rfl) rfl
  have X12 := X1.trans X2
  have n2 : H1.n < H2.n := by rw [hH2]; simp
  obtain ⟨r3, H3, c3, z, rfl, X3, o3⟩ := leaf_run (hc.ext X12) hlen ht
  obtain ⟨r4, H4, c4, w, rfl, X4, o4⟩ := extra_run (hc.ext (X12.trans X3)) hlen ht
  have l2 := Ld H2 X2
  have l3 := Ld H3 (X2.trans X3)
  have m1 := X1.1
  have m3 := X3.1
  have m4 := X4.1
  by_cases hm : mayE xs = true
  · have eE : leafE xs = 0 := by rw [leafE, if_pos hm]
    rw [eE] at c3 c4 ⊢
    have g4 : H4.get H1.n = some (.cells 0 78 [.nils, .nils] 0 false) := by rw [X4.2 _ (by omega), X3.2 _ (by omega)]; exact g2
    have pz := o3.bs.parts
    have pw := o4.bs.parts
    obtain ⟨H5, hH5⟩ : ∃ H5, H5 = H4.set H1.n (.cells 0 78 [z, w] 0 false) := ⟨_, rfl⟩
    have st : H4.st ⟨H1.n, 0, 0⟩ [z, w] = some H5 := by
      unfold H.st
      simp only [g4]
      rw [if_pos (by simp [pz.2.1, pw.2.1]), hH5]
      rfl
    have g5 : H5.get H1.n = some (.cells 0 78 [z, w] 0 false) := by rw [hH5, H4.get_set]
    have eb : ∀ {x y : IX} {ρ : IX → AV}, ρ x = z → ρ y = w → iop (.build [.nils, .nils] [(0, 1, x), (1, 1, y)]) ρ H4 = some (.val (.agg [z, w]) H4) := by
      intro x y ρ hx hy
      simp [iop, fillL, hx, hy, pz.1, pw.1, putAt]
    have kp : ∀ b, b ≠ H1.n → H5.get b = H4.get b := fun b hb => by rw [hH5, H4.get_set_ne _ b _ hb]
    refine Wp.seq ?_
    refine Wp.region ?_
    refine Wo.val _ _ (by kernel_rfl) (enew (by kernel_rfl)) ?_
    refine Wo.val _ _ (by kernel_rfl) (en2 _) ?_
    refine Wo.pre 8 (by kernel_rfl) ?_
    refine Wo.nil ?_
    refine Wp.seq ?_
    refine Wp.region ?_
    refine Wo.val (entV t v) H2 (by kernel_rfl) (iop_ld (a := ⟨h.n, 0, 0⟩) (by kernel_rfl) l2.2.2) ?_
    refine Wo.call (by kernel_rfl) (by kernel_rfl) (c3) ?_
    refine Wo.pre 8 (by kernel_rfl) ?_
    refine Wo.nil ?_
    refine Wp.seq ?_
    refine Wp.seq ?_
    refine Wp.region ?_
    refine Wo.pre 8 (by kernel_rfl) ?_
    refine Wo.nil ?_
    refine Wp.cond false (by kernel_rfl) ?_
    refine Wp.skip ?_
    refine Wp.seq ?_
    refine Wp.region ?_
    refine Wo.val (entV t v) H3 (by kernel_rfl) (iop_ld (a := ⟨h.n, 0, 0⟩) (by kernel_rfl) l3.2.2) ?_
    refine Wo.call (by kernel_rfl) (by kernel_rfl) (c4) ?_
    refine Wo.pre 8 (by kernel_rfl) ?_
    refine Wo.nil ?_
    refine Wp.seq ?_
    refine Wp.seq ?_
    refine Wp.region ?_
    refine Wo.pre 8 (by kernel_rfl) ?_
    refine Wo.nil ?_
    refine Wp.cond false (by kernel_rfl) ?_
    refine Wp.skip ?_
    refine Wp.seq ?_
    refine Wp.region ?_
    refine Wo.pre 1 (by kernel_rfl) ?_
    refine Wo.pre 1 (by kernel_rfl) ?_
    refine Wo.val (.agg [z, w]) H4 (by kernel_rfl) (eb (by kernel_rfl) (by kernel_rfl)) ?_
    refine Wo.val .undef H5 (by kernel_rfl) (iop_stA (a := ⟨H1.n, 0, 0⟩) (cs := [z, w]) (by kernel_rfl) (by kernel_rfl) rfl st) ?_
    refine Wo.pre 8 (by kernel_rfl) ?_
    refine Wo.nil ?_
    refine Wp.ret ⟨.inr rfl, .tup [itemV z w, .int .i64 0], ?_, z, w, rfl, ⟨by rw [hH5]; show h.n ≤ H4.n; omega, fun b hb => ?_⟩, ?_, ?_, ?_⟩
    · have LA : H5.ldg ⟨H1.n, 0, 0⟩ (some 2) = some (itemV z w) := by simp [H.ldg, H.ldn, H.row, g5, cut, itemV]
      exact retI LA (by kernel_rfl) (by kernel_rfl)
    · rw [kp b (by omega), X4.2 b (by omega), X3.2 b (by omega)]; exact X12.2 b hb
    · rcases o3 with h0 | ⟨b, g, q1, q2, q3, q4⟩
      · exact .inl h0
      · exact .inr ⟨b, g, by omega, by rw [hH5]; show b < H4.n; omega, by rw [kp b (by omega), X4.2 b q2]; exact q3, q4⟩
    · rcases o4 with h0 | ⟨b, g, q1, q2, q3, q4⟩
      · exact .inl h0
      · exact .inr ⟨b, g, by omega, by rw [hH5]; exact q2, by rw [kp b (by omega)]; exact q3, q4⟩
    · intro a n c a' n' c' e1 e2
      have b1 := o3.blk e1
      have b2 := o4.blk e2
      omega
  · have eE : leafE xs = 1 := by rw [leafE, if_neg hm]
    rw [eE] at c3 ⊢
    have eX : leafX t xs = [] := by rw [leafX, if_neg hm]
    have eX' : extraX xs = [] := by rw [extraX, if_neg hm]
    have g3 : H3.get H1.n = some (.cells 0 78 [.nils, .nils] 0 false) := by rw [X3.2 _ (by omega)]; exact g2
    obtain ⟨H5, hH5⟩ : ∃ H5, H5 = H3.set H1.n (.cells 0 78 [.nils, .nils] 0 false) := ⟨_, rfl⟩
    have st : H3.st ⟨H1.n, 0, 0⟩ [.nils, .nils] = some H5 := by
      unfold H.st
      simp only [g3]
      rw [if_pos (by simp [AV.one]), hH5]
      rfl
    have g5 : H5.get H1.n = some (.cells 0 78 [.nils, .nils] 0 false) := by rw [hH5, H3.get_set]
    refine Wp.seq ?_
    refine Wp.region ?_
    refine Wo.val _ _ (by kernel_rfl) (enew (by kernel_rfl)) ?_
    refine Wo.val _ _ (by kernel_rfl) (en2 _) ?_
    refine Wo.pre 8 (by kernel_rfl) ?_
    refine Wo.nil ?_
    refine Wp.seq ?_
    refine Wp.region ?_
    refine Wo.val (entV t v) H2 (by kernel_rfl) (iop_ld (a := ⟨h.n, 0, 0⟩) (by kernel_rfl) l2.2.2) ?_
    refine Wo.call (by kernel_rfl) (by kernel_rfl) (c3) ?_
    refine Wo.pre 8 (by kernel_rfl) ?_
    refine Wo.nil ?_
    refine Wp.seq ?_
    refine Wp.seq ?_
    refine Wp.region ?_
    refine Wo.pre 8 (by kernel_rfl) ?_
    refine Wo.nil ?_
    refine Wp.cond true (by kernel_rfl) ?_
    refine Wp.seq ?_
    refine Wp.region ?_
    refine Wo.pre 1 (by kernel_rfl) ?_
    refine Wo.pre 1 (by kernel_rfl) ?_
    refine Wo.val .undef H5 (by kernel_rfl) (iop_stA (a := ⟨H1.n, 0, 0⟩) (cs := [.nils, .nils]) (by kernel_rfl) (by kernel_rfl) rfl st) ?_
    refine Wo.pre 8 (by kernel_rfl) ?_
    refine Wo.nil ?_
    refine Wp.ret ⟨.inr rfl, .tup [itemV .nils .nils, .int .i64 1], ?_, .nils, .nils, rfl, ⟨by rw [hH5]; show h.n ≤ H3.n; omega, fun b hb => ?_⟩, by rw [eX]; exact .inl ⟨rfl, rfl⟩, by rw [eX']; exact .inl ⟨rfl, rfl⟩, fun a n c a' n' c' e1 _ => by simp at e1⟩
    · have LA : H5.ldg ⟨H1.n, 0, 0⟩ (some 2) = some (itemV .nils .nils) := by simp [H.ldg, H.ldn, H.row, g5, cut, itemV]
      exact retI LA (by kernel_rfl) (by kernel_rfl)
    · rw [hH5, H3.get_set_ne _ b _ (by omega), X3.2 b (by omega)]; exact X12.2 b hb

set_option maxHeartbeats 1000000 in
theorem ritem_run {h : H} {v : AV} {xs : List (AV × List UInt8)} (hc : Ch h v xs) (hlen : xs.length < 2 ^ 62) {t : Nat} (ht : t < 2 ^ 64) : ∃ r h', Runs TF 48 [entV t v] h r h' ∧ ∃ z w, r = .tup [itemV z w, .int .i64 (leafE xs)] ∧ Ext h h' ∧ Ow h.n h' z (leafX t xs) ∧ Ow h.n h' w (extraX xs) ∧ (∀ a n c a' n' c', z = .sl a n c → w = .sl a' n' c' → a.b ≠ a'.b) := by
  refine Runs.ofP f48 rfl ?_
  have hmx : 200000000000000 = maxRow := rfl
  obtain ⟨H1, X1, n1, enew, Ld⟩ := ent_new hc t
  obtain ⟨H2, hH2⟩ : ∃ H2, H2 = H1.new (.cells 0 78 [.nils, .nils] 0 false) := ⟨_, rfl⟩
  have X2 : Ext H1 H2 := by rw [hH2]; exact Ext.new _ _
  have g2 : H2.get H1.n = some (.cells 0 78 [.nils, .nils] 0 false) := by rw [hH2]; exact H1.get_new _
  have en2 : ∀ ts, iop (.new 78 (.c (.agg [.nils, .nils]))) (ev ts) H1 = some (.val (.ptr ⟨H1.n, 0, 0⟩) H2) := fun ts => by rw [hH2]; exact iop_new (by kernel_rfl) rfl
  have X12 := X1.trans X2
  have n2 : H1.n < H2.n := by rw [hH2]; simp
  obtain ⟨r3, H3, c3, z, rfl, X3, o3⟩ := rleaf_run (hc.ext X12) hlen ht
  obtain ⟨r4, H4, c4, w, rfl, X4, o4⟩ := rextra_run (hc.ext (X12.trans X3)) hlen ht
  have l2 := Ld H2 X2
  have l3 := Ld H3 (X2.trans X3)
  have m1 := X1.1
  have m3 := X3.1
  have m4 := X4.1
  by_cases hm : mayE xs = true
  · have eE : leafE xs = 0 := by rw [leafE, if_pos hm]
    rw [eE] at c3 c4 ⊢
    have g4 : H4.get H1.n = some (.cells 0 78 [.nils, .nils] 0 false) := by rw [X4.2 _ (by omega), X3.2 _ (by omega)]; exact g2
    have pz := o3.bs.parts
    have pw := o4.bs.parts
    obtain ⟨H5, hH5⟩ : ∃ H5, H5 = H4.set H1.n (.cells 0 78 [z, w] 0 false) := ⟨_, rfl⟩
    have st : H4.st ⟨H1.n, 0, 0⟩ [z, w] = some H5 := by
      unfold H.st
      simp only [g4]
      rw [if_pos (by simp [pz.2.1, pw.2.1]), hH5]
      rfl
    have g5 : H5.get H1.n = some (.cells 0 78 [z, w] 0 false) := by rw [hH5, H4.get_set]
    have eb : ∀ {x y : IX} {ρ : IX → AV}, ρ x = z → ρ y = w → iop (.build [.nils, .nils] [(0, 1, x), (1, 1, y)]) ρ H4 = some (.val (.agg [z, w]) H4) := by
      intro x y ρ hx hy
      simp [iop, fillL, hx, hy, pz.1, pw.1, putAt]
    have kp : ∀ b, b ≠ H1.n → H5.get b = H4.get b := fun b hb => by rw [hH5, H4.get_set_ne _ b _ hb]
    refine Wp.seq ?_
    refine Wp.region ?_
    refine Wo.val _ _ (by kernel_rfl) (enew (by kernel_rfl)) ?_
    refine Wo.val _ _ (by kernel_rfl) (en2 _) ?_
    refine Wo.pre 8 (by kernel_rfl) ?_
    refine Wo.nil ?_
    refine Wp.seq ?_
    refine Wp.region ?_
    refine Wo.val (entV t v) H2 (by kernel_rfl) (iop_ld (a := ⟨h.n, 0, 0⟩) (by kernel_rfl) l2.2.2) ?_
    refine Wo.call (by kernel_rfl) (by kernel_rfl) (c3) ?_
    refine Wo.pre 8 (by kernel_rfl) ?_
    refine Wo.nil ?_
    refine Wp.seq ?_
    refine Wp.seq ?_
    refine Wp.region ?_
    refine Wo.pre 8 (by kernel_rfl) ?_
    refine Wo.nil ?_
    refine Wp.cond false (by kernel_rfl) ?_
    refine Wp.skip ?_
    refine Wp.seq ?_
    refine Wp.region ?_
    refine Wo.val (entV t v) H3 (by kernel_rfl) (iop_ld (a := ⟨h.n, 0, 0⟩) (by kernel_rfl) l3.2.2) ?_
    refine Wo.call (by kernel_rfl) (by kernel_rfl) (c4) ?_
    refine Wo.pre 8 (by kernel_rfl) ?_
    refine Wo.nil ?_
    refine Wp.seq ?_
    refine Wp.region ?_
    refine Wo.pre 1 (by kernel_rfl) ?_
    refine Wo.pre 1 (by kernel_rfl) ?_
    refine Wo.val (.agg [z, w]) H4 (by kernel_rfl) (eb (by kernel_rfl) (by kernel_rfl)) ?_
    refine Wo.val .undef H5 (by kernel_rfl) (iop_stA (a := ⟨H1.n, 0, 0⟩) (cs := [z, w]) (by kernel_rfl) (by kernel_rfl) rfl st) ?_
    refine Wo.pre 8 (by kernel_rfl) ?_
    refine Wo.nil ?_
    refine Wp.ret ⟨.inr rfl, .tup [itemV z w, .int .i64 0], ?_, z, w, rfl, ⟨by rw [hH5]; show h.n ≤ H4.n; omega, fun b hb => ?_⟩, ?_, ?_, ?_⟩
    · have LA : H5.ldg ⟨H1.n, 0, 0⟩ (some 2) = some (itemV z w) := by simp [H.ldg, H.ldn, H.row, g5, cut, itemV]
      exact retI LA (by kernel_rfl) (by kernel_rfl)
    · rw [kp b (by omega), X4.2 b (by omega), X3.2 b (by omega)]; exact X12.2 b hb
    · rcases o3 with h0 | ⟨b, g, q1, q2, q3, q4⟩
      · exact .inl h0
      · exact .inr ⟨b, g, by omega, by rw [hH5]; show b < H4.n; omega, by rw [kp b (by omega), X4.2 b q2]; exact q3, q4⟩
    · rcases o4 with h0 | ⟨b, g, q1, q2, q3, q4⟩
      · exact .inl h0
      · exact .inr ⟨b, g, by omega, by rw [hH5]; exact q2, by rw [kp b (by omega)]; exact q3, q4⟩
    · intro a n c a' n' c' e1 e2
      have b1 := o3.blk e1
      have b2 := o4.blk e2
      omega
  · have eE : leafE xs = 1 := by rw [leafE, if_neg hm]
    rw [eE] at c3 ⊢
    have eX : leafX t xs = [] := by rw [leafX, if_neg hm]
    have eX' : extraX xs = [] := by rw [extraX, if_neg hm]
    have g3 : H3.get H1.n = some (.cells 0 78 [.nils, .nils] 0 false) := by rw [X3.2 _ (by omega)]; exact g2
    obtain ⟨H5, hH5⟩ : ∃ H5, H5 = H3.set H1.n (.cells 0 78 [.nils, .nils] 0 false) := ⟨_, rfl⟩
    have st : H3.st ⟨H1.n, 0, 0⟩ [.nils, .nils] = some H5 := by
      unfold H.st
      simp only [g3]
      rw [if_pos (by simp [AV.one]), hH5]
      rfl
    have g5 : H5.get H1.n = some (.cells 0 78 [.nils, .nils] 0 false) := by rw [hH5, H3.get_set]
    refine Wp.seq ?_
    refine Wp.region ?_
    refine Wo.val _ _ (by kernel_rfl) (enew (by kernel_rfl)) ?_
    refine Wo.val _ _ (by kernel_rfl) (en2 _) ?_
    refine Wo.pre 8 (by kernel_rfl) ?_
    refine Wo.nil ?_
    refine Wp.seq ?_
    refine Wp.region ?_
    refine Wo.val (entV t v) H2 (by kernel_rfl) (iop_ld (a := ⟨h.n, 0, 0⟩) (by kernel_rfl) l2.2.2) ?_
    refine Wo.call (by kernel_rfl) (by kernel_rfl) (c3) ?_
    refine Wo.pre 8 (by kernel_rfl) ?_
    refine Wo.nil ?_
    refine Wp.seq ?_
    refine Wp.seq ?_
    refine Wp.region ?_
    refine Wo.pre 8 (by kernel_rfl) ?_
    refine Wo.nil ?_
    refine Wp.cond true (by kernel_rfl) ?_
    refine Wp.seq ?_
    refine Wp.region ?_
    refine Wo.pre 1 (by kernel_rfl) ?_
    refine Wo.pre 1 (by kernel_rfl) ?_
    refine Wo.val .undef H5 (by kernel_rfl) (iop_stA (a := ⟨H1.n, 0, 0⟩) (cs := [.nils, .nils]) (by kernel_rfl) (by kernel_rfl) rfl st) ?_
    refine Wo.pre 8 (by kernel_rfl) ?_
    refine Wo.nil ?_
    refine Wp.ret ⟨.inr rfl, .tup [itemV .nils .nils, .int .i64 1], ?_, .nils, .nils, rfl, ⟨by rw [hH5]; show h.n ≤ H3.n; omega, fun b hb => ?_⟩, by rw [eX]; exact .inl ⟨rfl, rfl⟩, by rw [eX']; exact .inl ⟨rfl, rfl⟩, fun a n c a' n' c' e1 _ => by simp at e1⟩
    · have LA : H5.ldg ⟨H1.n, 0, 0⟩ (some 2) = some (itemV .nils .nils) := by simp [H.ldg, H.ldn, H.row, g5, cut, itemV]
      exact retI LA (by kernel_rfl) (by kernel_rfl)
    · rw [hH5, H3.get_set_ne _ b _ (by omega), X3.2 b (by omega)]; exact X12.2 b hb
end Go.Det

/- Entries: whether two say the same. -/
set_option linter.unusedVariables false
set_option linter.unusedSimpArgs false
set_option linter.unusedSectionVars false
namespace Go.Det
open Go.Proofs
attribute [local irreducible] Wp Wo Wd iop ev slots quiets wanted put

def says (xs : List (AV × List UInt8)) : List (List UInt8) := xs.map (·.2)
theorem says_drop {xs : List (AV × List UInt8)} {i : Nat} {p : AV × List UInt8} (hp : xs[i]? = some p) : says (xs.drop i) = p.2 :: says (xs.drop (i + 1)) := by
  have hlt : i < xs.length := (List.getElem?_eq_some_iff.1 hp).1
  rw [List.drop_eq_getElem_cons hlt, (List.getElem?_eq_some_iff.1 hp).2]
  rfl
theorem says_len (xs : List (AV × List UInt8)) : (says xs).length = xs.length := by simp [says]

set_option maxHeartbeats 1000000 in
theorem eqf_loop {h : H} {v w : AV} {xs ys : List (AV × List UInt8)} (hc : Ch h v xs) (hd : Ch h w ys) (hl : xs.length = ys.length) (hlen : xs.length < 2 ^ 62) :
    ∀ (k i : Nat), i + k = xs.length → ∀ (ts : List AV), ts.length = 32 → getL ts 1 = some w → getL ts 2 = some (.fn (.func 23) [] []) → getL ts 15 = some v → getL ts 16 = some (.int .i64 xs.length) → getL ts 17 = some (.int .i64 i) →
      ∀ (Q : Ex → St → Prop), (says (xs.drop i) ≠ says (ys.drop i) → ∀ ts', ts'.length = 32 → getL ts' 6 = some (.bool false) → Q .ret (ts', h)) →
        (says (xs.drop i) = says (ys.drop i) → ∀ ts', ts'.length = 32 → Q (.exit 0) (ts', h)) → Wp TF (.loop l82_1) (ts, h) Q := by
  intro k
  induction k with
  | zero =>
    intro i hi ts t0 t1 t2 t15 t16 t17 Q hbad hgood
    obtain rfl : i = xs.length := by omega
    refine Wp.loop ?_
    rw [laid_eq t0 [(15, v), (16, .int .i64 xs.length), (17, .int .i64 xs.length)] (by simp [t15, t16, t17])]
    unfold l82_1
    refine Wp.seq ?_
    refine Wp.region ?_
    refine Wo.val (.bool false) h (by kernel_rfl) (iop_cmp (op := .lss) (k := .i64) (a := xs.length) (b := xs.length) false (by kernel_rfl) (by kernel_rfl) (by simp) (by simp [binInt])) ?_
    refine Wo.nil ?_
    refine Wp.seq ?_
    refine Wp.cond false (by kernel_rfl) ?_
    exact Wp.exit (hgood (by rw [List.drop_length, hl, List.drop_length]) _ (by kernel_rfl))
  | succ k ih =>
    intro i hi ts t0 t1 t2 t15 t16 t17 Q hbad hgood
    have hlt : i < xs.length := by omega
    have hlt2 : i < ys.length := by omega
    obtain ⟨p, hp⟩ : ∃ p, xs[i]? = some p := ⟨xs[i], List.getElem?_eq_getElem hlt⟩
    obtain ⟨q, hq⟩ : ∃ p, ys[i]? = some p := ⟨ys[i], List.getElem?_eq_getElem hlt2⟩
    rw [says_drop hp, says_drop hq] at hbad hgood
    obtain ⟨a, c, rfl, hld⟩ := hc.at hp
    obtain ⟨a', c', rfl, hld'⟩ := hd.at hq
    have ceq := equal_run ((hc.el p (List.mem_of_getElem? hp)).1) ((hd.el q (List.mem_of_getElem? hq)).1)
    have wi : IntKind.i64.wrap ((i : Int) + 1) = ((i + 1 : Nat) : Int) := by rw [i64_fit _ (by omega)]; omega
    refine Wp.loop ?_
    rw [laid_eq t0 [(1, .sl a' ys.length c'), (2, .fn (.func 23) [] []), (15, .sl a xs.length c), (16, .int .i64 xs.length), (17, .int .i64 i)] (by simp [t1, t2, t15, t16, t17])]
    unfold l82_1
    by_cases he : p.2 = q.2
    · rw [show (p.2 == q.2) = true by simp [he]] at ceq
      rw [he] at hbad hgood
      refine Wp.seq ?_
      refine Wp.region ?_
      refine Wo.val (.bool true) h (by kernel_rfl) (iop_cmp (op := .lss) (k := .i64) (a := i) (b := xs.length) true (by kernel_rfl) (by kernel_rfl) (by simp) (by simp [binInt]; omega)) ?_
      refine Wo.nil ?_
      refine Wp.seq ?_
      refine Wp.cond true (by kernel_rfl) ?_
      refine Wp.skip ?_
      refine Wp.seq ?_
      refine Wp.block ?_
      refine Wp.seq ?_
      refine Wp.region ?_
      refine Wo.pre 1 (by kernel_rfl) ?_
      refine Wo.val _ h (by kernel_rfl) (iop_ia (a := a) (n := xs.length) (c := c) (i := i) (by kernel_rfl) (by kernel_rfl) hlt) ?_
      refine Wo.val p.1 h (by kernel_rfl) (iop_ld (a := ⟨a.b, a.g, a.o + i * 1⟩) (by kernel_rfl) hld) ?_
      refine Wo.pre 1 (by kernel_rfl) ?_
      refine Wo.pre 1 (by kernel_rfl) ?_
      refine Wo.nil ?_
      refine Wp.seq ?_
      refine Wp.region ?_
      refine Wo.pre 1 (by kernel_rfl) ?_
      refine Wo.pre 1 (by kernel_rfl) ?_
      refine Wo.val _ h (by kernel_rfl) (iop_ia (a := a') (n := ys.length) (c := c') (i := i) (by kernel_rfl) (by kernel_rfl) hlt2) ?_
      refine Wo.val q.1 h (by kernel_rfl) (iop_ld (a := ⟨a'.b, a'.g, a'.o + i * 1⟩) (by kernel_rfl) hld') ?_
      refine Wo.pre 1 (by kernel_rfl) ?_
      refine Wo.nil ?_
      refine Wp.seq ?_
      refine Wp.region ?_
      refine Wo.pre 1 (by kernel_rfl) ?_
      refine Wo.pre 1 (by kernel_rfl) ?_
      refine Wo.pre 1 (by kernel_rfl) ?_
      refine Wo.call (by kernel_rfl) (by kernel_rfl) (ceq) ?_
      refine Wo.pre 1 (by kernel_rfl) ?_
      refine Wo.nil ?_
      refine Wp.cond false (by kernel_rfl) ?_
      refine Wp.skip ?_
      refine Wp.region ?_
      refine Wo.pre 1 (by kernel_rfl) ?_
      refine Wo.pre 1 (by kernel_rfl) ?_
      refine Wo.nil ?_
      exact ih (i + 1) (by omega) _ (by kernel_rfl) (by kernel_rfl) (by kernel_rfl) (by kernel_rfl) (by kernel_rfl) (by rw [← wi]; kernel_rfl) Q (fun hn => hbad (fun e => hn (List.cons.inj e).2)) (fun e => hgood (by rw [e]))
    · rw [show (p.2 == q.2) = false by simp [he]] at ceq
      refine Wp.seq ?_
      refine Wp.region ?_
      refine Wo.val (.bool true) h (by kernel_rfl) (iop_cmp (op := .lss) (k := .i64) (a := i) (b := xs.length) true (by kernel_rfl) (by kernel_rfl) (by simp) (by simp [binInt]; omega)) ?_
      refine Wo.nil ?_
      refine Wp.seq ?_
      refine Wp.cond true (by kernel_rfl) ?_
      refine Wp.skip ?_
      refine Wp.seq ?_
      refine Wp.block ?_
      refine Wp.seq ?_
      refine Wp.region ?_
      refine Wo.pre 1 (by kernel_rfl) ?_
      refine Wo.val _ h (by kernel_rfl) (iop_ia (a := a) (n := xs.length) (c := c) (i := i) (by kernel_rfl) (by kernel_rfl) hlt) ?_
      refine Wo.val p.1 h (by kernel_rfl) (iop_ld (a := ⟨a.b, a.g, a.o + i * 1⟩) (by kernel_rfl) hld) ?_
      refine Wo.pre 1 (by kernel_rfl) ?_
      refine Wo.pre 1 (by kernel_rfl) ?_
      refine Wo.nil ?_
      refine Wp.seq ?_
      refine Wp.region ?_
      refine Wo.pre 1 (by kernel_rfl) ?_
      refine Wo.pre 1 (by kernel_rfl) ?_
      refine Wo.val _ h (by kernel_rfl) (iop_ia (a := a') (n := ys.length) (c := c') (i := i) (by kernel_rfl) (by kernel_rfl) hlt2) ?_
      refine Wo.val q.1 h (by kernel_rfl) (iop_ld (a := ⟨a'.b, a'.g, a'.o + i * 1⟩) (by kernel_rfl) hld') ?_
      refine Wo.pre 1 (by kernel_rfl) ?_
      refine Wo.nil ?_
      refine Wp.seq ?_
      refine Wp.region ?_
      refine Wo.pre 1 (by kernel_rfl) ?_
      refine Wo.pre 1 (by kernel_rfl) ?_
      refine Wo.pre 1 (by kernel_rfl) ?_
      refine Wo.call (by kernel_rfl) (by kernel_rfl) (ceq) ?_
      refine Wo.pre 1 (by kernel_rfl) ?_
      refine Wo.nil ?_
      refine Wp.cond true (by kernel_rfl) ?_
      refine Wp.seq ?_
      refine Wp.region ?_
      refine Wo.pre 1 (by kernel_rfl) ?_
      refine Wo.nil ?_
      exact Wp.ret (hbad (fun e => he (List.cons.inj e).1) _ (by kernel_rfl) (by kernel_rfl))

theorem eqf_run {h : H} {v w : AV} {xs ys : List (AV × List UInt8)} (hc : Ch h v xs) (hd : Ch h w ys) (hlen : xs.length < 2 ^ 62) : Runs TF 82 [v, w, .fn (.func 23) [] []] h (.bool (decide (says xs = says ys))) h := by
  refine Runs.of' f82 rfl ?_
  by_cases hl : xs.length = ys.length
  · refine Wp.seq ?_
    refine Wp.region ?_
    refine Wo.pre 1 (by kernel_rfl) ?_
    refine Wo.nil ?_
    refine Wp.seq ?_
    refine Wp.seq ?_
    refine Wp.region ?_
    refine Wo.pre 1 (by kernel_rfl) ?_
    refine Wo.val (.int .i64 xs.length) h (by kernel_rfl) (iop_lenS (v := v) (by kernel_rfl) hc.lenS) ?_
    refine Wo.pre 1 (by kernel_rfl) ?_
    refine Wo.val (.int .i64 ys.length) h (by kernel_rfl) (iop_lenS (v := w) (by kernel_rfl) hd.lenS) ?_
    refine Wo.val (.bool false) h (by kernel_rfl) (iop_cmp (op := .neq) (k := .i64) (a := xs.length) (b := ys.length) false (by kernel_rfl) (by kernel_rfl) (by simp) (by simp [binInt, hl])) ?_
    refine Wo.nil ?_
    refine Wp.cond false (by kernel_rfl) ?_
    refine Wp.skip ?_
    refine Wp.seq ?_
    refine Wp.seq ?_
    refine Wp.region ?_
    refine Wo.pre 1 (by kernel_rfl) ?_
    refine Wo.val (.int .i64 xs.length) h (by kernel_rfl) (iop_lenS (v := v) (by kernel_rfl) hc.lenS) ?_
    refine Wo.pre 1 (by kernel_rfl) ?_
    refine Wo.nil ?_
    refine Wp.block ?_
    refine eqf_loop hc hd hl hlen xs.length 0 (by omega) _ (by kernel_rfl) (by kernel_rfl) (by kernel_rfl) (by kernel_rfl) (by kernel_rfl) (by kernel_rfl) _ ?_ ?_
    · intro hn ts' d0 d6
      rw [laid_eq d0 [(6, .bool false)] (by simp [d6])]
      have : decide (says xs = says ys) = false := by simpa using hn
      exact ⟨.inr rfl, rfl, by rw [this]; kernel_rfl⟩
    · intro he ts' d0
      rw [laid_eq d0 [] (by simp)]
      refine Wp.seq ?_
      refine Wp.region ?_
      refine Wo.pre 8 (by kernel_rfl) ?_
      refine Wo.nil ?_
      have : decide (says xs = says ys) = true := by simpa using he
      exact Wp.ret ⟨.inr rfl, rfl, by rw [this]; kernel_rfl⟩
  · have hl' : (xs.length : Int) ≠ ys.length := by omega
    have : decide (says xs = says ys) = false := by
      rw [decide_eq_false_iff_not]
      intro e
      exact hl (by rw [← says_len xs, e, says_len])
    refine Wp.seq ?_
    refine Wp.region ?_
    refine Wo.pre 1 (by kernel_rfl) ?_
    refine Wo.nil ?_
    refine Wp.seq ?_
    refine Wp.seq ?_
    refine Wp.region ?_
    refine Wo.pre 1 (by kernel_rfl) ?_
    refine Wo.val (.int .i64 xs.length) h (by kernel_rfl) (iop_lenS (v := v) (by kernel_rfl) hc.lenS) ?_
    refine Wo.pre 1 (by kernel_rfl) ?_
    refine Wo.val (.int .i64 ys.length) h (by kernel_rfl) (iop_lenS (v := w) (by kernel_rfl) hd.lenS) ?_
    refine Wo.val (.bool true) h (by kernel_rfl) (iop_cmp (op := .neq) (k := .i64) (a := xs.length) (b := ys.length) true (by kernel_rfl) (by kernel_rfl) (by simp) (by simp only [binInt]; rw [bne_iff_ne.2 hl'])) ?_
    refine Wo.nil ?_
    refine Wp.cond true (by kernel_rfl) ?_
    refine Wp.seq ?_
    refine Wp.region ?_
    refine Wo.pre 1 (by kernel_rfl) ?_
    refine Wo.nil ?_
    exact Wp.ret ⟨.inr rfl, rfl, by rw [this]; kernel_rfl⟩

def sameE (t : Nat) (xs : List (AV × List UInt8)) (t' : Nat) (ys : List (AV × List UInt8)) : Bool := decide (t = t') && decide (says xs = says ys)

set_option maxHeartbeats 1000000 in
theorem samee_run {h : H} {v w : AV} {xs ys : List (AV × List UInt8)} (hc : Ch h v xs) (hd : Ch h w ys) (hlen : xs.length < 2 ^ 62) (t t' : Nat) : ∃ r h', Runs TF 51 [entV t v, entV t' w] h r h' ∧ r = .bool (sameE t xs t' ys) ∧ Ext h h' := by
  refine Runs.ofP f51 rfl ?_
  obtain ⟨H1, X1, n1, enew, Ld⟩ := ent_new hc t
  obtain ⟨H2, X2, n2, enew2, Ld2⟩ := ent_new (hd.ext X1) t'
  have l1 := Ld H2 X2
  have l2 := Ld2 H2 (Ext.refl _)
  have X12 := X1.trans X2
  have c3 := eqf_run (hc.ext X12) (hd.ext X12) hlen
  by_cases ht : t = t'
  · have e : sameE t xs t' ys = decide (says xs = says ys) := by simp [sameE, ht]
    rw [e]
    obtain ⟨b, hb⟩ : ∃ b, b = decide (says xs = says ys) := ⟨_, rfl⟩
    rw [← hb] at c3 ⊢
    refine Wp.seq ?_
    refine Wp.region ?_
    refine Wo.val _ _ (by kernel_rfl) (enew (by kernel_rfl)) ?_
    refine Wo.val _ _ (by kernel_rfl) (enew2 (by kernel_rfl)) ?_
    refine Wo.pre 1 (by kernel_rfl) ?_
    refine Wo.nil ?_
    refine Wp.seq ?_
    refine Wp.region ?_
    refine Wo.pre 1 (by kernel_rfl) ?_
    refine Wo.val (.int .u64 t) H2 (by kernel_rfl) (iop_ld (a := ⟨h.n, 0, 0⟩) (by kernel_rfl) l1.1) ?_
    refine Wo.pre 1 (by kernel_rfl) ?_
    refine Wo.val (.int .u64 t') H2 (by kernel_rfl) (iop_ld (a := ⟨H1.n, 0, 0⟩) (by kernel_rfl) l2.1) ?_
    refine Wo.val (.bool true) H2 (by kernel_rfl) (iop_cmp (op := .eql) (k := .u64) (a := t) (b := t') true (by kernel_rfl) (by kernel_rfl) (by simp) (binEq_true (by omega))) ?_
    refine Wo.pre 1 (by kernel_rfl) ?_
    refine Wo.pre 1 (by kernel_rfl) ?_
    refine Wo.val v H2 (by kernel_rfl) (iop_ld (a := ⟨h.n, 0, 1⟩) (by kernel_rfl) l1.2.1) ?_
    refine Wo.pre 1 (by kernel_rfl) ?_
    refine Wo.val w H2 (by kernel_rfl) (iop_ld (a := ⟨H1.n, 0, 1⟩) (by kernel_rfl) l2.2.1) ?_
    refine Wo.call (by kernel_rfl) (by kernel_rfl) (c3) ?_
    refine Wo.pre 1 (by kernel_rfl) ?_
    refine Wo.pre 1 (by kernel_rfl) ?_
    refine Wo.nil ?_
    exact Wp.ret ⟨.inr rfl, .bool b, (by kernel_rfl), rfl, X12⟩
  · have e : sameE t xs t' ys = false := by simp [sameE, ht]
    rw [e]
    refine Wp.seq ?_
    refine Wp.region ?_
    refine Wo.val _ _ (by kernel_rfl) (enew (by kernel_rfl)) ?_
    refine Wo.val _ _ (by kernel_rfl) (enew2 (by kernel_rfl)) ?_
    refine Wo.pre 1 (by kernel_rfl) ?_
    refine Wo.nil ?_
    refine Wp.seq ?_
    refine Wp.region ?_
    refine Wo.pre 1 (by kernel_rfl) ?_
    refine Wo.val (.int .u64 t) H2 (by kernel_rfl) (iop_ld (a := ⟨h.n, 0, 0⟩) (by kernel_rfl) l1.1) ?_
    refine Wo.pre 1 (by kernel_rfl) ?_
    refine Wo.val (.int .u64 t') H2 (by kernel_rfl) (iop_ld (a := ⟨H1.n, 0, 0⟩) (by kernel_rfl) l2.1) ?_
    refine Wo.val (.bool false) H2 (by kernel_rfl) (iop_cmp (op := .eql) (k := .u64) (a := t) (b := t') false (by kernel_rfl) (by kernel_rfl) (by simp) (binEq_false (by omega))) ?_
    refine Wo.pre 1 (by kernel_rfl) ?_
    refine Wo.pre 1 (by kernel_rfl) ?_
    refine Wo.pre 1 (by kernel_rfl) ?_
    refine Wo.pre 1 (by kernel_rfl) ?_
    refine Wo.pre 1 (by kernel_rfl) ?_
    refine Wo.pre 1 (by kernel_rfl) ?_
    refine Wo.pre 1 (by kernel_rfl) ?_
    refine Wo.pre 1 (by kernel_rfl) ?_
    refine Wo.nil ?_
    exact Wp.ret ⟨.inr rfl, .bool false, (by kernel_rfl), rfl, X12⟩
end Go.Det

/- Entries: whether two say the same, by the reference. -/
set_option linter.unusedVariables false
set_option linter.unusedSimpArgs false
set_option linter.unusedSectionVars false
namespace Go.Det
open Go.Proofs
attribute [local irreducible] Wp Wo Wd iop ev slots quiets wanted put

theorem iop_neStr {x y : IX} {ρ : IX → AV} {h : H} {a b : List UInt8} (c : Bool) (hx : ρ x = .str a) (hy : ρ y = .str b) (e : (!(a == b)) = c) : iop (.bin .neq x y) ρ h = some (.val (.bool c) h) := by
  simp [iop, binop, binStr, hx, hy, ← e]
theorem rd_cvBS {h : H} {v : AV} {l : List UInt8} (hb : Bs h v l) : readsAs (.cvBS (.c v)) (.str l) h = true := reads_ok (h' := h) (iop_cvBS (v := v) (by kernel_rfl) hb)

set_option maxHeartbeats 2000000 in
theorem rsame_loop {h : H} {v w : AV} {xs ys : List (AV × List UInt8)} {b1 b2 : Nat} (hc : Ch h v xs) (hd : Ch h w ys) (hl : xs.length = ys.length) (hlen : xs.length < 2 ^ 62) (L1 : h.ldg ⟨b1, 0, 1⟩ none = some v) (L2 : h.ldg ⟨b2, 0, 1⟩ none = some w) :
    ∀ (k i : Nat), i + k = xs.length → ∀ (ts : List AV), ts.length = 40 → getL ts 2 = some (.ptr ⟨b1, 0, 0⟩) → getL ts 3 = some (.ptr ⟨b2, 0, 0⟩) → getL ts 5 = some (.int .i64 i) →
      ∀ (Q : Ex → St → Prop), (says (xs.drop i) ≠ says (ys.drop i) → ∀ ts', ts'.length = 40 → getL ts' 4 = some (.bool false) → Q .ret (ts', h)) →
        (says (xs.drop i) = says (ys.drop i) → ∀ ts', ts'.length = 40 → Q (.exit 0) (ts', h)) → Wp TF (.loop l52_1) (ts, h) Q := by
  intro k
  induction k with
  | zero =>
    intro i hi ts t0 t2 t3 t5 Q hbad hgood
    obtain rfl : i = xs.length := by omega
    refine Wp.loop ?_
    rw [laid_eq t0 [(2, .ptr ⟨b1, 0, 0⟩), (3, .ptr ⟨b2, 0, 0⟩), (5, .int .i64 xs.length)] (by simp [t2, t3, t5])]
    unfold l52_1
    refine Wp.seq ?_
    refine Wp.seq ?_
    refine Wp.region ?_
    refine Wo.pre 1 (by kernel_rfl) ?_
    refine Wo.pre 1 (by kernel_rfl) ?_
    refine Wo.val v h (by kernel_rfl) (iop_ld (a := ⟨b1, 0, 1⟩) (by kernel_rfl) L1) ?_
    refine Wo.val (.int .i64 xs.length) h (by kernel_rfl) (iop_lenS (v := v) (by kernel_rfl) hc.lenS) ?_
    refine Wo.val (.bool false) h (by kernel_rfl) (iop_cmp (op := .lss) (k := .i64) (a := xs.length) (b := xs.length) false (by kernel_rfl) (by kernel_rfl) (by simp) (by simp [binInt])) ?_
    refine Wo.nil ?_
    refine Wp.cond false (by kernel_rfl) ?_
    exact Wp.exit (hgood (by rw [List.drop_length, hl, List.drop_length]) _ (by kernel_rfl))
  | succ k ih =>
    intro i hi ts t0 t2 t3 t5 Q hbad hgood
    have hlt : i < xs.length := by omega
    have hlt2 : i < ys.length := by omega
    obtain ⟨p, hp⟩ : ∃ p, xs[i]? = some p := ⟨xs[i], List.getElem?_eq_getElem hlt⟩
    obtain ⟨q, hq⟩ : ∃ p, ys[i]? = some p := ⟨ys[i], List.getElem?_eq_getElem hlt2⟩
    rw [says_drop hp, says_drop hq] at hbad hgood
    have hls := hc.lenS
    obtain ⟨a, c, rfl, hld⟩ := hc.at hp
    obtain ⟨a', c', rfl, hld'⟩ := hd.at hq
    have pB := (hc.el p (List.mem_of_getElem? hp)).1
    have qB := (hd.el q (List.mem_of_getElem? hq)).1
    have wi : IntKind.i64.wrap ((i : Int) + 1) = ((i + 1 : Nat) : Int) := by rw [i64_fit _ (by omega)]; omega
    have hp6 : Pend.holds [(.cvBS (.c q.1), .str q.2, 11), (.ld none (.c (.ptr ⟨a'.b, a'.g, a'.o + i * 1⟩)), q.1, 10), (.ld none (.c (.ptr ⟨b2, 0, 1⟩)), .sl a' ys.length c', 7), (.cvBS (.c p.1), .str p.2, 5), (.ld none (.c (.ptr ⟨a.b, a.g, a.o + i * 1⟩)), p.1, 4), (.ld none (.c (.ptr ⟨b1, 0, 1⟩)), .sl a xs.length c, 1)] h = true :=
      holds_and (rd_cvBS qB) (holds_and (rd_ld hld') (holds_and (rd_ld L2) (holds_and (rd_cvBS pB) (holds_and (rd_ld hld) (holds_and (rd_ld L1) rfl)))))
    obtain ⟨eb, heb⟩ : ∃ eb, eb = (!(p.2 == q.2)) := ⟨_, rfl⟩
    refine Wp.loop ?_
    rw [laid_eq t0 [(2, .ptr ⟨b1, 0, 0⟩), (3, .ptr ⟨b2, 0, 0⟩), (5, .int .i64 i)] (by simp [t2, t3, t5])]
    unfold l52_1
    refine Wp.seq ?_
    refine Wp.seq ?_
    refine Wp.region ?_
    refine Wo.pre 1 (by kernel_rfl) ?_
    refine Wo.pre 1 (by kernel_rfl) ?_
    refine Wo.val (.sl a xs.length c) h (by kernel_rfl) (iop_ld (a := ⟨b1, 0, 1⟩) (by kernel_rfl) L1) ?_
    refine Wo.val (.int .i64 xs.length) h (by kernel_rfl) (iop_lenS (v := .sl a xs.length c) (by kernel_rfl) hls) ?_
    refine Wo.val (.bool true) h (by kernel_rfl) (iop_cmp (op := .lss) (k := .i64) (a := i) (b := xs.length) true (by kernel_rfl) (by kernel_rfl) (by simp) (by simp [binInt]; omega)) ?_
    refine Wo.nil ?_
    refine Wp.cond true (by kernel_rfl) ?_
    refine Wp.skip ?_
    refine Wp.seq ?_
    refine Wp.block ?_
    refine Wp.seq ?_
    refine Wp.draw ?_
    refine Wd.pure (by kernel_rfl) (by kernel_rfl) ?_
    refine Wd.read (.sl a xs.length c) (.ld none (.c (.ptr ⟨b1, 0, 1⟩))) (by kernel_rfl) (by kernel_rfl) (iop_ld (a := ⟨b1, 0, 1⟩) (by kernel_rfl) L1) ?_
    refine Wd.pure (by kernel_rfl) (by kernel_rfl) ?_
    refine Wd.make _ h (by kernel_rfl) (by kernel_rfl) (iop_ia (a := a) (n := xs.length) (c := c) (i := i) (by kernel_rfl) (by kernel_rfl) hlt) ?_
    refine Wd.read p.1 (.ld none (.c (.ptr ⟨a.b, a.g, a.o + i * 1⟩))) (by kernel_rfl) (by kernel_rfl) (iop_ld (a := ⟨a.b, a.g, a.o + i * 1⟩) (by kernel_rfl) hld) ?_
    refine Wd.read (.str p.2) (.cvBS (.c p.1)) (by kernel_rfl) (by kernel_rfl) (iop_cvBS (v := p.1) (by kernel_rfl) pB) ?_
    refine Wd.pure (by kernel_rfl) (by kernel_rfl) ?_
    refine Wd.read (.sl a' ys.length c') (.ld none (.c (.ptr ⟨b2, 0, 1⟩))) (by kernel_rfl) (by kernel_rfl) (iop_ld (a := ⟨b2, 0, 1⟩) (by kernel_rfl) L2) ?_
    refine Wd.pure (by kernel_rfl) (by kernel_rfl) ?_
    refine Wd.make _ h (by kernel_rfl) (by kernel_rfl) (iop_ia (a := a') (n := ys.length) (c := c') (i := i) (by kernel_rfl) (by kernel_rfl) hlt2) ?_
    refine Wd.read q.1 (.ld none (.c (.ptr ⟨a'.b, a'.g, a'.o + i * 1⟩))) (by kernel_rfl) (by kernel_rfl) (iop_ld (a := ⟨a'.b, a'.g, a'.o + i * 1⟩) (by kernel_rfl) hld') ?_
    refine Wd.read (.str q.2) (.cvBS (.c q.1)) (by kernel_rfl) (by kernel_rfl) (iop_cvBS (v := q.1) (by kernel_rfl) qB) ?_
    refine Wd.make (.bool eb) h (by kernel_rfl) (by kernel_rfl) (iop_neStr (a := p.2) (b := q.2) eb (by kernel_rfl) (by kernel_rfl) heb.symm) ?_
    refine Wd.done (holds_of _ (by kernel_rfl) hp6) ?_
    by_cases he : p.2 = q.2
    · have : eb = false := by rw [heb]; simp [he]
      subst this
      rw [he] at hbad hgood
      refine Wp.cond false (by kernel_rfl) ?_
      refine Wp.skip ?_
      refine Wp.region ?_
      refine Wo.pre 8 (by kernel_rfl) ?_
      refine Wo.nil ?_
      exact ih (i + 1) (by omega) _ (by kernel_rfl) (by kernel_rfl) (by kernel_rfl) (by rw [← wi]; kernel_rfl) Q (fun hn => hbad (fun e => hn (List.cons.inj e).2)) (fun e => hgood (by rw [e]))
    · have : eb = true := by rw [heb]; simp [he]
      subst this
      refine Wp.cond true (by kernel_rfl) ?_
      refine Wp.seq ?_
      refine Wp.region ?_
      refine Wo.pre 8 (by kernel_rfl) ?_
      refine Wo.nil ?_
      exact Wp.ret (hbad (fun e => he (List.cons.inj e).1) _ (by kernel_rfl) (by kernel_rfl))

set_option maxHeartbeats 1000000 in
theorem rsamee_run {h : H} {v w : AV} {xs ys : List (AV × List UInt8)} (hc : Ch h v xs) (hd : Ch h w ys) (hlen : xs.length < 2 ^ 62) (t t' : Nat) : ∃ r h', Runs TF 52 [entV t v, entV t' w] h r h' ∧ r = .bool (sameE t xs t' ys) ∧ Ext h h' := by
  refine Runs.ofP f52 rfl ?_
  obtain ⟨H1, X1, n1, enew, Ld⟩ := ent_new hc t
  obtain ⟨H2, X2, n2, enew2, Ld2⟩ := ent_new (hd.ext X1) t'
  have l1 := Ld H2 X2
  have l2 := Ld2 H2 (Ext.refl _)
  have X12 := X1.trans X2
  have hc2 := hc.ext X12
  have hd2 := hd.ext X12
  by_cases ht : t = t'
  · by_cases hl : xs.length = ys.length
    · refine Wp.seq ?_
      refine Wp.region ?_
      refine Wo.val _ _ (by kernel_rfl) (enew (by kernel_rfl)) ?_
      refine Wo.val _ _ (by kernel_rfl) (enew2 (by kernel_rfl)) ?_
      refine Wo.pre 1 (by kernel_rfl) ?_
      refine Wo.nil ?_
      refine Wp.seq ?_
      refine Wp.seq ?_
      refine Wp.region ?_
      refine Wo.pre 1 (by kernel_rfl) ?_
      refine Wo.val (.int .u64 t) H2 (by kernel_rfl) (iop_ld (a := ⟨h.n, 0, 0⟩) (by kernel_rfl) l1.1) ?_
      refine Wo.pre 1 (by kernel_rfl) ?_
      refine Wo.val (.int .u64 t') H2 (by kernel_rfl) (iop_ld (a := ⟨H1.n, 0, 0⟩) (by kernel_rfl) l2.1) ?_
      refine Wo.val (.bool false) H2 (by kernel_rfl) (iop_cmp (op := .neq) (k := .u64) (a := t) (b := t') false (by kernel_rfl) (by kernel_rfl) (by simp) (by simp [binInt, ht])) ?_
      refine Wo.pre 1 (by kernel_rfl) ?_
      refine Wo.pre 1 (by kernel_rfl) ?_
      refine Wo.val v H2 (by kernel_rfl) (iop_ld (a := ⟨h.n, 0, 1⟩) (by kernel_rfl) l1.2.1) ?_
      refine Wo.val (.int .i64 xs.length) H2 (by kernel_rfl) (iop_lenS (v := v) (by kernel_rfl) hc.lenS) ?_
      refine Wo.pre 1 (by kernel_rfl) ?_
      refine Wo.val w H2 (by kernel_rfl) (iop_ld (a := ⟨H1.n, 0, 1⟩) (by kernel_rfl) l2.2.1) ?_
      refine Wo.val (.int .i64 ys.length) H2 (by kernel_rfl) (iop_lenS (v := w) (by kernel_rfl) hd.lenS) ?_
      refine Wo.val (.bool false) H2 (by kernel_rfl) (iop_cmp (op := .neq) (k := .i64) (a := xs.length) (b := ys.length) false (by kernel_rfl) (by kernel_rfl) (by simp) (by simp [binInt, hl])) ?_
      refine Wo.pre 1 (by kernel_rfl) ?_
      refine Wo.nil ?_
      refine Wp.cond false (by kernel_rfl) ?_
      refine Wp.skip ?_
      refine Wp.seq ?_
      refine Wp.seq ?_
      refine Wp.region ?_
      refine Wo.pre 1 (by kernel_rfl) ?_
      refine Wo.nil ?_
      refine Wp.block ?_
      refine rsame_loop hc2 hd2 hl hlen l1.2.1 l2.2.1 xs.length 0 (by omega) _ (by kernel_rfl) (by kernel_rfl) (by kernel_rfl) (by kernel_rfl) _ ?_ ?_
      · intro hn ts' d0 d4
        rw [laid_eq d0 [(4, .bool false)] (by simp [d4])]
        have : sameE t xs t' ys = false := by
          have hn : ¬ says xs = says ys := hn
          simp [sameE, hn]
        exact ⟨.inr rfl, .bool false, (by kernel_rfl), by rw [this], X12⟩
      · intro he ts' d0
        have he : says xs = says ys := he
        rw [laid_eq d0 [] (by simp)]
        refine Wp.seq ?_
        refine Wp.region ?_
        refine Wo.pre 8 (by kernel_rfl) ?_
        refine Wo.nil ?_
        have : sameE t xs t' ys = true := by simp [sameE, he, ht]
        exact Wp.ret ⟨.inr rfl, .bool true, (by kernel_rfl), by rw [this], X12⟩
    · have hl' : (xs.length : Int) ≠ ys.length := by omega
      have : sameE t xs t' ys = false := by
        have : ¬ says xs = says ys := fun e => hl (by rw [← says_len xs, e, says_len])
        simp [sameE, this]
      refine Wp.seq ?_
      refine Wp.region ?_
      refine Wo.val _ _ (by kernel_rfl) (enew (by kernel_rfl)) ?_
      refine Wo.val _ _ (by kernel_rfl) (enew2 (by kernel_rfl)) ?_
      refine Wo.pre 1 (by kernel_rfl) ?_
      refine Wo.nil ?_
      refine Wp.seq ?_
      refine Wp.seq ?_
      refine Wp.region ?_
      refine Wo.pre 1 (by kernel_rfl) ?_
      refine Wo.val (.int .u64 t) H2 (by kernel_rfl) (iop_ld (a := ⟨h.n, 0, 0⟩) (by kernel_rfl) l1.1) ?_
      refine Wo.pre 1 (by kernel_rfl) ?_
      refine Wo.val (.int .u64 t') H2 (by kernel_rfl) (iop_ld (a := ⟨H1.n, 0, 0⟩) (by kernel_rfl) l2.1) ?_
      refine Wo.val (.bool false) H2 (by kernel_rfl) (iop_cmp (op := .neq) (k := .u64) (a := t) (b := t') false (by kernel_rfl) (by kernel_rfl) (by simp) (by simp [binInt, ht])) ?_
      refine Wo.pre 1 (by kernel_rfl) ?_
      refine Wo.pre 1 (by kernel_rfl) ?_
      refine Wo.val v H2 (by kernel_rfl) (iop_ld (a := ⟨h.n, 0, 1⟩) (by kernel_rfl) l1.2.1) ?_
      refine Wo.val (.int .i64 xs.length) H2 (by kernel_rfl) (iop_lenS (v := v) (by kernel_rfl) hc.lenS) ?_
      refine Wo.pre 1 (by kernel_rfl) ?_
      refine Wo.val w H2 (by kernel_rfl) (iop_ld (a := ⟨H1.n, 0, 1⟩) (by kernel_rfl) l2.2.1) ?_
      refine Wo.val (.int .i64 ys.length) H2 (by kernel_rfl) (iop_lenS (v := w) (by kernel_rfl) hd.lenS) ?_
      refine Wo.val (.bool true) H2 (by kernel_rfl) (iop_cmp (op := .neq) (k := .i64) (a := xs.length) (b := ys.length) true (by kernel_rfl) (by kernel_rfl) (by simp) (by simp only [binInt]; rw [bne_iff_ne.2 hl'])) ?_
      refine Wo.pre 1 (by kernel_rfl) ?_
      refine Wo.nil ?_
      refine Wp.cond true (by kernel_rfl) ?_
      refine Wp.seq ?_
      refine Wp.region ?_
      refine Wo.pre 1 (by kernel_rfl) ?_
      refine Wo.nil ?_
      exact Wp.ret ⟨.inr rfl, .bool false, (by kernel_rfl), by rw [this], X12⟩
  · have ht' : (t : Int) ≠ t' := by omega
    have : sameE t xs t' ys = false := by simp [sameE, ht]
    refine Wp.seq ?_
    refine Wp.region ?_
    refine Wo.val _ _ (by kernel_rfl) (enew (by kernel_rfl)) ?_
    refine Wo.val _ _ (by kernel_rfl) (enew2 (by kernel_rfl)) ?_
    refine Wo.pre 1 (by kernel_rfl) ?_
    refine Wo.nil ?_
    refine Wp.seq ?_
    refine Wp.seq ?_
    refine Wp.region ?_
    refine Wo.pre 1 (by kernel_rfl) ?_
    refine Wo.val (.int .u64 t) H2 (by kernel_rfl) (iop_ld (a := ⟨h.n, 0, 0⟩) (by kernel_rfl) l1.1) ?_
    refine Wo.pre 1 (by kernel_rfl) ?_
    refine Wo.val (.int .u64 t') H2 (by kernel_rfl) (iop_ld (a := ⟨H1.n, 0, 0⟩) (by kernel_rfl) l2.1) ?_
    refine Wo.val (.bool true) H2 (by kernel_rfl) (iop_cmp (op := .neq) (k := .u64) (a := t) (b := t') true (by kernel_rfl) (by kernel_rfl) (by simp) (by simp only [binInt]; rw [bne_iff_ne.2 ht'])) ?_
    refine Wo.pre 1 (by kernel_rfl) ?_
    refine Wo.pre 1 (by kernel_rfl) ?_
    refine Wo.pre 1 (by kernel_rfl) ?_
    refine Wo.pre 1 (by kernel_rfl) ?_
    refine Wo.pre 1 (by kernel_rfl) ?_
    refine Wo.pre 1 (by kernel_rfl) ?_
    refine Wo.pre 1 (by kernel_rfl) ?_
    refine Wo.pre 1 (by kernel_rfl) ?_
    refine Wo.pre 1 (by kernel_rfl) ?_
    refine Wo.nil ?_
    refine Wp.cond true (by kernel_rfl) ?_
    refine Wp.seq ?_
    refine Wp.region ?_
    refine Wo.pre 1 (by kernel_rfl) ?_
    refine Wo.nil ?_
    exact Wp.ret ⟨.inr rfl, .bool false, (by kernel_rfl), by rw [this], X12⟩
end Go.Det

/- Rows that are spoiled: entries' laws. -/
set_option linter.unusedVariables false
set_option linter.unusedSimpArgs false
set_option linter.unusedSectionVars false
namespace Go.Det
open Go.Proofs
attribute [local simp] skip_iff ret_iff exit_iff seq_iff block_iff thenQ_normal thenQ_ret thenQ_exit thenQ_goto blockQ_normal blockQ_ret blockQ_exit blockQ_goto condQ_bool cond_iff region_iff wo_nil ansQ_val ansQ_call wo_cons wo_guard wanted put setL getL ev iop binop binInt shInt asI retV resOf unop
attribute [local congr] ansQ_congr condQ_congr Wo_congr Wp_congr

theorem spoil53_1 {blk g n : Nat} (hn : n ≤ maxRow) :
    ∀ (k i : Nat), i + k = n → ∀ (h : H) (ts : List AV) (x : AV), ts.length = 24 → getL ts 3 = some x → getL ts 12 = some (.int .i64 n) → getL ts 13 = some (.int .i64 i) →
      (n = 0 ∨ ((∃ cc, x = .sl ⟨blk, g, 0⟩ n cc) ∧ ∃ r : List UInt8, r.length = n ∧ h.get blk = some (.cells g 5 (bytesAV r) 0 false))) →
      ∀ (Q : Ex → St → Prop), (∀ ts' h', ts'.length = 24 → (∀ j, j < 12 → j ≠ 4 → getL ts' j = getL ts j) → h'.n = h.n → (∀ b, b ≠ blk → h'.get b = h.get b) → (n = 0 ∨ ∃ r : List UInt8, r.length = n ∧ h'.get blk = some (.cells g 5 (bytesAV r) 0 false)) → (n = 0 → h' = h) → Q (.exit 2) (ts', h')) → Wp TF (.loop l53_1) (ts, h) Q := by
  have hmx : maxRow < 2 ^ 62 := by decide
  intro k
  induction k with
  | zero =>
    intro i hi h ts x t0 tx tl ti hx Q hQ
    obtain rfl : i = n := by omega
    refine Wp.loop ?_
    simp [l53_1, t0, tl, ti, getL_put, len_put]
    refine hQ _ _ (by simp [t0, len_put]) (fun j hj hk => ?_) rfl (fun _ _ => rfl) (hx.imp id (fun y => y.2)) (fun _ => rfl)
    repeat rw [getL_ne _ _ (by omega)]
  | succ k ih =>
    intro i hi h ts x t0 tx tl ti hx Q hQ
    refine Wp.loop ?_
    obtain ⟨⟨cc, rfl⟩, r, hr, hg⟩ := hx.resolve_left (by omega)
    have hlt : i < n := by omega
    obtain ⟨c, hc⟩ : ∃ c, r[i]? = some c := ⟨r[i]'(by omega), by simp [hr, hlt]⟩
    have hld : h.ldg ⟨blk, g, i⟩ none = some (.int .u8 c.toNat) := by simp [H.ldg, H.ld, H.row, hg, get_byte, hc]
    have w1 : IntKind.i64.wrap ((i : Int) + 1) = (i : Int) + 1 := i64_fit _ (by omega)
    simp only [l53_1]
    simp [t0, tx, tl, ti, getL_put, len_put, hlt, hld, IntKind.bits, wrap_u8, AV.cells, st_byte hg (k := i) (by omega)]
    refine ih (i + 1) (by omega) _ _ _ (by simp [t0, len_put]) (by simp [tx, getL_put]) (by simp [tl, getL_put]) (by simp [t0, getL_put, len_put, w1]) (.inr ⟨⟨cc, rfl⟩, ⟨_, ?hl, h.get_set _ _⟩⟩) Q ?_
    case hl => rw [List.length_set, hr]
    intro ts' h' g1 g2 g3 g4 g5 g6
    refine hQ ts' h' g1 (fun j hj hk => ?_) (by rw [g3]; rfl) (fun b hb => by rw [g4 b hb, h.get_set_ne _ b _ hb]) g5 (fun e => by omega)
    rw [g2 j hj hk]
    repeat rw [getL_ne _ _ (by omega)]

end Go.Det

/- Entries: one in new memory; rows that are spoiled. -/
set_option linter.unusedVariables false
set_option linter.unusedSimpArgs false
set_option linter.unusedSectionVars false
namespace Go.Det
open Go.Proofs
attribute [local irreducible] Wp Wo Wd iop ev slots quiets wanted put

/-- A chain of its own, its rows too. -/
structure OwnCh (lo : Nat) (h : H) (v : AV) (ys : List (AV × List UInt8)) : Prop where
  row : OwC 22 1 lo h v (ys.map (·.1)) ys.length
  el : ∀ p ∈ ys, Ow lo h p.1 p.2

theorem OwnCh.ch {lo : Nat} {h : H} {v : AV} {ys : List (AV × List UInt8)} (o : OwnCh lo h v ys) : Ch h v ys := by
  refine ⟨?_, fun p hp => ⟨(o.el p hp).bs, (o.el p hp).cok⟩, ?_⟩
  · rcases o.row with ⟨h1, _, h2⟩ | ⟨b, g, h1, h2, h3, h4, h5⟩
    · exact .inl ⟨h1, List.length_eq_zero_iff.1 h2⟩
    · refine .inr ⟨⟨b, g, 0⟩, .op 1, h4, h2, ?_⟩
      unfold H.ldn H.row
      simp only [h3, BEq.rfl, Bool.not_false, Bool.true_or, Bool.and_self, if_true]
      have : ys.length = (ys.map (·.1)).length := by simp
      rw [this]
      exact cut_all _
  · rintro a m c e
    rcases o.row with ⟨h1, _⟩ | ⟨b, g, _, _, _, h4, _⟩
    · rw [h1] at e; simp at e
    · rw [h4] at e; simp only [AV.sl.injEq] at e; exact .inr e.2.2.symm

theorem OwnCh.ext {lo : Nat} {h h' : H} {v : AV} {ys : List (AV × List UInt8)} (o : OwnCh lo h v ys) (hx : Ext h h') : OwnCh lo h' v ys :=
  ⟨o.row.ext hx.1 (fun b _ _ _ h2 _ => hx.2 b h2), fun p hp => (o.el p hp).ext hx⟩

set_option maxHeartbeats 1000000 in
theorem owne_loop {h0 : H} {v : AV} {xs : List (AV × List UInt8)} {blk rb : Nat} (hc : Ch h0 v xs) (hx : ∀ p ∈ xs, p.2.length ≤ maxRow) (hlen : xs.length * 24 ≤ 140737488355328) (L : ∀ q, Ext h0 q → q.ldg ⟨blk, 0, 1⟩ none = some v) :
    ∀ (k i : Nat), i + k = xs.length → ∀ (h : H) (lV : AV) (ys : List (AV × List UInt8)) (ts : List AV), Ext h0 h → OwnCh h0.n h lV ys → says ys = says (xs.take i) → ys.length = i → ts.length = 27 → getL ts 1 = some (.ptr ⟨blk, 0, 0⟩) → getL ts 2 = some (.ptr ⟨rb, 0, 0⟩) → getL ts 3 = some lV → getL ts 4 = some (.int .i64 i) →
      ∀ (Q : Ex → St → Prop), (∀ ts' h' lV ys, Ext h0 h' → OwnCh h0.n h' lV ys → says ys = says xs → ts'.length = 27 → getL ts' 1 = some (.ptr ⟨blk, 0, 0⟩) → getL ts' 2 = some (.ptr ⟨rb, 0, 0⟩) → getL ts' 3 = some lV → Q (.exit 0) (ts', h')) → Wp TF (.loop l40_1) (ts, h) Q := by
  have hmx : 200000000000000 = maxRow := rfl
  intro k
  induction k with
  | zero =>
    intro i hi h lV ys ts hE hO hsy hyl t0 t1 t2 t3 t4 Q hQ
    obtain rfl : i = xs.length := by omega
    rw [List.take_length] at hsy
    refine Wp.loop ?_
    rw [laid_eq t0 [(1, .ptr ⟨blk, 0, 0⟩), (2, .ptr ⟨rb, 0, 0⟩), (3, lV), (4, .int .i64 xs.length)] (by simp [t1, t2, t3, t4])]
    unfold l40_1
    refine Wp.seq ?_
    refine Wp.seq ?_
    refine Wp.region ?_
    refine Wo.pre 1 (by kernel_rfl) ?_
    refine Wo.pre 1 (by kernel_rfl) ?_
    refine Wo.val v h (by kernel_rfl) (iop_ld (a := ⟨blk, 0, 1⟩) (by kernel_rfl) (L h hE)) ?_
    refine Wo.val (.int .i64 xs.length) h (by kernel_rfl) (iop_lenS (v := v) (by kernel_rfl) hc.lenS) ?_
    refine Wo.val (.bool false) h (by kernel_rfl) (iop_cmp (op := .lss) (k := .i64) (a := xs.length) (b := xs.length) false (by kernel_rfl) (by kernel_rfl) (by simp) (by simp [binInt])) ?_
    refine Wo.nil ?_
    refine Wp.cond false (by kernel_rfl) ?_
    exact Wp.exit (hQ _ _ lV ys hE hO hsy (by kernel_rfl) (by kernel_rfl) (by kernel_rfl) (by kernel_rfl))
  | succ k ih =>
    intro i hi h lV ys ts hE hO hsy hyl t0 t1 t2 t3 t4 Q hQ
    have hlt : i < xs.length := by omega
    obtain ⟨p, hp⟩ : ∃ p, xs[i]? = some p := ⟨xs[i], List.getElem?_eq_getElem hlt⟩
    have hps := hx p (List.mem_of_getElem? hp)
    have hB := ((hc.el p (List.mem_of_getElem? hp)).1).ext hE
    have hls := hc.lenS
    obtain ⟨a, q, rfl, hld⟩ := (hc.ext hE).at hp
    have wi : IntKind.i64.wrap ((i : Int) + 1) = ((i + 1 : Nat) : Int) := by rw [i64_fit _ (by omega)]; omega
    have n0 := hE.1
    obtain ⟨c', H1, a1, w1, Y1, Z1⟩ := Ow.app (lo := h0.n) (h := h) (x := .nils) (l := []) (.inl ⟨rfl, rfl⟩) hB n0 (by simpa using hps)
    rw [List.nil_append] at w1
    have X1 : Ext h H1 := ⟨Y1.1, fun b hb => Z1 b hb (fun _ _ _ e => by simp at e)⟩
    have hc1 := w1.bs.parts
    have O1 := hO.ext X1
    have n1 := X1.1
    have fit : fits (ys.length + 1) 24 = true := by
      simp only [fits, Bool.and_eq_true, decide_eq_true_eq]; omega
    obtain ⟨H2, hH2⟩ : ∃ H2, H2 = H1.new (.cells 0 22 [c'] 0 false) := ⟨_, rfl⟩
    obtain ⟨l', H3, a3, o3, n3, k3⟩ := O1.row.app (by omega) (new := [c']) rfl (by simp [hc1.2.1]) fit (by omega) H2 hH2
    have bslc : ∀ {y : IX} {ρ : IX → AV}, ρ y = c' → iop (.bsl 22 [.nils] 1 [(0, 1, y)]) ρ H1 = some (.val (.sl ⟨H1.n, 0, 0⟩ 1 (.ex 1)) H2) := by
      intro y ρ hy
      simp [iop, fillL, hy, hc1.1, hc1.2.1, putAt, ← hH2]
    have kp : ∀ b g c, h0.n ≤ b → b < H1.n → H1.get b = some (.cells g 5 c 0 false) → H3.get b = H1.get b := fun b g c h1 h2 h3 => k3 b h2 (.inr (fun g c e => by rw [h3] at e; simp at e))
    have E3 : Ext h0 H3 := ⟨by omega, fun b hb => by rw [k3 b (by omega) (.inl hb), X1.2 b (by omega)]; exact hE.2 b hb⟩
    have O3 : OwnCh h0.n H3 l' (ys ++ [(c', p.2)]) := by
      refine ⟨by rw [List.map_append, List.length_append]; exact o3, fun r hr => ?_⟩
      rcases List.mem_append.1 hr with hr | hr
      · exact (O1.el r hr).keep n3 kp
      · simp only [List.mem_cons, List.not_mem_nil, or_false] at hr
        subst hr
        exact w1.keep n3 kp
    have hsy' : says (ys ++ [(c', p.2)]) = says (xs.take (i + 1)) := by
      rw [take_step hp]
      simp only [says, List.map_append] at hsy ⊢
      rw [hsy]
      rfl
    refine Wp.loop ?_
    rw [laid_eq t0 [(1, .ptr ⟨blk, 0, 0⟩), (2, .ptr ⟨rb, 0, 0⟩), (3, lV), (4, .int .i64 i)] (by simp [t1, t2, t3, t4])]
    unfold l40_1
    refine Wp.seq ?_
    refine Wp.seq ?_
    refine Wp.region ?_
    refine Wo.pre 1 (by kernel_rfl) ?_
    refine Wo.pre 1 (by kernel_rfl) ?_
    refine Wo.val (.sl a xs.length q) h (by kernel_rfl) (iop_ld (a := ⟨blk, 0, 1⟩) (by kernel_rfl) (L h hE)) ?_
    refine Wo.val (.int .i64 xs.length) h (by kernel_rfl) (iop_lenS (v := .sl a xs.length q) (by kernel_rfl) hls) ?_
    refine Wo.val (.bool true) h (by kernel_rfl) (iop_cmp (op := .lss) (k := .i64) (a := i) (b := xs.length) true (by kernel_rfl) (by kernel_rfl) (by simp) (by simp [binInt]; omega)) ?_
    refine Wo.nil ?_
    refine Wp.cond true (by kernel_rfl) ?_
    refine Wp.skip ?_
    refine Wp.seq ?_
    refine Wp.block ?_
    refine Wp.seq ?_
    refine Wp.region ?_
    refine Wo.pre 1 (by kernel_rfl) ?_
    refine Wo.nil ?_
    refine Wp.region ?_
    refine Wo.pre 1 (by kernel_rfl) ?_
    refine Wo.pre 1 (by kernel_rfl) ?_
    refine Wo.pre 1 (by kernel_rfl) ?_
    refine Wo.val (.sl a xs.length q) h (by kernel_rfl) (iop_ld (a := ⟨blk, 0, 1⟩) (by kernel_rfl) (L h hE)) ?_
    refine Wo.pre 1 (by kernel_rfl) ?_
    refine Wo.val _ h (by kernel_rfl) (iop_ia (a := a) (n := xs.length) (c := q) (i := i) (by kernel_rfl) (by kernel_rfl) hlt) ?_
    refine Wo.val p.1 h (by kernel_rfl) (iop_ld (a := ⟨a.b, a.g, a.o + i * 1⟩) (by kernel_rfl) hld) ?_
    refine Wo.val c' H1 (by kernel_rfl) (iop_app (v := .nils) (w := p.1) (by kernel_rfl) (by kernel_rfl) hB.parts.2.2 a1) ?_
    refine Wo.val _ H2 (by kernel_rfl) (bslc (by kernel_rfl)) ?_
    refine Wo.val l' H3 (by kernel_rfl) (iop_appG (v := lV) (w := .sl ⟨H1.n, 0, 0⟩ 1 (.ex 1)) (by kernel_rfl) (by kernel_rfl) rfl a3) ?_
    refine Wo.pre 1 (by kernel_rfl) ?_
    refine Wo.nil ?_
    refine Wp.region ?_
    refine Wo.pre 1 (by kernel_rfl) ?_
    refine Wo.pre 1 (by kernel_rfl) ?_
    refine Wo.pre 1 (by kernel_rfl) ?_
    refine Wo.nil ?_
    exact ih (i + 1) (by omega) H3 l' _ _ E3 O3 hsy' (by rw [List.length_append, hyl]; rfl) (by kernel_rfl) (by kernel_rfl) (by kernel_rfl) (by kernel_rfl) (by rw [← wi]; kernel_rfl) Q hQ

theorem retS {ts : List AV} {h : H} {k ag : Nat} {a : AA} {v : AV} (LA : h.ldg a (some ag) = some v) (h1 : getL ts k = some (.ptr a)) : retV h ts [(k, some (some ag))] = some v := by
  simp [retV, resOf, iop, ev, h1, LA]

theorem owne_run {h : H} {v : AV} {xs : List (AV × List UInt8)} (hc : Ch h v xs) (hx : ∀ p ∈ xs, p.2.length ≤ maxRow) (hlen : xs.length * 24 ≤ 140737488355328) (t : Nat) : ∃ r h', Runs TF 40 [entV t v] h r h' ∧ ∃ v' ys, r = entV t v' ∧ Ext h h' ∧ OwnCh h.n h' v' ys ∧ says ys = says xs := by
  refine Runs.ofP f40 rfl ?_
  obtain ⟨H1, X1, n1, enew, Ld⟩ := ent_new hc t
  obtain ⟨H2, hH2⟩ : ∃ H2, H2 = H1.new (.cells 0 70 [.int .u64 0, .nils] 0 false) := ⟨_, rfl⟩
  have X2 : Ext H1 H2 := by rw [hH2]; exact Ext.new _ _
  have g2 : H2.get H1.n = some (.cells 0 70 [.int .u64 0, .nils] 0 false) := by rw [hH2]; exact H1.get_new _
  have n2 : H1.n < H2.n := by rw [hH2]; simp
  have en2 : ∀ ts, iop (.new 70 (.c (.agg [.int .u64 0, .nils]))) (ev ts) H1 = some (.val (.ptr ⟨H1.n, 0, 0⟩) H2) := fun ts => by rw [hH2]; exact iop_new (by kernel_rfl) rfl
  have X12 := X1.trans X2
  have m1 := X1.1
  refine Wp.seq ?_
  refine Wp.region ?_
  refine Wo.val _ _ (by kernel_rfl) (enew (by kernel_rfl)) ?_
  refine Wo.val _ _ (by kernel_rfl) (en2 _) ?_
  refine Wo.nil ?_
  refine Wp.seq ?_
  refine Wp.region ?_
  refine Wo.pre 8 (by kernel_rfl) ?_
  refine Wo.nil ?_
  refine Wp.seq ?_
  refine Wp.seq ?_
  refine Wp.region ?_
  refine Wo.pre 8 (by kernel_rfl) ?_
  refine Wo.nil ?_
  refine Wp.block ?_
  refine owne_loop (blk := h.n) (rb := H1.n) (hc.ext X12) hx hlen (fun q hq => (Ld q (X2.trans hq)).2.1) xs.length 0 (by omega) H2 .nils [] _ (Ext.refl _) ⟨.inl ⟨rfl, rfl, rfl⟩, fun p hp => by simp at hp⟩ (by simp [says]) rfl (by kernel_rfl) (by kernel_rfl) (by kernel_rfl) (by kernel_rfl) (by kernel_rfl) _ ?_
  intro ts' H3 lV ys hE hO hsy d0 d1 d2 d3
  rw [laid_eq d0 [(1, .ptr ⟨h.n, 0, 0⟩), (2, .ptr ⟨H1.n, 0, 0⟩), (3, lV)] (by simp [d1, d2, d3])]
  have l3 := Ld H3 (X2.trans hE)
  have hlp := hO.ch.parts
  have g3 : H3.get H1.n = some (.cells 0 70 [.int .u64 0, .nils] 0 false) := by rw [hE.2 _ n2]; exact g2
  obtain ⟨H4, hH4⟩ : ∃ H4, H4 = H3.set H1.n (.cells 0 70 [.int .u64 t, lV] 0 false) := ⟨_, rfl⟩
  have st : H3.st ⟨H1.n, 0, 0⟩ [.int .u64 t, lV] = some H4 := by
    have o3 : ∀ k i, (AV.int k i).one = true := fun _ _ => rfl
    unfold H.st
    simp only [g3]
    rw [if_pos (by simp [hlp.2.1, o3]), hH4]
    rfl
  have g4 : H4.get H1.n = some (.cells 0 70 [.int .u64 t, lV] 0 false) := by rw [hH4, H3.get_set]
  have kp : ∀ b, b ≠ H1.n → H4.get b = H3.get b := fun b hb => by rw [hH4, H3.get_set_ne _ b _ hb]
  have n4 : H4.n = H3.n := by rw [hH4]; rfl
  have eb : ∀ {x y : IX} {ρ : IX → AV}, ρ x = .int .u64 t → ρ y = lV → iop (.build [.int .u64 0, .nils] [(0, 1, x), (1, 1, y)]) ρ H3 = some (.val (.agg [.int .u64 t, lV]) H3) := by
    intro x y ρ hx hy
    have o : (AV.int .u64 (t : Int)).cells = [.int .u64 t] := rfl
    simp [iop, fillL, hx, hy, hlp.1, o, putAt]
  refine Wp.seq ?_
  refine Wp.region ?_
  refine Wo.pre 1 (by kernel_rfl) ?_
  refine Wo.val (.int .u64 t) H3 (by kernel_rfl) (iop_ld (a := ⟨h.n, 0, 0⟩) (by kernel_rfl) l3.1) ?_
  refine Wo.pre 1 (by kernel_rfl) ?_
  refine Wo.val (.agg [.int .u64 t, lV]) H3 (by kernel_rfl) (eb (by kernel_rfl) (by kernel_rfl)) ?_
  refine Wo.val .undef H4 (by kernel_rfl) (iop_stA (a := ⟨H1.n, 0, 0⟩) (cs := [.int .u64 t, lV]) (by kernel_rfl) (by kernel_rfl) rfl st) ?_
  refine Wo.nil ?_
  have LA : H4.ldg ⟨H1.n, 0, 0⟩ (some 2) = some (entV t lV) := by simp [H.ldg, H.ldn, H.row, g4, cut, entV]
  have e3 := hE.1
  refine Wp.ret ⟨.inr rfl, entV t lV, retS LA (by kernel_rfl), lV, ys, rfl, ⟨by show h.n ≤ H4.n; omega, fun b hb => ?_⟩, ⟨?_, fun p hp => ?_⟩, hsy⟩
  · show H4.get b = h.get b
    rw [kp b (by omega), hE.2 b (by omega)]; exact X12.2 b hb
  · rcases hO.row with h0 | ⟨b, g, q1, q2, q3, q4⟩
    · exact .inl h0
    · exact .inr ⟨b, g, by omega, by show b < H4.n; omega, by rw [kp b (by omega)]; exact q3, q4⟩
  · rcases hO.el p hp with h0 | ⟨b, g, q1, q2, q3, q4⟩
    · exact .inl h0
    · exact .inr ⟨b, g, by omega, by show b < H4.n; omega, by rw [kp b (by omega)]; exact q3, q4⟩
end Go.Det

/- Entries' laws: rows are spoiled. -/
set_option linter.unusedVariables false
set_option linter.unusedSimpArgs false
set_option linter.unusedSectionVars false
namespace Go.Det
open Go.Proofs
attribute [local irreducible] Wp Wo Wd iop ev slots quiets wanted put

/-- Rows of bytes from lo on may be other bytes; all else stands. -/
def Spoilt (lo : Nat) (h h' : H) : Prop := h'.n = h.n ∧ ∀ b, (b < lo ∨ ∀ g c, h.get b ≠ some (.cells g 5 c 0 false)) → h'.get b = h.get b

theorem spoil_step {h0 h : H} {lo : Nat} {rs : List (AV × List UInt8)} {p : AV × List UInt8} {l' : List UInt8} (hS : Spoilt lo h0 h) (hr : ∀ p ∈ rs, ∃ l', l'.length = p.2.length ∧ Ow lo h p.1 l') (hl : l'.length = p.2.length) (ho : Ow lo h p.1 l') :
    ∃ blk g, (l'.length = 0 ∨ ((∃ cc, p.1 = .sl ⟨blk, g, 0⟩ l'.length cc) ∧ ∃ r : List UInt8, r.length = l'.length ∧ h.get blk = some (.cells g 5 (bytesAV r) 0 false))) ∧
      ∀ h1 : H, h1.n = h.n → (∀ b, b ≠ blk → h1.get b = h.get b) → (l'.length = 0 ∨ ∃ r : List UInt8, r.length = l'.length ∧ h1.get blk = some (.cells g 5 (bytesAV r) 0 false)) → (l'.length = 0 → h1 = h) → Spoilt lo h0 h1 ∧ ∀ p ∈ rs, ∃ l', l'.length = p.2.length ∧ Ow lo h1 p.1 l' := by
  by_cases hz : l'.length = 0
  · exact ⟨0, 0, .inl hz, fun h1 _ _ _ e => by rw [e hz]; exact ⟨hS, hr⟩⟩
  · rcases ho with ⟨_, rfl⟩ | ⟨b, g, h1, h2, h3, h4⟩
    · exact absurd rfl hz
    refine ⟨b, g, .inr ⟨by rcases h4 with e | e <;> exact ⟨_, e⟩, l', rfl, h3⟩, fun k e1 e2 e3 e4 => ?_⟩
    obtain ⟨r, hr1, hr2⟩ := e3.resolve_left hz
    refine ⟨⟨by rw [e1]; exact hS.1, fun c hc => ?_⟩, fun q hq => ?_⟩
    · by_cases hcb : c = b
      · subst hcb
        rcases hc with hc | hc
        · omega
        · exact absurd (by rw [← hS.2 c (.inr hc)]; exact h3) (hc g (bytesAV l'))
      · rw [e2 c hcb]; exact hS.2 c hc
    · obtain ⟨m, hm, oq⟩ := hr q hq
      rcases oq with h0' | ⟨c, gc, w1, w2, w3, w4⟩
      · exact ⟨m, hm, .inl h0'⟩
      · by_cases hcb : c = b
        · subst hcb
          have e5 := h3.symm.trans w3
          simp only [Option.some.injEq, Blk.cells.injEq, and_true, true_and] at e5
          have e6 : r.length = m.length := by
            have := congrArg List.length e5.2
            simp only [bytes_len] at this
            omega
          refine ⟨r, by omega, .inr ⟨c, gc, w1, by omega, by rw [← e5.1]; exact hr2, ?_⟩⟩
          rw [e6]; exact w4
        · exact ⟨m, hm, .inr ⟨c, gc, w1, by omega, by rw [e2 c hcb]; exact w3, w4⟩⟩

set_option maxHeartbeats 1000000 in
theorem spoil_loop {h0 : H} {lo sbk : Nat} {rs : List (AV × List UInt8)} (hg : h0.get sbk = some (.cells 0 22 (rs.map (·.1)) 0 false)) (hlen : rs.length < 2 ^ 62) (hm : ∀ p ∈ rs, p.2.length ≤ maxRow) :
    ∀ (k i : Nat), i + k = rs.length → ∀ (h : H) (ts : List AV), Spoilt lo h0 h → (∀ p ∈ rs, ∃ l', l'.length = p.2.length ∧ Ow lo h p.1 l') → ts.length = 24 → getL ts 5 = some (.sl ⟨sbk, 0, 0⟩ rs.length (.ex rs.length)) → getL ts 6 = some (.int .i64 rs.length) → getL ts 7 = some (.int .i64 i) →
      ∀ (Q : Ex → St → Prop), (∀ ts' h', ts'.length = 24 → Spoilt lo h0 h' → Q (.exit 0) (ts', h')) → Wp TF (.loop l53_2) (ts, h) Q := by
  intro k
  induction k with
  | zero =>
    intro i hi h ts hS hr t0 t5 t6 t7 Q hQ
    obtain rfl : i = rs.length := by omega
    refine Wp.loop ?_
    rw [laid_eq t0 [(5, .sl ⟨sbk, 0, 0⟩ rs.length (.ex rs.length)), (6, .int .i64 rs.length), (7, .int .i64 rs.length)] (by simp [t5, t6, t7])]
    unfold l53_2
    refine Wp.seq ?_
    refine Wp.region ?_
    refine Wo.val (.bool false) h (by kernel_rfl) (iop_cmp (op := .lss) (k := .i64) (a := rs.length) (b := rs.length) false (by kernel_rfl) (by kernel_rfl) (by simp) (by simp [binInt])) ?_
    refine Wo.nil ?_
    refine Wp.seq ?_
    refine Wp.cond false (by kernel_rfl) ?_
    exact Wp.exit (hQ _ _ (by kernel_rfl) hS)
  | succ k ih =>
    intro i hi h ts hS hr t0 t5 t6 t7 Q hQ
    have hlt : i < rs.length := by omega
    obtain ⟨p, hp⟩ : ∃ p, rs[i]? = some p := ⟨rs[i], List.getElem?_eq_getElem hlt⟩
    obtain ⟨l', hl', ho⟩ := hr p (List.mem_of_getElem? hp)
    have hpm := hm p (List.mem_of_getElem? hp)
    have hgh : h.get sbk = some (.cells 0 22 (rs.map (·.1)) 0 false) := by rw [hS.2 sbk (.inr (fun g c e => by rw [hg] at e; simp at e))]; exact hg
    have hld : h.ldg ⟨sbk, 0, 0 + i * 1⟩ none = some p.1 := by simp [H.ldg, H.ld, H.row, hgh, getL_eq, hp]
    have hmx : maxRow < 2 ^ 62 := by decide
    have wi : IntKind.i64.wrap ((i : Int) + 1) = ((i + 1 : Nat) : Int) := by rw [i64_fit _ (by omega)]; omega
    refine Wp.loop ?_
    rw [laid_eq t0 [(5, .sl ⟨sbk, 0, 0⟩ rs.length (.ex rs.length)), (6, .int .i64 rs.length), (7, .int .i64 i)] (by simp [t5, t6, t7])]
    unfold l53_2
    refine Wp.seq ?_
    refine Wp.region ?_
    refine Wo.val (.bool true) h (by kernel_rfl) (iop_cmp (op := .lss) (k := .i64) (a := i) (b := rs.length) true (by kernel_rfl) (by kernel_rfl) (by simp) (by simp [binInt]; omega)) ?_
    refine Wo.nil ?_
    refine Wp.seq ?_
    refine Wp.cond true (by kernel_rfl) ?_
    refine Wp.skip ?_
    refine Wp.seq ?_
    refine Wp.block ?_
    refine Wp.seq ?_
    refine Wp.region ?_
    refine Wo.val _ h (by kernel_rfl) (iop_ia (a := ⟨sbk, 0, 0⟩) (n := rs.length) (c := .ex rs.length) (i := i) (by kernel_rfl) (by kernel_rfl) hlt) ?_
    refine Wo.val p.1 h (by kernel_rfl) (iop_ld (a := ⟨sbk, 0, 0 + i * 1⟩) (by kernel_rfl) hld) ?_
    refine Wo.pre 1 (by kernel_rfl) ?_
    refine Wo.nil ?_
    refine Wp.seq ?_
    refine Wp.region ?_
    refine Wo.pre 1 (by kernel_rfl) ?_
    refine Wo.val (.int .i64 l'.length) h (by kernel_rfl) ((ho.bs.len (by kernel_rfl))) ?_
    refine Wo.pre 1 (by kernel_rfl) ?_
    refine Wo.nil ?_
    refine Wp.block ?_
    obtain ⟨blk, g, hsx, hst⟩ := spoil_step hS hr hl' ho
    refine spoil53_1 (n := l'.length) (by omega) l'.length 0 (by omega) h _ p.1 (by kernel_rfl) (by kernel_rfl) (by kernel_rfl) (by kernel_rfl) hsx _ ?_
    intro ts1 h1 g0 g1 g2 g3 g4 g5
    obtain ⟨hS1, hr1⟩ := hst h1 g2 g3 g4 g5
    rw [laid_eq g0 [(5, .sl ⟨sbk, 0, 0⟩ rs.length (.ex rs.length)), (6, .int .i64 rs.length), (7, .int .i64 i)] (by intro p hp; simp only [List.mem_cons, List.not_mem_nil, or_false] at hp; rcases hp with rfl | rfl | rfl <;> (rw [g1 _ (by show _ < _; omega) (by show _ ≠ _; omega)]; kernel_rfl))]
    refine Wp.region ?_
    refine Wo.pre 8 (by kernel_rfl) ?_
    refine Wo.nil ?_
    refine ih (i + 1) (by omega) h1 _ hS1 hr1 (by kernel_rfl) (by kernel_rfl) (by kernel_rfl) (by rw [← wi]; kernel_rfl) Q hQ

theorem spoile_run {h : H} {sbk lo : Nat} {rs : List (AV × List UInt8)} (hg : h.get sbk = some (.cells 0 22 (rs.map (·.1)) 0 false)) (hlen : rs.length < 2 ^ 62) (hm : ∀ p ∈ rs, p.2.length ≤ maxRow) (ho : ∀ p ∈ rs, Ow lo h p.1 p.2) :
    ∃ r h', Runs TF 53 [.sl ⟨sbk, 0, 0⟩ rs.length (.ex rs.length)] h r h' ∧ Spoilt lo h h' := by
  refine Runs.ofP f53 rfl ?_
  refine Wp.seq ?_
  refine Wp.region ?_
  refine Wo.pre 1 (by kernel_rfl) ?_
  refine Wo.pre 1 (by kernel_rfl) ?_
  refine Wo.pre 1 (by kernel_rfl) ?_
  refine Wo.nil ?_
  refine Wp.block ?_
  refine spoil_loop hg hlen hm rs.length 0 (by omega) h _ ⟨rfl, fun _ _ => rfl⟩ (fun p hp => ⟨p.2, rfl, ho p hp⟩) (by kernel_rfl) (by kernel_rfl) (by kernel_rfl) (by kernel_rfl) _ ?_
  intro ts' h' t0 hS
  exact ⟨.inl rfl, _, rfl, hS⟩
end Go.Det

/- The law EntryMakes. -/
set_option linter.unusedVariables false
set_option linter.unusedSimpArgs false
set_option linter.unusedSectionVars false
namespace Go.Det
open Go.Proofs
attribute [local irreducible] Wp Wo Wd iop ev slots quiets wanted put

/-- A block of two cells, made and filled. -/
theorem made2 {h : H} (ty : Nat) {z1 z2 x y : AV} (hz : ([z1, z2] : List AV).all AV.one = true) (hx : x.one = true) (hy : y.one = true) :
    ∃ H1 H2, Ext h H2 ∧ H2.n = h.n + 1 ∧ H2.get h.n = some (.cells 0 ty [x, y] 0 false) ∧ (∀ {u : IX} {ρ : IX → AV}, ρ u = .agg [z1, z2] → iop (.new ty u) ρ h = some (.val (.ptr ⟨h.n, 0, 0⟩) H1)) ∧
      (∀ {u w : IX} {ρ : IX → AV}, ρ u = .ptr ⟨h.n, 0, 0⟩ → ρ w = .agg [x, y] → iop (.st 2 u w) ρ H1 = some (.val .undef H2)) ∧ Ext h H1 ∧ H1.n = h.n + 1 := by
  refine ⟨h.new (.cells 0 ty [z1, z2] 0 false), (h.new (.cells 0 ty [z1, z2] 0 false)).set h.n (.cells 0 ty [x, y] 0 false), ⟨Nat.le_succ _, fun b hb => ?_⟩, rfl, H.get_set _ _ _, fun hu => iop_new hu hz, fun hu hw => iop_stA (a := ⟨h.n, 0, 0⟩) (cs := [x, y]) hu hw rfl ?_, Ext.new _ _, rfl⟩
  · rw [H.get_set_ne _ _ _ _ (by omega)]; exact h.get_new_ne b _ (by omega)
  · unfold H.st
    simp only [H.get_new]
    rw [if_pos (by simp [hx, hy])]
    rfl

theorem ld_two {h : H} {b ty : Nat} {x y : AV} (hg : h.get b = some (.cells 0 ty [x, y] 0 false)) : h.ldg ⟨b, 0, 0⟩ (some 2) = some (.agg [x, y]) ∧ h.ldg ⟨b, 0, 0⟩ none = some x ∧ h.ldg ⟨b, 0, 1⟩ none = some y := by
  simp [H.ldg, H.ld, H.ldn, H.row, hg, getL, cut]

theorem iop_eqbo {x y : IX} {ρ : IX → AV} {h : H} {a b : Bool} (hx : ρ x = .bool a) (hy : ρ y = .bool b) (e : a = b) : iop (.eq .bo false false x y) ρ h = some (.val (.bool true) h) := by
  subst e
  simp [iop, hx, hy, eqv]

theorem says_may {xs ys : List (AV × List UInt8)} (e : says ys = says xs) : mayE ys = mayE xs := by
  have h : ∀ l : List (AV × List UInt8), mayE l = (decide (1 ≤ (says l).length ∧ (says l).length ≤ 4) && (says l).all mayC) := fun l => by simp only [mayE, says, List.length_map, List.all_map]; rfl
  rw [h, h, e]
theorem says_c0 {xs ys : List (AV × List UInt8)} (e : says ys = says xs) : c0 ys = c0 xs := by
  have h : ∀ l : List (AV × List UInt8), c0 l = (says l).headD [] := fun l => by cases l <;> rfl
  rw [h, h, e]
theorem says_inner {xs ys : List (AV × List UInt8)} (e : says ys = says xs) : inner ys = inner xs := by
  have h : ∀ l : List (AV × List UInt8), inner l = ((says l).map certB).flatten := fun l => by simp only [inner, says, List.map_map]; rfl
  rw [h, h, e]
theorem says_drop1 {xs ys : List (AV × List UInt8)} (e : says ys = says xs) : says (ys.drop 1) = says (xs.drop 1) := by
  simp only [says, List.map_drop] at e ⊢; rw [e]
theorem says_made {xs ys : List (AV × List UInt8)} (e : says ys = says xs) (t : Nat) : leafE ys = leafE xs ∧ leafX t ys = leafX t xs ∧ extraX ys = extraX xs ∧ recX t ys = recX t xs := by
  simp only [leafE, leafX, extraX, recX, listB, says_may e, says_c0 e, says_inner e, says_inner (says_drop1 e), and_self]
theorem made_len (xs : List (AV × List UInt8)) (t : Nat) : (leafX t xs).length ≤ 3000 ∧ (extraX xs).length ≤ 3000 ∧ (recX t xs).length ≤ 3000 := by
  unfold leafX extraX recX
  by_cases hm : mayE xs = true
  · obtain ⟨p, h1, h2, h3, h4, h5⟩ := mayE_first hm
    obtain ⟨hs, _⟩ := mayE_small hm
    have i1 := inner_len xs hs.2
    have i2 := inner_len (xs.drop 1) (fun q hq => hs.2 q (List.mem_of_mem_drop hq))
    have hl := hs.1
    have hd : (xs.drop 1).length ≤ 4 := by rw [List.length_drop]; omega
    simp only [if_pos hm, leafB, listB, List.length_append, digits_len, h2, List.length_cons, List.length_nil]
    refine ⟨by omega, by omega, by omega⟩
  · simp [if_neg hm]

set_option maxHeartbeats 8000000 in
theorem makes_run {h : H} {v w : AV} {xs ys : List (AV × List UInt8)} (hc : Ch h v xs) (hd : Ch h w ys) (hx : ∀ p ∈ xs, p.2.length ≤ maxRow) (hlx : xs.length * 24 ≤ 140737488355328) (hly : ys.length < 2 ^ 62) {t u : Nat} (ht : t < 2 ^ 64) (hu : u < 2 ^ 64) :
    ∃ r h', Runs TF 10 [entV t v, entV u w] h r h' ∧ r = .bool true := by
  have hmx : 200000000000000 = maxRow := rfl
  have hlen : xs.length < 2 ^ 62 := by omega
  refine Runs.ofP f10 rfl ?_
  obtain ⟨H1, X1, n1, en1, Ld1⟩ := ent_new hc t
  obtain ⟨H2, X2, n2, en2, Ld2⟩ := ent_new (hd.ext X1) u
  obtain ⟨r3, H3, c3, v', zs, rfl, X3, O3, hsy⟩ := owne_run (hc.ext (X1.trans X2)) hx hlx t
  have zl : zs.length = xs.length := by rw [← says_len, hsy, says_len]
  obtain ⟨e1, e2, e3, e4⟩ := says_made hsy t
  obtain ⟨l1, l2, l3⟩ := made_len xs t
  have pv := hc.parts
  obtain ⟨H4a, H4, X4, n4, g4, en4, st4, _, _⟩ := made2 (h := H3) 70 (z1 := .int .u64 0) (z2 := .nils) (x := .int .u64 t) (y := v') rfl rfl O3.ch.parts.2.1
  have D4 := ((X1.trans X2).trans X3).trans X4
  have S1 := (X2.trans X3).trans X4
  have S2 := X3.trans X4
  have hch := O3.ch.ext X4
  have he := hc.ext D4
  have hoth := hd.ext D4
  have b4 : H3.n < H4.n := by omega
  have E4 := Ext.refl H4
  have F4 := ld_two ((E4.2 _ b4).trans g4)
  have G4 := Ld1 H4 (S1.trans E4)
  have M4 := Ld2 H4 (S2.trans E4)
  obtain ⟨r5, H5, c5, z5, rfl, X5, o5⟩ := leaf_run (hch.ext E4) (by omega) ht
  have E5 := E4.trans X5
  rw [e1] at c5
  rw [e2] at o5
  have F5 := ld_two ((E5.2 _ b4).trans g4)
  have G5 := Ld1 H5 (S1.trans E5)
  have M5 := Ld2 H5 (S2.trans E5)
  obtain ⟨r6, H6, c6, z6, rfl, X6, o6⟩ := rleaf_run (he.ext E5) (by omega) ht
  have E6 := E5.trans X6
  have F6 := ld_two ((E6.2 _ b4).trans g4)
  have G6 := Ld1 H6 (S1.trans E6)
  have M6 := Ld2 H6 (S2.trans E6)
  obtain ⟨r7, H7, c7, z7, rfl, X7, o7⟩ := extra_run (hch.ext E6) (by omega) ht
  have E7 := E6.trans X7
  rw [e1] at c7
  rw [e3] at o7
  have F7 := ld_two ((E7.2 _ b4).trans g4)
  have G7 := Ld1 H7 (S1.trans E7)
  have M7 := Ld2 H7 (S2.trans E7)
  obtain ⟨r8, H8, c8, z8, rfl, X8, o8⟩ := rextra_run (he.ext E7) (by omega) ht
  have E8 := E7.trans X8
  have F8 := ld_two ((E8.2 _ b4).trans g4)
  have G8 := Ld1 H8 (S1.trans E8)
  have M8 := Ld2 H8 (S2.trans E8)
  obtain ⟨r9, H9, c9, z9, rfl, X9, o9⟩ := record_run (hch.ext E8) (by omega) ht
  have E9 := E8.trans X9
  rw [e1] at c9
  rw [e4] at o9
  have F9 := ld_two ((E9.2 _ b4).trans g4)
  have G9 := Ld1 H9 (S1.trans E9)
  have M9 := Ld2 H9 (S2.trans E9)
  obtain ⟨r10, H10, c10, z10, rfl, X10, o10⟩ := rrecord_run (he.ext E9) (by omega) ht
  have E10 := E9.trans X10
  have F10 := ld_two ((E10.2 _ b4).trans g4)
  have G10 := Ld1 H10 (S1.trans E10)
  have M10 := Ld2 H10 (S2.trans E10)
  obtain ⟨r11, H11, c11, z11, rfl, X11, o11⟩ := sct_run (hch.ext E10) (by omega) ht
  have E11 := E10.trans X11
  rw [e1] at c11
  rw [e2] at o11
  have F11 := ld_two ((E11.2 _ b4).trans g4)
  have G11 := Ld1 H11 (S1.trans E11)
  have M11 := Ld2 H11 (S2.trans E11)
  obtain ⟨r12, H12, c12, z12, rfl, X12, o12⟩ := rsct_run (he.ext E11) (by omega) ht
  have E12 := E11.trans X12
  have F12 := ld_two ((E12.2 _ b4).trans g4)
  have G12 := Ld1 H12 (S1.trans E12)
  have M12 := Ld2 H12 (S2.trans E12)
  obtain ⟨r13, H13, c13, z13, w13, rfl, X13, o13, q13, _⟩ := item_run (hch.ext E12) (by omega) ht
  rw [e1] at c13
  rw [e2] at o13
  rw [e3] at q13
  have E13 := E12.trans X13
  obtain ⟨H14a, H14, X14, n14, g14, en14, st14, _, _⟩ := made2 (h := H13) 78 (z1 := .nils) (z2 := .nils) (x := z13) (y := w13) rfl o13.bs.parts.2.1 q13.bs.parts.2.1
  have E14 := E13.trans X14
  have F14 := ld_two ((E14.2 _ b4).trans g4)
  have G14 := Ld1 H14 (S1.trans E14)
  have M14 := Ld2 H14 (S2.trans E14)
  obtain ⟨r15, H15, c15, z15, w15, rfl, X15, o15, q15, _⟩ := ritem_run (he.ext E14) (by omega) ht
  have E15 := E14.trans X15
  obtain ⟨H16a, H16, X16, n16, g16, en16, st16, _, _⟩ := made2 (h := H15) 78 (z1 := .nils) (z2 := .nils) (x := z15) (y := w15) rfl o15.bs.parts.2.1 q15.bs.parts.2.1
  have E16 := E15.trans X16
  have F16 := ld_two ((E16.2 _ b4).trans g4)
  have G16 := Ld1 H16 (S1.trans E16)
  have M16 := Ld2 H16 (S2.trans E16)
  have R5 := o5.ext (((((((((((X6).trans X7).trans X8).trans X9).trans X10).trans X11).trans X12).trans X13).trans X14).trans X15).trans X16)
  have R6 := o6.ext ((((((((((X7).trans X8).trans X9).trans X10).trans X11).trans X12).trans X13).trans X14).trans X15).trans X16)
  have R7 := o7.ext (((((((((X8).trans X9).trans X10).trans X11).trans X12).trans X13).trans X14).trans X15).trans X16)
  have R8 := o8.ext ((((((((X9).trans X10).trans X11).trans X12).trans X13).trans X14).trans X15).trans X16)
  have R9 := o9.ext (((((((X10).trans X11).trans X12).trans X13).trans X14).trans X15).trans X16)
  have R10 := o10.ext ((((((X11).trans X12).trans X13).trans X14).trans X15).trans X16)
  have R11 := o11.ext (((((X12).trans X13).trans X14).trans X15).trans X16)
  have R12 := o12.ext ((((X13).trans X14).trans X15).trans X16)
  have R13 := o13.ext (((X14).trans X15).trans X16)
  have T13 := q13.ext (((X14).trans X15).trans X16)
  have R15 := o15.ext X16
  have T15 := q15.ext X16
  have p0 := equal_run R5.bs R6.bs
  rw [beq_self_eq_true] at p0
  have p1 := equal_run R7.bs R8.bs
  rw [beq_self_eq_true] at p1
  have p2 := equal_run R9.bs R10.bs
  rw [beq_self_eq_true] at p2
  have p3 := equal_run R11.bs R12.bs
  rw [beq_self_eq_true] at p3
  have p4 := equal_run R13.bs R15.bs
  rw [beq_self_eq_true] at p4
  have p5 := equal_run T13.bs T15.bs
  rw [beq_self_eq_true] at p5
  have m1 := X13.1
  have m2 := X14.1
  have m3 := X15.1
  have m4 := X16.1
  have g14' : H16.get H13.n = some (.cells 0 78 [z13, w13] 0 false) := by rw [X16.2 _ (by omega), X15.2 _ (by omega)]; exact g14
  have A := ld_two g14'
  have B := ld_two g16
  obtain ⟨r17, H17, c17, rfl, X17⟩ := may_run (hch.ext E16) (by omega) t
  rw [says_may hsy] at c17
  have E17 := E16.trans X17
  have F17 := ld_two ((E17.2 _ b4).trans g4)
  have G17 := Ld1 H17 (S1.trans E17)
  have M17 := Ld2 H17 (S2.trans E17)
  obtain ⟨r18, H18, c18, rfl, X18⟩ := rmay_run (he.ext E17) (by omega) t
  have E18 := E17.trans X18
  have F18 := ld_two ((E18.2 _ b4).trans g4)
  have G18 := Ld1 H18 (S1.trans E18)
  have M18 := Ld2 H18 (S2.trans E18)
  obtain ⟨r19, H19, c19, rfl, X19⟩ := samee_run (hch.ext E18) (hoth.ext E18) (by omega) t u
  have sE : sameE t zs u ys = sameE t xs u ys := by simp only [sameE, hsy]
  rw [sE] at c19
  have E19 := E18.trans X19
  have F19 := ld_two ((E19.2 _ b4).trans g4)
  have G19 := Ld1 H19 (S1.trans E19)
  have M19 := Ld2 H19 (S2.trans E19)
  obtain ⟨r20, H20, c20, rfl, X20⟩ := rsamee_run (he.ext E19) (hoth.ext E19) (by omega) t u
  have E20 := E19.trans X20
  have Y := ((X17.trans X18).trans X19).trans X20
  have Z := (X15.trans X16).trans Y
  have g14'' : H20.get H13.n = some (.cells 0 78 [z13, w13] 0 false) := by rw [Y.2 _ (by omega)]; exact g14'
  have A20 := ld_two g14''
  obtain ⟨rs, hrs⟩ : ∃ rs : List (AV × List UInt8), rs = [(z5, leafX t xs), (z7, extraX xs), (z9, recX t xs), (z11, leafX t xs), (z13, leafX t xs), (w13, extraX xs)] := ⟨_, rfl⟩
  obtain ⟨H21, hH21⟩ : ∃ H21, H21 = H20.new (.cells 0 22 [z5, z7, z9, z11, z13, w13] 0 false) := ⟨_, rfl⟩
  have X21 : Ext H20 H21 := by rw [hH21]; exact Ext.new _ _
  have g21 : H21.get H20.n = some (.cells 0 22 (rs.map (·.1)) 0 false) := by rw [hH21, hrs]; exact H20.get_new _
  have pa := o5.bs.parts
  have pb := o7.bs.parts
  have pc := o9.bs.parts
  have pd := o11.bs.parts
  have pe := o13.bs.parts
  have pf := q13.bs.parts
  have bslc : ∀ {y1 y2 y3 y4 y5 y6 : IX} {ρ : IX → AV}, ρ y1 = z5 → ρ y2 = z7 → ρ y3 = z9 → ρ y4 = z11 → ρ y5 = z13 → ρ y6 = w13 → iop (.bsl 22 [.nils, .nils, .nils, .nils, .nils, .nils] 6 [(0, 1, y1), (1, 1, y2), (2, 1, y3), (3, 1, y4), (4, 1, y5), (5, 1, y6)]) ρ H20 = some (.val (.sl ⟨H20.n, 0, 0⟩ 6 (.ex 6)) H21) := by
    intro y1 y2 y3 y4 y5 y6 ρ a1 a2 a3 a4 a5 a6
    simp [iop, fillL, a1, a2, a3, a4, a5, a6, pa.1, pb.1, pc.1, pd.1, pe.1, pf.1, pa.2.1, pb.2.1, pc.2.1, pd.2.1, pe.2.1, pf.2.1, putAt, ← hH21]
  have k5 := E5.1
  have k6 := X6.1
  have k7 := X7.1
  have k8 := X8.1
  have k9 := X9.1
  have k10 := X10.1
  have k11 := X11.1
  have k12 := X12.1
  have k4 := X5.1
  have ho : ∀ p ∈ rs, Ow H4.n H21 p.1 p.2 := by
    have Y2 := Y.trans X21
    rw [hrs]
    intro p hp
    simp only [List.mem_cons, List.not_mem_nil, or_false] at hp
    rcases hp with rfl | rfl | rfl | rfl | rfl | rfl
    · exact (R5.ext Y2).mono (by omega)
    · exact (R7.ext Y2).mono (by omega)
    · exact (R9.ext Y2).mono (by omega)
    · exact (R11.ext Y2).mono (by omega)
    · exact (R13.ext Y2).mono (by omega)
    · exact (T13.ext Y2).mono (by omega)
  have hm : ∀ p ∈ rs, p.2.length ≤ maxRow := by
    rw [hrs]
    intro p hp
    simp only [List.mem_cons, List.not_mem_nil, or_false] at hp
    rcases hp with rfl | rfl | rfl | rfl | rfl | rfl <;> (first | exact Nat.le_trans l1 (by decide) | exact Nat.le_trans l2 (by decide) | exact Nat.le_trans l3 (by decide))
  obtain ⟨r22, H22, c22, S22⟩ := spoile_run (lo := H4.n) g21 (by rw [hrs]; simp) hm ho
  rw [show rs.length = 6 by rw [hrs]; rfl] at c22
  have E21 := E20.trans X21
  have m21 := E21.1
  have E22 : Ext H4 H22 := ⟨by rw [S22.1]; exact m21, fun b hb => by rw [S22.2 b (.inl hb)]; exact E21.2 b hb⟩
  have F22 := ld_two ((E22.2 _ b4).trans g4)
  have G22 := Ld1 H22 (S1.trans E22)
  have M22 := Ld2 H22 (S2.trans E22)
  obtain ⟨r23, H23, c23, rfl, _⟩ := rsamee_run (hch.ext E22) (he.ext E22) (by omega) t t
  rw [show sameE t zs t xs = true by simp [sameE, hsy]] at c23
  refine Wp.seq ?_
  refine Wp.region ?_
  refine Wo.val _ _ (by kernel_rfl) (en1 (by kernel_rfl)) ?_
  refine Wo.val _ _ (by kernel_rfl) (en2 (by kernel_rfl)) ?_
  refine Wo.pre 1 (by kernel_rfl) ?_
  refine Wo.nil ?_
  refine Wp.seq ?_
  refine Wp.region ?_
  refine Wo.val (entV t v) H2 (by kernel_rfl) (iop_ld (a := ⟨h.n, 0, 0⟩) (by kernel_rfl) (Ld1 H2 X2).2.2) ?_
  refine Wo.call (by kernel_rfl) (by kernel_rfl) (c3) ?_
  refine Wo.val _ _ (by kernel_rfl) (en4 (by kernel_rfl)) ?_
  refine Wo.val _ _ (by kernel_rfl) (st4 (by kernel_rfl) (by kernel_rfl)) ?_
  refine Wo.nil ?_
  refine Wp.seq ?_
  refine Wp.region ?_
  refine Wo.val (entV t v') H4 (by kernel_rfl) (iop_ld (a := ⟨H3.n, 0, 0⟩) (by kernel_rfl) F4.1) ?_
  refine Wo.call (by kernel_rfl) (by kernel_rfl) (c5) ?_
  refine Wo.pre 1 (by kernel_rfl) ?_
  refine Wo.pre 1 (by kernel_rfl) ?_
  refine Wo.pre 1 (by kernel_rfl) ?_
  refine Wo.pre 1 (by kernel_rfl) ?_
  refine Wo.pre 1 (by kernel_rfl) ?_
  refine Wo.nil ?_
  refine Wp.seq ?_
  refine Wp.region ?_
  refine Wo.val (entV t v) H5 (by kernel_rfl) (iop_ld (a := ⟨h.n, 0, 0⟩) (by kernel_rfl) G5.2.2) ?_
  refine Wo.call (by kernel_rfl) (by kernel_rfl) (c6) ?_
  refine Wo.pre 1 (by kernel_rfl) ?_
  refine Wo.pre 1 (by kernel_rfl) ?_
  refine Wo.pre 1 (by kernel_rfl) ?_
  refine Wo.pre 1 (by kernel_rfl) ?_
  refine Wo.pre 1 (by kernel_rfl) ?_
  refine Wo.nil ?_
  refine Wp.seq ?_
  refine Wp.region ?_
  refine Wo.val (entV t v') H6 (by kernel_rfl) (iop_ld (a := ⟨H3.n, 0, 0⟩) (by kernel_rfl) F6.1) ?_
  refine Wo.call (by kernel_rfl) (by kernel_rfl) (c7) ?_
  refine Wo.pre 1 (by kernel_rfl) ?_
  refine Wo.pre 1 (by kernel_rfl) ?_
  refine Wo.pre 1 (by kernel_rfl) ?_
  refine Wo.pre 1 (by kernel_rfl) ?_
  refine Wo.pre 1 (by kernel_rfl) ?_
  refine Wo.nil ?_
  refine Wp.seq ?_
  refine Wp.region ?_
  refine Wo.val (entV t v) H7 (by kernel_rfl) (iop_ld (a := ⟨h.n, 0, 0⟩) (by kernel_rfl) G7.2.2) ?_
  refine Wo.call (by kernel_rfl) (by kernel_rfl) (c8) ?_
  refine Wo.pre 1 (by kernel_rfl) ?_
  refine Wo.pre 1 (by kernel_rfl) ?_
  refine Wo.pre 1 (by kernel_rfl) ?_
  refine Wo.pre 1 (by kernel_rfl) ?_
  refine Wo.pre 1 (by kernel_rfl) ?_
  refine Wo.nil ?_
  refine Wp.seq ?_
  refine Wp.region ?_
  refine Wo.val (entV t v') H8 (by kernel_rfl) (iop_ld (a := ⟨H3.n, 0, 0⟩) (by kernel_rfl) F8.1) ?_
  refine Wo.call (by kernel_rfl) (by kernel_rfl) (c9) ?_
  refine Wo.pre 1 (by kernel_rfl) ?_
  refine Wo.pre 1 (by kernel_rfl) ?_
  refine Wo.pre 1 (by kernel_rfl) ?_
  refine Wo.pre 1 (by kernel_rfl) ?_
  refine Wo.pre 1 (by kernel_rfl) ?_
  refine Wo.nil ?_
  refine Wp.seq ?_
  refine Wp.region ?_
  refine Wo.val (entV t v) H9 (by kernel_rfl) (iop_ld (a := ⟨h.n, 0, 0⟩) (by kernel_rfl) G9.2.2) ?_
  refine Wo.call (by kernel_rfl) (by kernel_rfl) (c10) ?_
  refine Wo.pre 1 (by kernel_rfl) ?_
  refine Wo.pre 1 (by kernel_rfl) ?_
  refine Wo.pre 1 (by kernel_rfl) ?_
  refine Wo.pre 1 (by kernel_rfl) ?_
  refine Wo.pre 1 (by kernel_rfl) ?_
  refine Wo.nil ?_
  refine Wp.seq ?_
  refine Wp.region ?_
  refine Wo.val (entV t v') H10 (by kernel_rfl) (iop_ld (a := ⟨H3.n, 0, 0⟩) (by kernel_rfl) F10.1) ?_
  refine Wo.call (by kernel_rfl) (by kernel_rfl) (c11) ?_
  refine Wo.pre 1 (by kernel_rfl) ?_
  refine Wo.pre 1 (by kernel_rfl) ?_
  refine Wo.pre 1 (by kernel_rfl) ?_
  refine Wo.pre 1 (by kernel_rfl) ?_
  refine Wo.pre 1 (by kernel_rfl) ?_
  refine Wo.nil ?_
  refine Wp.seq ?_
  refine Wp.region ?_
  refine Wo.val (entV t v) H11 (by kernel_rfl) (iop_ld (a := ⟨h.n, 0, 0⟩) (by kernel_rfl) G11.2.2) ?_
  refine Wo.call (by kernel_rfl) (by kernel_rfl) (c12) ?_
  refine Wo.pre 1 (by kernel_rfl) ?_
  refine Wo.pre 1 (by kernel_rfl) ?_
  refine Wo.pre 1 (by kernel_rfl) ?_
  refine Wo.pre 1 (by kernel_rfl) ?_
  refine Wo.pre 1 (by kernel_rfl) ?_
  refine Wo.nil ?_
  refine Wp.seq ?_
  refine Wp.region ?_
  refine Wo.val (entV t v') H12 (by kernel_rfl) (iop_ld (a := ⟨H3.n, 0, 0⟩) (by kernel_rfl) F12.1) ?_
  refine Wo.call (by kernel_rfl) (by kernel_rfl) (c13) ?_
  refine Wo.pre 1 (by kernel_rfl) ?_
  refine Wo.pre 1 (by kernel_rfl) ?_
  refine Wo.pre 1 (by kernel_rfl) ?_
  refine Wo.val _ _ (by kernel_rfl) (en14 (by kernel_rfl)) ?_
  refine Wo.val _ _ (by kernel_rfl) (st14 (by kernel_rfl) (by kernel_rfl)) ?_
  refine Wo.pre 1 (by kernel_rfl) ?_
  refine Wo.nil ?_
  refine Wp.seq ?_
  refine Wp.region ?_
  refine Wo.val (entV t v) H14 (by kernel_rfl) (iop_ld (a := ⟨h.n, 0, 0⟩) (by kernel_rfl) G14.2.2) ?_
  refine Wo.call (by kernel_rfl) (by kernel_rfl) (c15) ?_
  refine Wo.pre 1 (by kernel_rfl) ?_
  refine Wo.pre 1 (by kernel_rfl) ?_
  refine Wo.pre 1 (by kernel_rfl) ?_
  refine Wo.val _ _ (by kernel_rfl) (en16 (by kernel_rfl)) ?_
  refine Wo.val _ _ (by kernel_rfl) (st16 (by kernel_rfl) (by kernel_rfl)) ?_
  refine Wo.pre 1 (by kernel_rfl) ?_
  refine Wo.nil ?_
  refine Wp.seq ?_
  refine Wp.draw ?_
  refine Wd.pure (by kernel_rfl) (by kernel_rfl) ?_
  refine Wd.pure (by kernel_rfl) (by kernel_rfl) ?_
  refine Wd.make (.bool true) H16 (by kernel_rfl) (by kernel_rfl) (iop_eqI (k := .i64) (a := leafE xs) (b := leafE xs) (by kernel_rfl) (by kernel_rfl) rfl) ?_
  refine Wd.pure (by kernel_rfl) (by kernel_rfl) ?_
  refine Wd.pure (by kernel_rfl) (by kernel_rfl) ?_
  refine Wd.pure (by kernel_rfl) (by kernel_rfl) ?_
  refine Wd.call (by kernel_rfl) (by kernel_rfl) p0 (holds_of [] (by kernel_rfl) rfl) ?_
  refine Wd.pure (by kernel_rfl) (by kernel_rfl) ?_
  refine Wd.pure (by kernel_rfl) (by kernel_rfl) ?_
  refine Wd.pure (by kernel_rfl) (by kernel_rfl) ?_
  refine Wd.pure (by kernel_rfl) (by kernel_rfl) ?_
  refine Wd.make (.bool true) H16 (by kernel_rfl) (by kernel_rfl) (iop_eqI (k := .i64) (a := leafE xs) (b := leafE xs) (by kernel_rfl) (by kernel_rfl) rfl) ?_
  refine Wd.pure (by kernel_rfl) (by kernel_rfl) ?_
  refine Wd.pure (by kernel_rfl) (by kernel_rfl) ?_
  refine Wd.pure (by kernel_rfl) (by kernel_rfl) ?_
  refine Wd.pure (by kernel_rfl) (by kernel_rfl) ?_
  refine Wd.call (by kernel_rfl) (by kernel_rfl) p1 (holds_of [] (by kernel_rfl) rfl) ?_
  refine Wd.pure (by kernel_rfl) (by kernel_rfl) ?_
  refine Wd.pure (by kernel_rfl) (by kernel_rfl) ?_
  refine Wd.pure (by kernel_rfl) (by kernel_rfl) ?_
  refine Wd.pure (by kernel_rfl) (by kernel_rfl) ?_
  refine Wd.make (.bool true) H16 (by kernel_rfl) (by kernel_rfl) (iop_eqI (k := .i64) (a := leafE xs) (b := leafE xs) (by kernel_rfl) (by kernel_rfl) rfl) ?_
  refine Wd.pure (by kernel_rfl) (by kernel_rfl) ?_
  refine Wd.pure (by kernel_rfl) (by kernel_rfl) ?_
  refine Wd.pure (by kernel_rfl) (by kernel_rfl) ?_
  refine Wd.pure (by kernel_rfl) (by kernel_rfl) ?_
  refine Wd.call (by kernel_rfl) (by kernel_rfl) p2 (holds_of [] (by kernel_rfl) rfl) ?_
  refine Wd.pure (by kernel_rfl) (by kernel_rfl) ?_
  refine Wd.pure (by kernel_rfl) (by kernel_rfl) ?_
  refine Wd.pure (by kernel_rfl) (by kernel_rfl) ?_
  refine Wd.pure (by kernel_rfl) (by kernel_rfl) ?_
  refine Wd.make (.bool true) H16 (by kernel_rfl) (by kernel_rfl) (iop_eqI (k := .i64) (a := leafE xs) (b := leafE xs) (by kernel_rfl) (by kernel_rfl) rfl) ?_
  refine Wd.pure (by kernel_rfl) (by kernel_rfl) ?_
  refine Wd.pure (by kernel_rfl) (by kernel_rfl) ?_
  refine Wd.pure (by kernel_rfl) (by kernel_rfl) ?_
  refine Wd.pure (by kernel_rfl) (by kernel_rfl) ?_
  refine Wd.call (by kernel_rfl) (by kernel_rfl) p3 (holds_of [] (by kernel_rfl) rfl) ?_
  refine Wd.pure (by kernel_rfl) (by kernel_rfl) ?_
  refine Wd.pure (by kernel_rfl) (by kernel_rfl) ?_
  refine Wd.pure (by kernel_rfl) (by kernel_rfl) ?_
  refine Wd.pure (by kernel_rfl) (by kernel_rfl) ?_
  refine Wd.make (.bool true) H16 (by kernel_rfl) (by kernel_rfl) (iop_eqI (k := .i64) (a := leafE xs) (b := leafE xs) (by kernel_rfl) (by kernel_rfl) rfl) ?_
  refine Wd.pure (by kernel_rfl) (by kernel_rfl) ?_
  refine Wd.pure (by kernel_rfl) (by kernel_rfl) ?_
  refine Wd.pure (by kernel_rfl) (by kernel_rfl) ?_
  refine Wd.read z13 (.ld none (.c (.ptr ⟨H13.n, 0, 0⟩))) (by kernel_rfl) (by kernel_rfl) (iop_ld (a := ⟨H13.n, 0, 0⟩) (by kernel_rfl) A.2.1) ?_
  refine Wd.pure (by kernel_rfl) (by kernel_rfl) ?_
  refine Wd.read z15 (.ld none (.c (.ptr ⟨H15.n, 0, 0⟩))) (by kernel_rfl) (by kernel_rfl) (iop_ld (a := ⟨H15.n, 0, 0⟩) (by kernel_rfl) B.2.1) ?_
  refine Wd.call (by kernel_rfl) (by kernel_rfl) p4 (holds_of [(.ld none (.c (.ptr ⟨H15.n, 0, 0⟩)), z15, 47), (.ld none (.c (.ptr ⟨H13.n, 0, 0⟩)), z13, 45)] (by kernel_rfl) (holds_and (rd_ld B.2.1) (holds_and (rd_ld A.2.1) rfl))) ?_
  refine Wd.pure (by kernel_rfl) (by kernel_rfl) ?_
  refine Wd.pure (by kernel_rfl) (by kernel_rfl) ?_
  refine Wd.pure (by kernel_rfl) (by kernel_rfl) ?_
  refine Wd.read w13 (.ld none (.c (.ptr ⟨H13.n, 0, 1⟩))) (by kernel_rfl) (by kernel_rfl) (iop_ld (a := ⟨H13.n, 0, 1⟩) (by kernel_rfl) A.2.2) ?_
  refine Wd.pure (by kernel_rfl) (by kernel_rfl) ?_
  refine Wd.read w15 (.ld none (.c (.ptr ⟨H15.n, 0, 1⟩))) (by kernel_rfl) (by kernel_rfl) (iop_ld (a := ⟨H15.n, 0, 1⟩) (by kernel_rfl) B.2.2) ?_
  refine Wd.call (by kernel_rfl) (by kernel_rfl) p5 (holds_of [(.ld none (.c (.ptr ⟨H15.n, 0, 1⟩)), w15, 54), (.ld none (.c (.ptr ⟨H13.n, 0, 1⟩)), w13, 52)] (by kernel_rfl) (holds_and (rd_ld B.2.2) (holds_and (rd_ld A.2.2) rfl))) ?_
  refine Wd.pure (by kernel_rfl) (by kernel_rfl) ?_
  refine Wd.pure (by kernel_rfl) (by kernel_rfl) ?_
  refine Wd.read (entV t v') (.ld (some 2) (.c (.ptr ⟨H3.n, 0, 0⟩))) (by kernel_rfl) (by kernel_rfl) (iop_ld (a := ⟨H3.n, 0, 0⟩) (by kernel_rfl) F16.1) ?_
  refine Wd.read (entV t v) (.ld (some 2) (.c (.ptr ⟨h.n, 0, 0⟩))) (by kernel_rfl) (by kernel_rfl) (iop_ld (a := ⟨h.n, 0, 0⟩) (by kernel_rfl) G16.2.2) ?_
  refine Wd.call (by kernel_rfl) (by kernel_rfl) c17 (holds_of [(.ld (some 2) (.c (.ptr ⟨h.n, 0, 0⟩)), entV t v, 60), (.ld (some 2) (.c (.ptr ⟨H3.n, 0, 0⟩)), entV t v', 58)] (by kernel_rfl) (holds_and (rd_ld G16.2.2) (holds_and (rd_ld F16.1) rfl))) ?_
  refine Wd.call (by kernel_rfl) (by kernel_rfl) c18 (holds_of [(.ld (some 2) (.c (.ptr ⟨h.n, 0, 0⟩)), entV t v, 60)] (by kernel_rfl) (holds_and (rd_ld G17.2.2) rfl)) ?_
  refine Wd.make (.bool true) H18 (by kernel_rfl) (by kernel_rfl) (iop_eqbo (a := mayE xs) (b := mayE xs) (by kernel_rfl) (by kernel_rfl) rfl) ?_
  refine Wd.pure (by kernel_rfl) (by kernel_rfl) ?_
  refine Wd.pure (by kernel_rfl) (by kernel_rfl) ?_
  refine Wd.read (entV t v') (.ld (some 2) (.c (.ptr ⟨H3.n, 0, 0⟩))) (by kernel_rfl) (by kernel_rfl) (iop_ld (a := ⟨H3.n, 0, 0⟩) (by kernel_rfl) F18.1) ?_
  refine Wd.read (entV u w) (.ld (some 2) (.c (.ptr ⟨H1.n, 0, 0⟩))) (by kernel_rfl) (by kernel_rfl) (iop_ld (a := ⟨H1.n, 0, 0⟩) (by kernel_rfl) M18.2.2) ?_
  refine Wd.read (entV t v) (.ld (some 2) (.c (.ptr ⟨h.n, 0, 0⟩))) (by kernel_rfl) (by kernel_rfl) (iop_ld (a := ⟨h.n, 0, 0⟩) (by kernel_rfl) G18.2.2) ?_
  refine Wd.read (entV u w) (.ld (some 2) (.c (.ptr ⟨H1.n, 0, 0⟩))) (by kernel_rfl) (by kernel_rfl) (iop_ld (a := ⟨H1.n, 0, 0⟩) (by kernel_rfl) M18.2.2) ?_
  refine Wd.call (by kernel_rfl) (by kernel_rfl) c19 (holds_of [(.ld (some 2) (.c (.ptr ⟨H1.n, 0, 0⟩)), entV u w, 69), (.ld (some 2) (.c (.ptr ⟨h.n, 0, 0⟩)), entV t v, 68), (.ld (some 2) (.c (.ptr ⟨H1.n, 0, 0⟩)), entV u w, 66), (.ld (some 2) (.c (.ptr ⟨H3.n, 0, 0⟩)), entV t v', 65)] (by kernel_rfl) (holds_and (rd_ld M18.2.2) (holds_and (rd_ld G18.2.2) (holds_and (rd_ld M18.2.2) (holds_and (rd_ld F18.1) rfl))))) ?_
  refine Wd.call (by kernel_rfl) (by kernel_rfl) c20 (holds_of [(.ld (some 2) (.c (.ptr ⟨H1.n, 0, 0⟩)), entV u w, 69), (.ld (some 2) (.c (.ptr ⟨h.n, 0, 0⟩)), entV t v, 68)] (by kernel_rfl) (holds_and (rd_ld M19.2.2) (holds_and (rd_ld G19.2.2) rfl))) ?_
  refine Wd.make (.bool true) H20 (by kernel_rfl) (by kernel_rfl) (iop_eqbo (a := sameE t xs u ys) (b := sameE t xs u ys) (by kernel_rfl) (by kernel_rfl) rfl) ?_
  refine Wd.pure (by kernel_rfl) (by kernel_rfl) ?_
  refine Wd.pure (by kernel_rfl) (by kernel_rfl) ?_
  refine Wd.done (holds_of [] (by kernel_rfl) rfl) ?_
  refine Wp.seq ?_
  refine Wp.region ?_
  refine Wo.pre 1 (by kernel_rfl) ?_
  refine Wo.pre 1 (by kernel_rfl) ?_
  refine Wo.pre 1 (by kernel_rfl) ?_
  refine Wo.pre 1 (by kernel_rfl) ?_
  refine Wo.pre 1 (by kernel_rfl) ?_
  refine Wo.val z13 H20 (by kernel_rfl) (iop_ld (a := ⟨H13.n, 0, 0⟩) (by kernel_rfl) A20.2.1) ?_
  refine Wo.pre 1 (by kernel_rfl) ?_
  refine Wo.val w13 H20 (by kernel_rfl) (iop_ld (a := ⟨H13.n, 0, 1⟩) (by kernel_rfl) A20.2.2) ?_
  refine Wo.val _ _ (by kernel_rfl) (bslc (by kernel_rfl) (by kernel_rfl) (by kernel_rfl) (by kernel_rfl) (by kernel_rfl) (by kernel_rfl)) ?_
  refine Wo.call (by kernel_rfl) (by kernel_rfl) (c22) ?_
  refine Wo.nil ?_
  refine Wp.seq ?_
  refine Wp.region ?_
  refine Wo.call (by kernel_rfl) (by kernel_rfl) ((awake_run H22)) ?_
  refine Wo.pre 1 (by kernel_rfl) ?_
  refine Wo.pre 1 (by kernel_rfl) ?_
  refine Wo.pre 1 (by kernel_rfl) ?_
  refine Wo.pre 1 (by kernel_rfl) ?_
  refine Wo.val (entV t v') H22 (by kernel_rfl) (iop_ld (a := ⟨H3.n, 0, 0⟩) (by kernel_rfl) F22.1) ?_
  refine Wo.val (entV t v) H22 (by kernel_rfl) (iop_ld (a := ⟨h.n, 0, 0⟩) (by kernel_rfl) G22.2.2) ?_
  refine Wo.call (by kernel_rfl) (by kernel_rfl) (c23) ?_
  refine Wo.pre 1 (by kernel_rfl) ?_
  refine Wo.pre 1 (by kernel_rfl) ?_
  refine Wo.nil ?_
  exact Wp.ret ⟨.inr rfl, .bool true, by kernel_rfl, rfl⟩
end Go.Det

/- Lists of certificates read from bytes: the plain law. -/
set_option linter.unusedVariables false
set_option linter.unusedSimpArgs false
namespace Go.Det
open Go.Proofs

/-- Rows of three-byte vectors, to the end. -/
def cutN : Nat → List UInt8 → Option (List (List UInt8))
  | 0, l => if l = [] then some [] else none
  | k + 1, l => if l = [] then some [] else if vE l 3 = 0 then (cutN k (vL l 3)).map (vX l 3 :: ·) else none

def innerS (cs : List (List UInt8)) : List UInt8 := (cs.map certB).flatten
def listS (cs : List (List UInt8)) : List UInt8 := digits (innerS cs).length 3 3 ++ innerS cs
theorem inner_says (xs : List (AV × List UInt8)) : inner xs = innerS (says xs) := by simp only [inner, innerS, says, List.map_map]; rfl
theorem list_says (xs : List (AV × List UInt8)) : listB xs = listS (says xs) := by simp only [listB, listS, inner_says]

theorem vE3 (l : List UInt8) : vE l 3 = 0 ∨ vE l 3 = 4 := by
  unfold vE
  rw [if_neg (by decide)]
  split
  · exact .inr rfl
  · split
    · exact .inr rfl
    · exact .inl rfl
theorem vE3_iff {l : List UInt8} : vE l 3 = 0 ↔ 3 + be (l.take 3) ≤ l.length := by
  unfold vE
  rw [if_neg (by decide)]
  have e : (3 : Int).toNat = 3 := rfl
  simp only [e]
  split
  · constructor
    · intro h; cases h
    · intro h; omega
  · split
    · constructor
      · intro h; cases h
      · intro h; omega
    · constructor
      · intro h; omega
      · intro h; rfl
theorem vX3 {l : List UInt8} (h : vE l 3 = 0) : vX l 3 = (l.drop 3).take (be (l.take 3)) := by rw [vX, if_pos h]; rfl
theorem vL3 {l : List UInt8} (h : vE l 3 = 0) : vL l 3 = l.drop (3 + be (l.take 3)) := by rw [vL, if_pos h]; rfl
theorem vX3_len {l : List UInt8} (h : vE l 3 = 0) : (vX l 3).length = be (l.take 3) := by
  have := vE3_iff.1 h
  rw [vX3 h, List.length_take, List.length_drop]; omega
theorem vX3_lt (l : List UInt8) : (vX l 3).length < 16777216 := by
  unfold vX
  split
  · rename_i h
    have h1 := vE3_iff.1 h
    have h2 := be_lt (l.take 3)
    have h3 : (l.take 3).length = 3 := by rw [List.length_take]; omega
    rw [h3] at h2
    have e : (3 : Int).toNat = 3 := rfl
    rw [List.length_take, List.length_drop, e]
    omega
  · simp
theorem vL3_len {l : List UInt8} (h : vE l 3 = 0) : (vL l 3).length + 3 ≤ l.length := by
  have := vE3_iff.1 h
  rw [vL3 h, List.length_drop]; omega

/-- Laid down, and read. -/
theorem dec3 {c : List UInt8} (hc : c.length < 16777216) (m : List UInt8) : vE (certB c ++ m) 3 = 0 ∧ vX (certB c ++ m) 3 = c ∧ vL (certB c ++ m) 3 = m := by
  have hbe : be (digits c.length 3 3) = c.length := be_dig' (s := 3) hc
  have htk : (certB c ++ m).take 3 = digits c.length 3 3 := by rw [certB, List.append_assoc, List.take_left' (digits_len _ _ _)]
  have hdr : (certB c ++ m).drop 3 = c ++ m := by rw [certB, List.append_assoc, List.drop_left' (digits_len _ _ _)]
  have hlen : (certB c ++ m).length = 3 + c.length + m.length := by rw [certB]; simp [digits_len, Nat.add_assoc]
  have e0 : vE (certB c ++ m) 3 = 0 := vE3_iff.2 (by rw [htk, hbe]; omega)
  refine ⟨e0, ?_, ?_⟩
  · rw [vX3 e0, htk, hbe, hdr, List.take_left]
  · rw [vL3 e0, htk, hbe, ← List.drop_drop, hdr, List.drop_left]

/-- Read, and laid down. -/
theorem enc3 {l : List UInt8} (h : vE l 3 = 0) : certB (vX l 3) ++ vL l 3 = l := by
  have h1 := vE3_iff.1 h
  have hd := be_digits (l.take 3)
  have h3 : (l.take 3).length = 3 := by rw [List.length_take]; omega
  rw [h3] at hd
  rw [certB, vX3_len h, hd, vX3 h, vL3 h, ← List.drop_drop, List.append_assoc, List.take_append_drop, List.take_append_drop]

theorem cut_dec : ∀ (k : Nat) (l : List UInt8) (cs : List (List UInt8)), cutN k l = some cs → innerS cs = l
  | 0, l, cs, h => by
    simp only [cutN] at h
    split at h
    · rename_i e; simp only [Option.some.injEq] at h; subst h; rw [e]; rfl
    · cases h
  | k + 1, l, cs, h => by
    simp only [cutN] at h
    split at h
    · rename_i e; simp only [Option.some.injEq] at h; subst h; rw [e]; rfl
    · split at h
      · rename_i e
        simp only [Option.map_eq_some_iff] at h
        obtain ⟨ds, h1, rfl⟩ := h
        have := cut_dec k _ _ h1
        simp only [innerS, List.map_cons, List.flatten_cons] at this ⊢
        rw [this]
        exact enc3 e
      · cases h

theorem cut_enc : ∀ (k : Nat) (cs : List (List UInt8)), cs.length ≤ k → (∀ c ∈ cs, c.length < 16777216) → cutN k (innerS cs) = some cs
  | 0, [], _, _ => rfl
  | k + 1, [], _, _ => rfl
  | k + 1, c :: cs, hk, hc => by
    have hd := dec3 (hc c (by simp)) (innerS cs)
    have e : innerS (c :: cs) = certB c ++ innerS cs := by simp [innerS]
    have hne : certB c ++ innerS cs ≠ [] := by
      intro h
      have := congrArg List.length h
      simp [certB, digits_len] at this
    rw [e]
    simp only [cutN]
    rw [if_neg hne, if_pos hd.1, hd.2.1, hd.2.2, cut_enc k cs (by simpa using hk) (fun x hx => hc x (by simp [hx]))]
    rfl

theorem cut_some : ∀ (k : Nat) (l : List UInt8) (cs : List (List UInt8)), cutN k l = some cs → ∀ c ∈ cs, c.length < 16777216
  | 0, l, cs, h => by
    simp only [cutN] at h
    split at h
    · simp only [Option.some.injEq] at h; subst h; intro c hc; simp at hc
    · cases h
  | k + 1, l, cs, h => by
    simp only [cutN] at h
    split at h
    · simp only [Option.some.injEq] at h; subst h; intro c hc; simp at hc
    · split at h
      · simp only [Option.map_eq_some_iff] at h
        obtain ⟨ds, h1, rfl⟩ := h
        intro c hc
        rcases List.mem_cons.1 hc with rfl | hc
        · exact vX3_lt l
        · exact cut_some k _ _ h1 c hc
      · cases h

theorem innerS_cons (c : List UInt8) (cs : List (List UInt8)) : innerS (c :: cs) = certB c ++ innerS cs := by simp [innerS]
theorem innerS_len : ∀ cs : List (List UInt8), cs.length ≤ (innerS cs).length
  | [] => Nat.zero_le _
  | c :: cs => by
    have := innerS_len cs
    rw [innerS_cons]
    simp only [certB, List.length_append, digits_len, List.length_cons]
    omega

/-- The certificates that a list's inner bytes tell. -/
def cutA (l : List UInt8) : Option (List (List UInt8)) := cutN l.length l
theorem cutA_enc {cs : List (List UInt8)} (hc : ∀ c ∈ cs, c.length < 16777216) : cutA (innerS cs) = some cs := cut_enc _ cs (innerS_len cs) hc

/-- The program's: what stands behind is looked at later. -/
def certP (l : List UInt8) : Option (List (List UInt8)) := if vE l 3 = 0 then cutA (vX l 3) else none
/-- The reference's. -/
def certR (l : List UInt8) : Option (List (List UInt8)) := if vL l 3 = [] then certP l else none

theorem certR_dec {l : List UInt8} {cs : List (List UInt8)} (h : certR l = some cs) : listS cs = l ∧ ∀ c ∈ cs, c.length < 16777216 := by
  unfold certR at h
  split at h
  · rename_i e
    unfold certP at h
    split at h
    · rename_i e0
      have h1 := cut_dec _ _ _ h
      have h2 := enc3 e0
      rw [e, List.append_nil, certB] at h2
      exact ⟨by rw [listS, h1]; exact h2, cut_some _ _ _ h⟩
    · cases h
  · cases h
theorem certR_enc {cs : List (List UInt8)} (hc : ∀ c ∈ cs, c.length < 16777216) (hl : (innerS cs).length < 16777216) : certR (listS cs) = some cs := by
  have hd := dec3 hl []
  rw [List.append_nil] at hd
  have e : listS cs = certB (innerS cs) := rfl
  rw [certR, e, if_pos hd.2.2, certP, if_pos hd.1, hd.2.1]
  exact cutA_enc hc

def mayS (cs : List (List UInt8)) : Bool := decide (1 ≤ cs.length ∧ cs.length ≤ 4) && cs.all mayC
theorem may_says (xs : List (AV × List UInt8)) : mayE xs = mayS (says xs) := by simp only [mayE, mayS, says, List.length_map, List.all_map]; rfl
theorem mayS_small {cs : List (List UInt8)} (h : mayS cs = true) : 1 ≤ cs.length ∧ cs.length ≤ 4 ∧ ∀ c ∈ cs, 1 ≤ c.length ∧ c.length ≤ 512 := by
  simp only [mayS, Bool.and_eq_true, decide_eq_true_eq, List.all_eq_true, mayC] at h
  exact ⟨h.1.1, h.1.2, h.2⟩
theorem innerS_le : ∀ (cs : List (List UInt8)), (∀ c ∈ cs, c.length ≤ 512) → (innerS cs).length ≤ 515 * cs.length
  | [], _ => Nat.zero_le _
  | c :: cs, h => by
    have h1 := innerS_le cs (fun x hx => h x (by simp [hx]))
    have h2 := h c (by simp)
    rw [innerS_cons]
    simp only [certB, List.length_append, digits_len, List.length_cons]
    omega
theorem certR_may {cs : List (List UInt8)} (h : mayS cs = true) : certR (listS cs) = some cs := by
  obtain ⟨h1, h2, h3⟩ := mayS_small h
  have := innerS_le cs (fun c hc => (h3 c hc).2)
  exact certR_enc (fun c hc => by have := (h3 c hc).2; omega) (by omega)

/-- A record's entry: time, certificates, error. -/
def recOf (l : List UInt8) : Nat × List (List UInt8) × Int :=
  match (if 8 ≤ l.length then certR (l.drop 8) else none) with
  | some cs => if mayS cs = true then (be (l.take 8), cs, 0) else (0, [], 5)
  | none => (0, [], 5)

theorem rec_bad {l : List UInt8} (h : ¬ 8 ≤ l.length) : recOf l = (0, [], 5) := by simp [recOf, h]
theorem rec_none {l : List UInt8} (h8 : 8 ≤ l.length) (h : certR (l.drop 8) = none) : recOf l = (0, [], 5) := by simp [recOf, h8, h]
theorem rec_may {l : List UInt8} {cs : List (List UInt8)} (h8 : 8 ≤ l.length) (h : certR (l.drop 8) = some cs) (hm : mayS cs = true) : recOf l = (be (l.take 8), cs, 0) := by simp [recOf, h8, h, hm]
theorem rec_not {l : List UInt8} {cs : List (List UInt8)} (h8 : 8 ≤ l.length) (h : certR (l.drop 8) = some cs) (hm : ¬ mayS cs = true) : recOf l = (0, [], 5) := by simp [recOf, h8, h, hm]

theorem be8_lt {l : List UInt8} (h : l.length ≤ 8) : be l < 2 ^ 64 := by
  have h1 := be_lt l
  have h2 : 256 ^ l.length ≤ 256 ^ 8 := Nat.pow_le_pow_right (by decide) h
  have h3 : 256 ^ 8 = 2 ^ 64 := by decide
  omega

/-- What an entry's record is, and back. -/
def recS (t : Nat) (cs : List (List UInt8)) : List UInt8 := digits t 8 8 ++ listS cs
theorem rec_enc {t : Nat} (ht : t < 2 ^ 64) {cs : List (List UInt8)} (hm : mayS cs = true) : recOf (recS t cs) = (t, cs, 0) := by
  have e1 : (recS t cs).drop 8 = listS cs := by rw [recS, List.drop_left' (digits_len _ _ _)]
  have e2 : (recS t cs).take 8 = digits t 8 8 := by rw [recS, List.take_left' (digits_len _ _ _)]
  have h8 : 8 ≤ (recS t cs).length := by rw [recS, List.length_append, digits_len]; omega
  have h3 : t < 256 ^ 8 := by rw [show 256 ^ 8 = 2 ^ 64 by decide]; exact ht
  rw [rec_may h8 (by rw [e1]; exact certR_may hm) hm, e2, be_dig' h3]
theorem rec_dec {l : List UInt8} {t : Nat} {cs : List (List UInt8)} {E : Int} (h : recOf l = (t, cs, E)) : (E = 0 ∧ mayS cs = true ∧ recS t cs = l ∧ t < 2 ^ 64) ∨ (E = 5 ∧ t = 0 ∧ cs = []) := by
  by_cases h8 : 8 ≤ l.length
  · cases hc : certR (l.drop 8) with
    | none => rw [rec_none h8 hc] at h; simp only [Prod.mk.injEq] at h; exact .inr ⟨h.2.2.symm, h.1.symm, h.2.1.symm⟩
    | some ds =>
      by_cases hm : mayS ds = true
      · rw [rec_may h8 hc hm] at h; simp only [Prod.mk.injEq] at h
        obtain ⟨rfl, rfl, rfl⟩ := h
        refine .inl ⟨rfl, hm, ?_, be8_lt (by rw [List.length_take]; omega)⟩
        have hd := be_digits (l.take 8)
        have h3 : (l.take 8).length = 8 := by rw [List.length_take]; omega
        rw [h3] at hd
        rw [recS, (certR_dec hc).1, hd, List.take_append_drop]
      · rw [rec_not h8 hc hm] at h; simp only [Prod.mk.injEq] at h; exact .inr ⟨h.2.2.symm, h.1.symm, h.2.1.symm⟩
  · rw [rec_bad h8] at h; simp only [Prod.mk.injEq] at h; exact .inr ⟨h.2.2.symm, h.1.symm, h.2.1.symm⟩
end Go.Det

/- Lists of certificates read: the walks. -/
set_option linter.unusedVariables false
set_option linter.unusedSimpArgs false
set_option linter.unusedSectionVars false
namespace Go.Det
open Go.Proofs
attribute [local irreducible] Wp Wo Wd iop ev slots quiets wanted put

theorem OwnCh.keepB {lo rb : Nat} {h h' : H} {v : AV} {ys : List (AV × List UInt8)} (hlo : rb < lo) (x : ExtB rb h h') (o : OwnCh lo h v ys) : OwnCh lo h' v ys :=
  ⟨o.row.ext x.1 (fun b g c h1 h2 _ => x.2 b h2 (by omega)), fun p hp => (o.el p hp).keep x.1 (fun b g c h1 h2 _ => x.2 b h2 (by omega))⟩
theorem OwnCh.mono {lo lo' : Nat} {h : H} {v : AV} {ys : List (AV × List UInt8)} (o : OwnCh lo h v ys) (hl : lo' ≤ lo) : OwnCh lo' h v ys :=
  ⟨o.row.imp id (fun ⟨b, g, h1, h2⟩ => ⟨b, g, by omega, h2⟩), fun p hp => (o.el p hp).mono hl⟩

/-- One row more. -/
theorem OwnCh.add {lo : Nat} {h : H} {v c : AV} {cl : List UInt8} {ys : List (AV × List UInt8)} (o : OwnCh lo h v ys) (hlo : lo ≤ h.n) (hc : Ow lo h c cl) (hn : ys.length < 16777216) :
    ∃ H2 l' H3, (∀ {y : IX} {ρ : IX → AV}, ρ y = c → iop (.bsl 22 [.nils] 1 [(0, 1, y)]) ρ h = some (.val (.sl ⟨h.n, 0, 0⟩ 1 (.ex 1)) H2)) ∧ append H2 22 1 24 v (.sl ⟨h.n, 0, 0⟩ 1 (.ex 1)) = some (.val l' H3) ∧ OwnCh lo H3 l' (ys ++ [(c, cl)]) ∧ h.n ≤ H3.n ∧ ∀ b, b < h.n → (b < lo ∨ ∀ g c, h.get b ≠ some (.cells g 22 c 0 false)) → H3.get b = h.get b := by
  have hmx : 200000000000000 = maxRow := rfl
  have hc1 := hc.bs.parts
  have fit : fits (ys.length + 1) 24 = true := by
    simp only [fits, Bool.and_eq_true, decide_eq_true_eq]; omega
  obtain ⟨H2, hH2⟩ : ∃ H2, H2 = h.new (.cells 0 22 [c] 0 false) := ⟨_, rfl⟩
  obtain ⟨l', H3, a3, o3, n3, k3⟩ := o.row.app hlo (new := [c]) rfl (by simp [hc1.2.1]) fit (by omega) H2 hH2
  have kp : ∀ b g c, lo ≤ b → b < h.n → h.get b = some (.cells g 5 c 0 false) → H3.get b = h.get b := fun b g c h1 h2 h3 => k3 b h2 (.inr (fun g c e => by rw [h3] at e; simp at e))
  refine ⟨H2, l', H3, ?_, a3, ⟨by rw [List.map_append, List.length_append]; exact o3, fun r hr => ?_⟩, n3, k3⟩
  · intro y ρ hy
    simp [iop, fillL, hy, hc1.1, hc1.2.1, putAt, ← hH2]
  · rcases List.mem_append.1 hr with hr | hr
    · exact (o.el r hr).keep n3 kp
    · simp only [List.mem_cons, List.not_mem_nil, or_false] at hr
      subst hr
      exact hc.keep n3 kp

theorem cutN_nil (k : Nat) : cutN k [] = some [] := by cases k <;> rfl
theorem cutN_bad {k : Nat} {l : List UInt8} (hl : l ≠ []) (h : vE l 3 = 4) : cutN (k + 1) l = none := by
  simp only [cutN]; rw [if_neg hl, if_neg (by rw [h]; decide)]
theorem cutN_good {k : Nat} {l : List UInt8} (hl : l ≠ []) (h : vE l 3 = 0) : cutN (k + 1) l = (cutN k (vL l 3)).map (vX l 3 :: ·) := by
  simp only [cutN]; rw [if_neg hl, if_pos h]

set_option maxHeartbeats 2000000 in
theorem certs_loop {hb : H} {rb : Nat} {u0 : AV} (hrb : rb < hb.n) (hu0 : ∀ a n c, u0 = .sl a n c → a.b < hb.n) :
    ∀ (k : Nat) (l : List UInt8), l.length ≤ k → ∀ (h : H) (u lV : AV) (ys : List (AV × List UInt8)) (ts : List AV), ys.length + l.length < 16777216 → Rd h rb u l → SB u0 u → ExtB rb hb h → OwnCh hb.n h lV ys → ts.length = 36 → getL ts 6 = some lV → getL ts 7 = some (.ptr ⟨rb, 0, 0⟩) →
      ∀ (Q : Ex → St → Prop), (∀ ts' h' lV' zs cs, cutN k l = some cs → ExtB rb hb h' → OwnCh hb.n h' lV' zs → says zs = says ys ++ cs → ts'.length = 36 → getL ts' 6 = some lV' → Q (.exit 0) (ts', h')) → (∀ ts' h', cutN k l = none → ExtB rb hb h' → ts'.length = 36 → getL ts' 2 = some .nils → getL ts' 3 = some (.int .i64 4) → Q .ret (ts', h')) → Wp TF (.loop l83_1) (ts, h) Q := by
  have hmx : 200000000000000 = maxRow := rfl
  intro k
  induction k with
  | zero =>
    intro l hk h u lV ys ts hn hR hu hE hO t0 t6 t7 Q hQ hQ'
    obtain rfl : l = [] := List.length_eq_zero_iff.1 (by omega)
    refine Wp.loop ?_
    rw [laid_eq t0 [(6, lV), (7, .ptr ⟨rb, 0, 0⟩)] (by simp [t6, t7])]
    unfold l83_1
    refine Wp.seq ?_
    refine Wp.seq ?_
    refine Wp.region ?_
    refine Wo.pre 1 (by kernel_rfl) ?_
    refine Wo.call (by kernel_rfl) (by kernel_rfl) ((left_run hR)) ?_
    refine Wo.val (.bool false) h (by kernel_rfl) (iop_cmp (op := .gtr) (k := .i64) (a := ([] : List UInt8).length) (b := 0) false (by kernel_rfl) (by kernel_rfl) (by simp) (by simp [binInt])) ?_
    refine Wo.nil ?_
    refine Wp.cond false (by kernel_rfl) ?_
    exact Wp.exit (hQ _ _ lV ys [] (cutN_nil _) hE hO (by simp) (by kernel_rfl) (by kernel_rfl))
  | succ k ih =>
    intro l hk h u lV ys ts hn hR hu hE hO t0 t6 t7 Q hQ hQ'
    by_cases hl : l = []
    · subst hl
      refine Wp.loop ?_
      rw [laid_eq t0 [(6, lV), (7, .ptr ⟨rb, 0, 0⟩)] (by simp [t6, t7])]
      unfold l83_1
      refine Wp.seq ?_
      refine Wp.seq ?_
      refine Wp.region ?_
      refine Wo.pre 1 (by kernel_rfl) ?_
      refine Wo.call (by kernel_rfl) (by kernel_rfl) ((left_run hR)) ?_
      refine Wo.val (.bool false) h (by kernel_rfl) (iop_cmp (op := .gtr) (k := .i64) (a := ([] : List UInt8).length) (b := 0) false (by kernel_rfl) (by kernel_rfl) (by simp) (by simp [binInt])) ?_
      refine Wo.nil ?_
      refine Wp.cond false (by kernel_rfl) ?_
      exact Wp.exit (hQ _ _ lV ys [] (cutN_nil _) hE hO (by simp) (by kernel_rfl) (by kernel_rfl))
    · have hpos : 0 < l.length := List.length_pos_iff.2 hl
      obtain ⟨h1, x, u', c1, hR1, hx, hE1, hu1⟩ := vec_any hR 3 (by omega)
      have hE1' := hE.trans hE1
      rcases vE3 l with he | he
      · rw [he] at c1
        have hl3 := vL3_len he
        have hn0 := hE.1
        have hn1 := hE1'.1
        have hO1 := hO.keepB hrb hE1
        obtain ⟨H2, l', H3, b2, a3, hO3, n3, k3⟩ := hO1.add (by omega) (hx.mono hn0) (by omega)
        have hE3 : ExtB rb hb H3 := ⟨by omega, fun b hb1 hb2 => by rw [k3 b (by omega) (.inl hb1)]; exact hE1'.2 b hb1 hb2⟩
        have hub := hu.trans hu1
        have hR3 : Rd H3 rb u' (vL l 3) := hR1.keep n3 (k3 rb (by omega) (.inl hrb)) (fun a n c e => by
          obtain ⟨a0, n0, q0, e0, e1⟩ := hub a n c e
          have := hu0 a0 n0 q0 e0
          exact k3 a.b (by omega) (.inl (by omega)))
        refine Wp.loop ?_
        rw [laid_eq t0 [(6, lV), (7, .ptr ⟨rb, 0, 0⟩)] (by simp [t6, t7])]
        unfold l83_1
        refine Wp.seq ?_
        refine Wp.seq ?_
        refine Wp.region ?_
        refine Wo.pre 1 (by kernel_rfl) ?_
        refine Wo.call (by kernel_rfl) (by kernel_rfl) ((left_run hR)) ?_
        refine Wo.val (.bool true) h (by kernel_rfl) (iop_cmp (op := .gtr) (k := .i64) (a := l.length) (b := 0) true (by kernel_rfl) (by kernel_rfl) (by simp) (by simp [binInt, hpos])) ?_
        refine Wo.nil ?_
        refine Wp.cond true (by kernel_rfl) ?_
        refine Wp.skip ?_
        refine Wp.block ?_
        refine Wp.seq ?_
        refine Wp.region ?_
        refine Wo.pre 1 (by kernel_rfl) ?_
        refine Wo.call (by kernel_rfl) (by kernel_rfl) (c1) ?_
        refine Wo.pre 1 (by kernel_rfl) ?_
        refine Wo.pre 1 (by kernel_rfl) ?_
        refine Wo.pre 1 (by kernel_rfl) ?_
        refine Wo.pre 1 (by kernel_rfl) ?_
        refine Wo.pre 1 (by kernel_rfl) ?_
        refine Wo.nil ?_
        refine Wp.seq ?_
        refine Wp.seq ?_
        refine Wp.region ?_
        refine Wo.pre 1 (by kernel_rfl) ?_
        refine Wo.pre 1 (by kernel_rfl) ?_
        refine Wo.nil ?_
        refine Wp.cond false (by kernel_rfl) ?_
        refine Wp.skip ?_
        refine Wp.region ?_
        refine Wo.pre 1 (by kernel_rfl) ?_
        refine Wo.pre 1 (by kernel_rfl) ?_
        refine Wo.val _ H2 (by kernel_rfl) (b2 (by kernel_rfl)) ?_
        refine Wo.val l' H3 (by kernel_rfl) (iop_appG (v := lV) (w := .sl ⟨h1.n, 0, 0⟩ 1 (.ex 1)) (by kernel_rfl) (by kernel_rfl) rfl a3) ?_
        refine Wo.pre 1 (by kernel_rfl) ?_
        refine Wo.nil ?_
        refine ih (vL l 3) (by omega) H3 u' l' _ _ (by rw [List.length_append]; simp only [List.length_cons, List.length_nil]; omega) hR3 hub hE3 hO3 (by kernel_rfl) (by kernel_rfl) (by kernel_rfl) Q (fun ts' h' lV' zs cs q1 q2 q3 q4 q5 q6 => ?_) (fun ts' h' q1 q2 q3 q4 q5 => hQ' ts' h' (by rw [cutN_good hl he, q1]; rfl) q2 q3 q4 q5)
        exact hQ ts' h' lV' zs (vX l 3 :: cs) (by rw [cutN_good hl he, q1]; rfl) q2 q3 (by rw [q4]; simp [says]) q5 q6
      · rw [he] at c1
        refine Wp.loop ?_
        rw [laid_eq t0 [(6, lV), (7, .ptr ⟨rb, 0, 0⟩)] (by simp [t6, t7])]
        unfold l83_1
        refine Wp.seq ?_
        refine Wp.seq ?_
        refine Wp.region ?_
        refine Wo.pre 1 (by kernel_rfl) ?_
        refine Wo.call (by kernel_rfl) (by kernel_rfl) ((left_run hR)) ?_
        refine Wo.val (.bool true) h (by kernel_rfl) (iop_cmp (op := .gtr) (k := .i64) (a := l.length) (b := 0) true (by kernel_rfl) (by kernel_rfl) (by simp) (by simp [binInt, hpos])) ?_
        refine Wo.nil ?_
        refine Wp.cond true (by kernel_rfl) ?_
        refine Wp.skip ?_
        refine Wp.block ?_
        refine Wp.seq ?_
        refine Wp.region ?_
        refine Wo.pre 1 (by kernel_rfl) ?_
        refine Wo.call (by kernel_rfl) (by kernel_rfl) (c1) ?_
        refine Wo.pre 1 (by kernel_rfl) ?_
        refine Wo.pre 1 (by kernel_rfl) ?_
        refine Wo.pre 1 (by kernel_rfl) ?_
        refine Wo.pre 1 (by kernel_rfl) ?_
        refine Wo.pre 1 (by kernel_rfl) ?_
        refine Wo.nil ?_
        refine Wp.seq ?_
        refine Wp.seq ?_
        refine Wp.region ?_
        refine Wo.pre 1 (by kernel_rfl) ?_
        refine Wo.pre 1 (by kernel_rfl) ?_
        refine Wo.nil ?_
        refine Wp.cond true (by kernel_rfl) ?_
        refine Wp.seq ?_
        refine Wp.region ?_
        refine Wo.pre 1 (by kernel_rfl) ?_
        refine Wo.pre 1 (by kernel_rfl) ?_
        refine Wo.pre 1 (by kernel_rfl) ?_
        refine Wo.nil ?_
        exact Wp.ret (hQ' _ _ (cutN_bad hl he) hE1' (by kernel_rfl) (by kernel_rfl) (by kernel_rfl))

set_option maxHeartbeats 2000000 in
theorem rcerts_loop {hb : H} {rb : Nat} {u0 : AV} (hrb : rb < hb.n) (hu0 : ∀ a n c, u0 = .sl a n c → a.b < hb.n) :
    ∀ (k : Nat) (l : List UInt8), l.length ≤ k → ∀ (h : H) (u lV : AV) (ys : List (AV × List UInt8)) (ts : List AV), ys.length + l.length < 16777216 → RRd h rb u l → SB u0 u → ExtB rb hb h → OwnCh hb.n h lV ys → ts.length = 48 → getL ts 7 = some lV → getL ts 8 = some (.ptr ⟨rb, 0, 0⟩) →
      ∀ (Q : Ex → St → Prop), (∀ ts' h' lV' zs cs, cutN k l = some cs → ExtB rb hb h' → OwnCh hb.n h' lV' zs → says zs = says ys ++ cs → ts'.length = 48 → getL ts' 7 = some lV' → Q (.exit 0) (ts', h')) → (∀ ts' h', cutN k l = none → ExtB rb hb h' → ts'.length = 48 → getL ts' 2 = some .nils → getL ts' 3 = some (.bool false) → Q .ret (ts', h')) → Wp TF (.loop l84_1) (ts, h) Q := by
  have hmx : 200000000000000 = maxRow := rfl
  intro k
  induction k with
  | zero =>
    intro l hk h u lV ys ts hn hR hu hE hO t0 t6 t7 Q hQ hQ'
    obtain rfl : l = [] := List.length_eq_zero_iff.1 (by omega)
    refine Wp.loop ?_
    rw [laid_eq t0 [(7, lV), (8, .ptr ⟨rb, 0, 0⟩)] (by simp [t6, t7])]
    unfold l84_1
    refine Wp.seq ?_
    refine Wp.seq ?_
    refine Wp.region ?_
    refine Wo.pre 1 (by kernel_rfl) ?_
    refine Wo.pre 1 (by kernel_rfl) ?_
    refine Wo.pre 1 (by kernel_rfl) ?_
    refine Wo.val u h (by kernel_rfl) (iop_ld (a := ⟨rb, 0, 0⟩) (by kernel_rfl) hR.ld) ?_
    refine Wo.val (.int .i64 ([] : List UInt8).length) h (by kernel_rfl) ((hR.2.2.1.len (by kernel_rfl))) ?_
    refine Wo.val (.bool false) h (by kernel_rfl) (iop_cmp (op := .gtr) (k := .i64) (a := ([] : List UInt8).length) (b := 0) false (by kernel_rfl) (by kernel_rfl) (by simp) (by simp [binInt])) ?_
    refine Wo.nil ?_
    refine Wp.cond false (by kernel_rfl) ?_
    exact Wp.exit (hQ _ _ lV ys [] (cutN_nil _) hE hO (by simp) (by kernel_rfl) (by kernel_rfl))
  | succ k ih =>
    intro l hk h u lV ys ts hn hR hu hE hO t0 t6 t7 Q hQ hQ'
    by_cases hl : l = []
    · subst hl
      refine Wp.loop ?_
      rw [laid_eq t0 [(7, lV), (8, .ptr ⟨rb, 0, 0⟩)] (by simp [t6, t7])]
      unfold l84_1
      refine Wp.seq ?_
      refine Wp.seq ?_
      refine Wp.region ?_
      refine Wo.pre 1 (by kernel_rfl) ?_
      refine Wo.pre 1 (by kernel_rfl) ?_
      refine Wo.pre 1 (by kernel_rfl) ?_
      refine Wo.val u h (by kernel_rfl) (iop_ld (a := ⟨rb, 0, 0⟩) (by kernel_rfl) hR.ld) ?_
      refine Wo.val (.int .i64 ([] : List UInt8).length) h (by kernel_rfl) ((hR.2.2.1.len (by kernel_rfl))) ?_
      refine Wo.val (.bool false) h (by kernel_rfl) (iop_cmp (op := .gtr) (k := .i64) (a := ([] : List UInt8).length) (b := 0) false (by kernel_rfl) (by kernel_rfl) (by simp) (by simp [binInt])) ?_
      refine Wo.nil ?_
      refine Wp.cond false (by kernel_rfl) ?_
      exact Wp.exit (hQ _ _ lV ys [] (cutN_nil _) hE hO (by simp) (by kernel_rfl) (by kernel_rfl))
    · have hpos : 0 < l.length := List.length_pos_iff.2 hl
      obtain ⟨h1, x, u', c1, hR1, hx, hE1, hu1⟩ := rrvec_any hR 3 (by omega)
      have hE1' := hE.trans hE1
      rcases vE3 l with he | he
      · rw [he] at c1
        have hl3 := vL3_len he
        have hn0 := hE.1
        have hn1 := hE1'.1
        have hO1 := hO.keepB hrb hE1
        obtain ⟨H2, l', H3, b2, a3, hO3, n3, k3⟩ := hO1.add (by omega) (hx.mono hn0) (by omega)
        have hE3 : ExtB rb hb H3 := ⟨by omega, fun b hb1 hb2 => by rw [k3 b (by omega) (.inl hb1)]; exact hE1'.2 b hb1 hb2⟩
        have hub := hu.trans hu1
        have hR3 : RRd H3 rb u' (vL l 3) := hR1.keep n3 (k3 rb (by omega) (.inl hrb)) (fun a n c e => by
          obtain ⟨a0, n0, q0, e0, e1⟩ := hub a n c e
          have := hu0 a0 n0 q0 e0
          exact k3 a.b (by omega) (.inl (by omega)))
        refine Wp.loop ?_
        rw [laid_eq t0 [(7, lV), (8, .ptr ⟨rb, 0, 0⟩)] (by simp [t6, t7])]
        unfold l84_1
        refine Wp.seq ?_
        refine Wp.seq ?_
        refine Wp.region ?_
        refine Wo.pre 1 (by kernel_rfl) ?_
        refine Wo.pre 1 (by kernel_rfl) ?_
        refine Wo.pre 1 (by kernel_rfl) ?_
        refine Wo.val u h (by kernel_rfl) (iop_ld (a := ⟨rb, 0, 0⟩) (by kernel_rfl) hR.ld) ?_
        refine Wo.val (.int .i64 l.length) h (by kernel_rfl) ((hR.2.2.1.len (by kernel_rfl))) ?_
        refine Wo.val (.bool true) h (by kernel_rfl) (iop_cmp (op := .gtr) (k := .i64) (a := l.length) (b := 0) true (by kernel_rfl) (by kernel_rfl) (by simp) (by simp [binInt, hpos])) ?_
        refine Wo.nil ?_
        refine Wp.cond true (by kernel_rfl) ?_
        refine Wp.skip ?_
        refine Wp.block ?_
        refine Wp.seq ?_
        refine Wp.region ?_
        refine Wo.pre 1 (by kernel_rfl) ?_
        refine Wo.call (by kernel_rfl) (by kernel_rfl) (c1) ?_
        refine Wo.pre 1 (by kernel_rfl) ?_
        refine Wo.pre 1 (by kernel_rfl) ?_
        refine Wo.pre 1 (by kernel_rfl) ?_
        refine Wo.pre 1 (by kernel_rfl) ?_
        refine Wo.pre 1 (by kernel_rfl) ?_
        refine Wo.nil ?_
        refine Wp.seq ?_
        refine Wp.seq ?_
        refine Wp.region ?_
        refine Wo.pre 1 (by kernel_rfl) ?_
        refine Wo.pre 1 (by kernel_rfl) ?_
        refine Wo.nil ?_
        refine Wp.cond false (by kernel_rfl) ?_
        refine Wp.skip ?_
        refine Wp.region ?_
        refine Wo.pre 1 (by kernel_rfl) ?_
        refine Wo.pre 1 (by kernel_rfl) ?_
        refine Wo.val _ H2 (by kernel_rfl) (b2 (by kernel_rfl)) ?_
        refine Wo.val l' H3 (by kernel_rfl) (iop_appG (v := lV) (w := .sl ⟨h1.n, 0, 0⟩ 1 (.ex 1)) (by kernel_rfl) (by kernel_rfl) rfl a3) ?_
        refine Wo.pre 1 (by kernel_rfl) ?_
        refine Wo.nil ?_
        refine ih (vL l 3) (by omega) H3 u' l' _ _ (by rw [List.length_append]; simp only [List.length_cons, List.length_nil]; omega) hR3 hub hE3 hO3 (by kernel_rfl) (by kernel_rfl) (by kernel_rfl) Q (fun ts' h' lV' zs cs q1 q2 q3 q4 q5 q6 => ?_) (fun ts' h' q1 q2 q3 q4 q5 => hQ' ts' h' (by rw [cutN_good hl he, q1]; rfl) q2 q3 q4 q5)
        exact hQ ts' h' lV' zs (vX l 3 :: cs) (by rw [cutN_good hl he, q1]; rfl) q2 q3 (by rw [q4]; simp [says]) q5 q6
      · rw [he] at c1
        refine Wp.loop ?_
        rw [laid_eq t0 [(7, lV), (8, .ptr ⟨rb, 0, 0⟩)] (by simp [t6, t7])]
        unfold l84_1
        refine Wp.seq ?_
        refine Wp.seq ?_
        refine Wp.region ?_
        refine Wo.pre 1 (by kernel_rfl) ?_
        refine Wo.pre 1 (by kernel_rfl) ?_
        refine Wo.pre 1 (by kernel_rfl) ?_
        refine Wo.val u h (by kernel_rfl) (iop_ld (a := ⟨rb, 0, 0⟩) (by kernel_rfl) hR.ld) ?_
        refine Wo.val (.int .i64 l.length) h (by kernel_rfl) ((hR.2.2.1.len (by kernel_rfl))) ?_
        refine Wo.val (.bool true) h (by kernel_rfl) (iop_cmp (op := .gtr) (k := .i64) (a := l.length) (b := 0) true (by kernel_rfl) (by kernel_rfl) (by simp) (by simp [binInt, hpos])) ?_
        refine Wo.nil ?_
        refine Wp.cond true (by kernel_rfl) ?_
        refine Wp.skip ?_
        refine Wp.block ?_
        refine Wp.seq ?_
        refine Wp.region ?_
        refine Wo.pre 1 (by kernel_rfl) ?_
        refine Wo.call (by kernel_rfl) (by kernel_rfl) (c1) ?_
        refine Wo.pre 1 (by kernel_rfl) ?_
        refine Wo.pre 1 (by kernel_rfl) ?_
        refine Wo.pre 1 (by kernel_rfl) ?_
        refine Wo.pre 1 (by kernel_rfl) ?_
        refine Wo.pre 1 (by kernel_rfl) ?_
        refine Wo.nil ?_
        refine Wp.seq ?_
        refine Wp.seq ?_
        refine Wp.region ?_
        refine Wo.pre 1 (by kernel_rfl) ?_
        refine Wo.pre 1 (by kernel_rfl) ?_
        refine Wo.nil ?_
        refine Wp.cond true (by kernel_rfl) ?_
        refine Wp.seq ?_
        refine Wp.region ?_
        refine Wo.pre 1 (by kernel_rfl) ?_
        refine Wo.pre 1 (by kernel_rfl) ?_
        refine Wo.nil ?_
        exact Wp.ret (hQ' _ _ (cutN_bad hl he) hE1' (by kernel_rfl) (by kernel_rfl) (by kernel_rfl))

theorem certP_bad {l : List UInt8} (h : vE l 3 = 4) : certP l = none := by rw [certP, if_neg (by rw [h]; decide)]
theorem certP_good {l : List UInt8} (h : vE l 3 = 0) : certP l = cutN (vX l 3).length (vX l 3) := by rw [certP, if_pos h]; rfl

set_option maxHeartbeats 2000000 in
theorem certs_run {h : H} {b : Nat} {v : AV} {l : List UInt8} (hR : Rd h b v l) (hl : l.length ≤ maxRow) :
    ∃ r h', Runs TF 83 [.ptr ⟨b, 0, 0⟩] h r h' ∧ ∃ z E v', r = .tup [z, .int .i64 E] ∧ Rd h' b v' (vL l 3) ∧ ExtB b h h' ∧ SB v v' ∧ ((certP l = none ∧ E = 4 ∧ z = .nils) ∨ ∃ ps, certP l = some (says ps) ∧ E = 0 ∧ OwnCh h.n h' z ps) := by
  have hmx : 200000000000000 = maxRow := rfl
  refine Runs.ofP f83 rfl ?_
  obtain ⟨h1, x, v', c1, hR1, hx, hE1, hs⟩ := vec_any hR 3 hl
  rcases vE3 l with he | he
  · rw [he] at c1
    have hlt := vX3_lt l
    obtain ⟨p, h2, c2, rb, u, rfl, hrb, hR2, hX2, hu, hub⟩ := new_run hx.bs (by omega)
    have k1 := hE1.1
    have k2 := hX2.1
    have hb1 := hR1.1
    refine Wp.seq ?_
    refine Wp.region ?_
    refine Wo.pre 8 (by kernel_rfl) ?_
    refine Wo.nil ?_
    refine Wp.seq ?_
    refine Wp.region ?_
    refine Wo.pre 1 (by kernel_rfl) ?_
    refine Wo.call (by kernel_rfl) (by kernel_rfl) (c1) ?_
    refine Wo.pre 8 (by kernel_rfl) ?_
    refine Wo.nil ?_
    refine Wp.seq ?_
    refine Wp.seq ?_
    refine Wp.region ?_
    refine Wo.pre 8 (by kernel_rfl) ?_
    refine Wo.nil ?_
    refine Wp.cond false (by kernel_rfl) ?_
    refine Wp.skip ?_
    refine Wp.seq ?_
    refine Wp.region ?_
    refine Wo.pre 8 (by kernel_rfl) ?_
    refine Wo.nil ?_
    refine Wp.seq ?_
    refine Wp.seq ?_
    refine Wp.region ?_
    refine Wo.pre 1 (by kernel_rfl) ?_
    refine Wo.call (by kernel_rfl) (by kernel_rfl) (c2) ?_
    refine Wo.pre 8 (by kernel_rfl) ?_
    refine Wo.nil ?_
    refine Wp.block ?_
    refine certs_loop hR2.1 (u0 := u) (fun a n c e => hR2.2.2.1.lt e) (vX l 3).length (vX l 3) (Nat.le_refl _) h2 u .nils [] _ (by simp; omega) hR2 (SB.refl _) (Ext.b (Ext.refl _) _) ⟨.inl ⟨rfl, rfl, rfl⟩, fun p hp => by simp at hp⟩ (by kernel_rfl) (by kernel_rfl) (by kernel_rfl) _ (fun ts' h' lV' zs cs q1 q2 q3 q4 q5 q6 => ?_) (fun ts' h' q1 q2 q3 q4 q5 => ?_)
    · have hR' : Rd h' b v' (vL l 3) := hR1.keep (by have := q2.1; omega) (by rw [q2.2 b (by omega) (by omega)]; exact hX2.2 b hb1) (fun a n c e => by
        have := hR1.2.2.1.lt e
        rw [q2.2 a.b (by omega) (by omega)]; exact hX2.2 a.b this)
      have hE' : ExtB b h h' := ⟨by have := q2.1; omega, fun k hk hkb => by rw [q2.2 k (by omega) (by omega), hX2.2 k (by omega)]; exact hE1.2 k hk hkb⟩
      rw [laid_eq q5 [(6, lV')] (by simp [q6])]
      refine Wp.seq ?_
      refine Wp.region ?_
      refine Wo.pre 8 (by kernel_rfl) ?_
      refine Wo.nil ?_
      exact Wp.ret ⟨.inr rfl, _, (by kernel_rfl), lV', 0, v', rfl, hR', hE', hs, .inr ⟨zs, by rw [certP_good he, q1, q4]; rfl, rfl, q3.mono (by omega)⟩⟩
    · have hR' : Rd h' b v' (vL l 3) := hR1.keep (by have := q2.1; omega) (by rw [q2.2 b (by omega) (by omega)]; exact hX2.2 b hb1) (fun a n c e => by
        have := hR1.2.2.1.lt e
        rw [q2.2 a.b (by omega) (by omega)]; exact hX2.2 a.b this)
      have hE' : ExtB b h h' := ⟨by have := q2.1; omega, fun k hk hkb => by rw [q2.2 k (by omega) (by omega), hX2.2 k (by omega)]; exact hE1.2 k hk hkb⟩
      refine ⟨.inr rfl, .tup [.nils, .int .i64 4], ?_, .nils, 4, v', rfl, hR', hE', hs, .inl ⟨by rw [certP_good he, q1], rfl, rfl⟩⟩
      simp [retV, resOf, iop, ev, q4, q5]
  · rw [he] at c1
    refine Wp.seq ?_
    refine Wp.region ?_
    refine Wo.pre 8 (by kernel_rfl) ?_
    refine Wo.nil ?_
    refine Wp.seq ?_
    refine Wp.region ?_
    refine Wo.pre 1 (by kernel_rfl) ?_
    refine Wo.call (by kernel_rfl) (by kernel_rfl) (c1) ?_
    refine Wo.pre 8 (by kernel_rfl) ?_
    refine Wo.nil ?_
    refine Wp.seq ?_
    refine Wp.seq ?_
    refine Wp.region ?_
    refine Wo.pre 8 (by kernel_rfl) ?_
    refine Wo.nil ?_
    refine Wp.cond true (by kernel_rfl) ?_
    refine Wp.seq ?_
    refine Wp.region ?_
    refine Wo.pre 8 (by kernel_rfl) ?_
    refine Wo.nil ?_
    exact Wp.ret ⟨.inr rfl, _, (by kernel_rfl), .nils, 4, v', rfl, hR1, hE1, hs, .inl ⟨certP_bad he, rfl, rfl⟩⟩

theorem certR_bad {l : List UInt8} (h : vE l 3 = 4) : certR l = none := by rw [certR, certP_bad h]; split <;> rfl
theorem certR_more {l : List UInt8} (h : vL l 3 ≠ []) : certR l = none := by rw [certR, if_neg h]
theorem certR_good {l : List UInt8} (h : vE l 3 = 0) (h2 : vL l 3 = []) : certR l = cutN (vX l 3).length (vX l 3) := by rw [certR, if_pos h2, certP_good h]

set_option maxHeartbeats 2000000 in
theorem rcerts_run {h : H} {y : AV} {l : List UInt8} (hy : Bs h y l) (hl : l.length ≤ maxRow) :
    ∃ r h', Runs TF 84 [y] h r h' ∧ ∃ z ok, r = .tup [z, .bool ok] ∧ Ext h h' ∧ ((certR l = none ∧ ok = false ∧ z = .nils) ∨ ∃ ps, certR l = some (says ps) ∧ ok = true ∧ OwnCh h.n h' z ps) := by
  have hmx : 200000000000000 = maxRow := rfl
  refine Runs.ofP f84 rfl ?_
  obtain ⟨h0, b, v, c0, hb0, hR0, hX0, hub0⟩ := rrnew_run hy hl
  obtain ⟨h1, x, v', c1, hR1, hx, hE1, hs⟩ := rrvec_any hR0 3 hl
  have k0 := hX0.1
  have k1 := hE1.1
  have hX1 : Ext h h1 := ⟨by omega, fun k hk => by rw [hE1.2 k (by omega) (by omega)]; exact hX0.2 k hk⟩
  rcases vE3 l with he | he
  · rw [he] at c1
    have hlt := vX3_lt l
    by_cases hm : vL l 3 = []
    · rw [hm] at hR1
      obtain ⟨h2, rb, u, c2, hrb, hR2, hX2, hub⟩ := rrnew_run hx.bs (by omega)
      have k2 := hX2.1
      refine Wp.seq ?_
      refine Wp.region ?_
      refine Wo.pre 1 (by kernel_rfl) ?_
      refine Wo.pre 1 (by kernel_rfl) ?_
      refine Wo.nil ?_
      refine Wp.seq ?_
      refine Wp.region ?_
      refine Wo.pre 1 (by kernel_rfl) ?_
      refine Wo.call (by kernel_rfl) (by kernel_rfl) (c0) ?_
      refine Wo.pre 1 (by kernel_rfl) ?_
      refine Wo.nil ?_
      refine Wp.seq ?_
      refine Wp.region ?_
      refine Wo.pre 1 (by kernel_rfl) ?_
      refine Wo.call (by kernel_rfl) (by kernel_rfl) (c1) ?_
      refine Wo.pre 1 (by kernel_rfl) ?_
      refine Wo.pre 1 (by kernel_rfl) ?_
      refine Wo.pre 1 (by kernel_rfl) ?_
      refine Wo.pre 1 (by kernel_rfl) ?_
      refine Wo.pre 1 (by kernel_rfl) ?_
      refine Wo.nil ?_
      refine Wp.seq ?_
      refine Wp.seq ?_
      refine Wp.region ?_
      refine Wo.pre 1 (by kernel_rfl) ?_
      refine Wo.pre 1 (by kernel_rfl) ?_
      refine Wo.pre 1 (by kernel_rfl) ?_
      refine Wo.pre 1 (by kernel_rfl) ?_
      refine Wo.pre 1 (by kernel_rfl) ?_
      refine Wo.pre 1 (by kernel_rfl) ?_
      refine Wo.val v' h1 (by kernel_rfl) (iop_ld (a := ⟨b, 0, 0⟩) (by kernel_rfl) hR1.ld) ?_
      refine Wo.val (.int .i64 ([] : List UInt8).length) h1 (by kernel_rfl) ((hR1.2.2.1.len (by kernel_rfl))) ?_
      refine Wo.val (.bool false) h1 (by kernel_rfl) (iop_cmp (op := .gtr) (k := .i64) (a := ([] : List UInt8).length) (b := 0) false (by kernel_rfl) (by kernel_rfl) (by simp) (by simp [binInt])) ?_
      refine Wo.pre 1 (by kernel_rfl) ?_
      refine Wo.nil ?_
      refine Wp.cond false (by kernel_rfl) ?_
      refine Wp.skip ?_
      refine Wp.seq ?_
      refine Wp.region ?_
      refine Wo.pre 1 (by kernel_rfl) ?_
      refine Wo.nil ?_
      refine Wp.seq ?_
      refine Wp.region ?_
      refine Wo.pre 1 (by kernel_rfl) ?_
      refine Wo.call (by kernel_rfl) (by kernel_rfl) (c2) ?_
      refine Wo.pre 1 (by kernel_rfl) ?_
      refine Wo.nil ?_
      refine Wp.seq ?_
      refine Wp.block ?_
      refine rcerts_loop hR2.1 (u0 := u) (fun a n c e => hR2.2.2.1.lt e) (vX l 3).length (vX l 3) (Nat.le_refl _) h2 u .nils [] _ (by simp; omega) hR2 (SB.refl _) (Ext.b (Ext.refl _) _) ⟨.inl ⟨rfl, rfl, rfl⟩, fun p hp => by simp at hp⟩ (by kernel_rfl) (by kernel_rfl) (by kernel_rfl) _ (fun ts' h' lV' zs cs q1 q2 q3 q4 q5 q6 => ?_) (fun ts' h' q1 q2 q3 q4 q5 => ?_)
      · have hE' : Ext h h' := ⟨by have := q2.1; omega, fun k hk => by rw [q2.2 k (by omega) (by omega), hX2.2 k (by omega)]; exact hX1.2 k hk⟩
        rw [laid_eq q5 [(7, lV')] (by simp [q6])]
        refine Wp.seq ?_
        refine Wp.region ?_
        refine Wo.pre 8 (by kernel_rfl) ?_
        refine Wo.nil ?_
        exact Wp.ret ⟨.inr rfl, _, (by kernel_rfl), lV', true, rfl, hE', .inr ⟨zs, by rw [certR_good he hm, q1, q4]; rfl, rfl, q3.mono (by omega)⟩⟩
      · have hE' : Ext h h' := ⟨by have := q2.1; omega, fun k hk => by rw [q2.2 k (by omega) (by omega), hX2.2 k (by omega)]; exact hX1.2 k hk⟩
        refine ⟨.inr rfl, .tup [.nils, .bool false], ?_, .nils, false, rfl, hE', .inl ⟨by rw [certR_good he hm, q1], rfl, rfl⟩⟩
        simp [retV, resOf, iop, ev, q4, q5]
    · have hpos : 0 < (vL l 3).length := List.length_pos_iff.2 hm
      refine Wp.seq ?_
      refine Wp.region ?_
      refine Wo.pre 1 (by kernel_rfl) ?_
      refine Wo.pre 1 (by kernel_rfl) ?_
      refine Wo.nil ?_
      refine Wp.seq ?_
      refine Wp.region ?_
      refine Wo.pre 1 (by kernel_rfl) ?_
      refine Wo.call (by kernel_rfl) (by kernel_rfl) (c0) ?_
      refine Wo.pre 1 (by kernel_rfl) ?_
      refine Wo.nil ?_
      refine Wp.seq ?_
      refine Wp.region ?_
      refine Wo.pre 1 (by kernel_rfl) ?_
      refine Wo.call (by kernel_rfl) (by kernel_rfl) (c1) ?_
      refine Wo.pre 1 (by kernel_rfl) ?_
      refine Wo.pre 1 (by kernel_rfl) ?_
      refine Wo.pre 1 (by kernel_rfl) ?_
      refine Wo.pre 1 (by kernel_rfl) ?_
      refine Wo.pre 1 (by kernel_rfl) ?_
      refine Wo.nil ?_
      refine Wp.seq ?_
      refine Wp.seq ?_
      refine Wp.region ?_
      refine Wo.pre 1 (by kernel_rfl) ?_
      refine Wo.pre 1 (by kernel_rfl) ?_
      refine Wo.pre 1 (by kernel_rfl) ?_
      refine Wo.pre 1 (by kernel_rfl) ?_
      refine Wo.pre 1 (by kernel_rfl) ?_
      refine Wo.pre 1 (by kernel_rfl) ?_
      refine Wo.val v' h1 (by kernel_rfl) (iop_ld (a := ⟨b, 0, 0⟩) (by kernel_rfl) hR1.ld) ?_
      refine Wo.val (.int .i64 (vL l 3).length) h1 (by kernel_rfl) ((hR1.2.2.1.len (by kernel_rfl))) ?_
      refine Wo.val (.bool true) h1 (by kernel_rfl) (iop_cmp (op := .gtr) (k := .i64) (a := (vL l 3).length) (b := 0) true (by kernel_rfl) (by kernel_rfl) (by simp) (by simp [binInt, hpos])) ?_
      refine Wo.pre 1 (by kernel_rfl) ?_
      refine Wo.nil ?_
      refine Wp.cond true (by kernel_rfl) ?_
      refine Wp.seq ?_
      refine Wp.region ?_
      refine Wo.pre 1 (by kernel_rfl) ?_
      refine Wo.pre 1 (by kernel_rfl) ?_
      refine Wo.nil ?_
      exact Wp.ret ⟨.inr rfl, _, (by kernel_rfl), .nils, false, rfl, hX1, .inl ⟨certR_more hm, rfl, rfl⟩⟩
  · rw [he] at c1
    refine Wp.seq ?_
    refine Wp.region ?_
    refine Wo.pre 8 (by kernel_rfl) ?_
    refine Wo.nil ?_
    refine Wp.seq ?_
    refine Wp.region ?_
    refine Wo.pre 1 (by kernel_rfl) ?_
    refine Wo.call (by kernel_rfl) (by kernel_rfl) (c0) ?_
    refine Wo.pre 8 (by kernel_rfl) ?_
    refine Wo.nil ?_
    refine Wp.seq ?_
    refine Wp.region ?_
    refine Wo.pre 1 (by kernel_rfl) ?_
    refine Wo.call (by kernel_rfl) (by kernel_rfl) (c1) ?_
    refine Wo.pre 8 (by kernel_rfl) ?_
    refine Wo.nil ?_
    refine Wp.seq ?_
    refine Wp.seq ?_
    refine Wp.region ?_
    refine Wo.pre 8 (by kernel_rfl) ?_
    refine Wo.pre 8 (by kernel_rfl) ?_
    refine Wo.nil ?_
    refine Wp.cond true (by kernel_rfl) ?_
    refine Wp.seq ?_
    refine Wp.region ?_
    refine Wo.pre 8 (by kernel_rfl) ?_
    refine Wo.nil ?_
    exact Wp.ret ⟨.inr rfl, _, (by kernel_rfl), .nils, false, rfl, hX1, .inl ⟨certR_bad he, rfl, rfl⟩⟩
end Go.Det

/- Records read: the walks. -/
set_option linter.unusedVariables false
set_option linter.unusedSimpArgs false
set_option linter.unusedSectionVars false
namespace Go.Det
open Go.Proofs
attribute [local irreducible] Wp Wo Wd iop ev slots quiets wanted put

/-- A block of two cells is filled anew. -/
theorem fill2 {h : H} {b ty : Nat} {z1 z2 x y : AV} (g : h.get b = some (.cells 0 ty [z1, z2] 0 false)) (hx : x.one = true) (hy : y.one = true) :
    ∃ h', (∀ {u w : IX} {ρ : IX → AV}, ρ u = .ptr ⟨b, 0, 0⟩ → ρ w = .agg [x, y] → iop (.st 2 u w) ρ h = some (.val .undef h')) ∧ h'.get b = some (.cells 0 ty [x, y] 0 false) ∧ (∀ c, c ≠ b → h'.get c = h.get c) ∧ h'.n = h.n := by
  refine ⟨h.set b (.cells 0 ty [x, y] 0 false), fun hu hw => iop_stA (a := ⟨b, 0, 0⟩) (cs := [x, y]) hu hw rfl ?_, h.get_set _ _, fun c hc => h.get_set_ne _ c _ hc, rfl⟩
  unfold H.st
  simp only [g]
  rw [if_pos (by simp [hx, hy])]
  rfl

theorem iop_build2 {z1 z2 : AV} {x y : IX} {ρ : IX → AV} {h : H} {a b : AV} (hx : ρ x = a) (hy : ρ y = b) (ha : a.cells = [a]) (hb : b.cells = [b]) : iop (.build [z1, z2] [(0, 1, x), (1, 1, y)]) ρ h = some (.val (.agg [a, b]) h) := by
  simp [iop, fillL, hx, hy, ha, hb, putAt]

theorem OwnCh.none {lo : Nat} {h : H} : OwnCh lo h .nils [] := ⟨.inl ⟨rfl, rfl, rfl⟩, fun p hp => by simp at hp⟩

theorem cutN_few {k : Nat} {l : List UInt8} {cs : List (List UInt8)} (h : cutN k l = some cs) (hl : l.length < 16777216) : cs.length < 16777216 := by
  have h1 := cut_dec _ _ _ h
  have h2 := innerS_len cs
  rw [h1] at h2
  omega
theorem certP_few {l : List UInt8} {cs : List (List UInt8)} (h : certP l = some cs) : cs.length < 16777216 := by
  unfold certP at h
  split at h
  · exact cutN_few h (vX3_lt l)
  · cases h
theorem certR_few {l : List UInt8} {cs : List (List UInt8)} (h : certR l = some cs) : cs.length < 16777216 := by
  unfold certR at h
  split at h
  · exact certP_few h
  · cases h
theorem certR_of {l : List UInt8} (h : vL l 3 = []) : certR l = certP l := by rw [certR, if_pos h]

theorem rd8_bad {l : List UInt8} (h : ¬ 8 ≤ l.length) : rdE l 8 = 4 := by
  unfold rdE; rw [if_neg (by decide), if_pos (by omega)]
theorem rd8_good {l : List UInt8} (h : 8 ≤ l.length) : rdE l 8 = 0 ∧ rdV l 8 = be (l.take 8) ∧ rdL l 8 = l.drop 8 := by
  have e : rdE l 8 = 0 := by unfold rdE; rw [if_neg (by decide), if_neg (by omega)]
  exact ⟨e, by rw [rdV, if_pos e]; rfl, by rw [rdL, if_pos e]; rfl⟩

set_option maxHeartbeats 4000000 in
theorem takerec_run {h : H} {y : AV} {l : List UInt8} (hy : Bs h y l) (hl : l.length ≤ maxRow) : ∃ r h', Runs TF 54 [y] h r h' ∧ ∃ t z ps E, r = .tup [entV t z, .int .i64 E] ∧ Ext h h' ∧ OwnCh h.n h' z ps ∧ recOf l = (t, says ps, E) := by
  refine Runs.ofP f54 rfl ?_
  have hmx : 200000000000000 = maxRow := rfl
  have o3 : ∀ k i, (AV.int k i).one = true := fun _ _ => rfl
  obtain ⟨H1, hH1⟩ : ∃ H1, H1 = h.new (.cells 0 70 [.int .u64 0, .nils] 0 false) := ⟨_, rfl⟩
  have X1 : Ext h H1 := by rw [hH1]; exact Ext.new _ _
  have n1 : h.n < H1.n := by rw [hH1]; simp
  have g1 : H1.get h.n = some (.cells 0 70 [.int .u64 0, .nils] 0 false) := by rw [hH1]; exact h.get_new _
  have en1 : ∀ ts, iop (.new 70 (.c (.agg [.int .u64 0, .nils]))) (ev ts) h = some (.val (.ptr ⟨h.n, 0, 0⟩) H1) := fun ts => by rw [hH1]; exact iop_new (by kernel_rfl) rfl
  obtain ⟨p, H2, c2, rb, u, rfl, hrb, hR2, X2, hu, hub⟩ := new_run (hy.ext X1) hl
  obtain ⟨H3, u3, c3, hR3, E3, s3⟩ := rdnum_any hR2 8 hl
  have m1 := X1.1
  have m2 := X2.1
  have m3 := E3.1
  have k3 : ∀ b, b < H1.n → H3.get b = H1.get b := fun b hb => by rw [E3.2 b (by omega) (by omega)]; exact X2.2 b hb
  by_cases h8 : 8 ≤ l.length
  · obtain ⟨e1, e2, e3⟩ := rd8_good h8
    rw [e1, e2] at c3
    rw [e3] at hR3
    have hd8 : (l.drop 8).length ≤ maxRow := by rw [List.length_drop]; omega
    obtain ⟨r4, H4, c4, z, E, u4, rfl, hR4, E4, s4, hz⟩ := certs_run hR3 hd8
    have m4 := E4.1
    have k4 : ∀ b, b < H1.n → H4.get b = H1.get b := fun b hb => by rw [E4.2 b (by omega) (by omega)]; exact k3 b hb
    rcases hz with ⟨q1, rfl, rfl⟩ | ⟨ps, q1, rfl, q3⟩
    · obtain ⟨H5a, H5, X5, n5, g5, en5, st5, _, _⟩ := made2 (h := H4) 70 (z1 := .int .u64 0) (z2 := .nils) (x := .int .u64 (be (l.take 8) : Nat)) (y := .nils) rfl rfl rfl
      have m5 := X5.1
      have gz : H5.get h.n = some (.cells 0 70 [.int .u64 0, .nils] 0 false) := by rw [X5.2 _ (by omega), k4 _ n1]; exact g1
      obtain ⟨Hz, sz, gz', kz, nz⟩ := fill2 (x := .int .u64 0) (y := .nils) gz rfl rfl
      have LA : Hz.ldg ⟨h.n, 0, 0⟩ (some 2) = some (entV 0 .nils) := (ld_two gz').1
      refine Wp.seq ?_
      refine Wp.region ?_
      refine Wo.val _ _ (by kernel_rfl) (en1 _) ?_
      refine Wo.pre 8 (by kernel_rfl) ?_
      refine Wo.nil ?_
      refine Wp.seq ?_
      refine Wp.region ?_
      refine Wo.pre 1 (by kernel_rfl) ?_
      refine Wo.call (by kernel_rfl) (by kernel_rfl) (c2) ?_
      refine Wo.pre 8 (by kernel_rfl) ?_
      refine Wo.nil ?_
      refine Wp.seq ?_
      refine Wp.region ?_
      refine Wo.pre 1 (by kernel_rfl) ?_
      refine Wo.call (by kernel_rfl) (by kernel_rfl) (c3) ?_
      refine Wo.pre 8 (by kernel_rfl) ?_
      refine Wo.nil ?_
      refine Wp.seq ?_
      refine Wp.seq ?_
      refine Wp.region ?_
      refine Wo.pre 8 (by kernel_rfl) ?_
      refine Wo.nil ?_
      refine Wp.cond false (by kernel_rfl) ?_
      refine Wp.skip ?_
      refine Wp.seq ?_
      refine Wp.region ?_
      refine Wo.pre 1 (by kernel_rfl) ?_
      refine Wo.call (by kernel_rfl) (by kernel_rfl) (c4) ?_
      refine Wo.pre 8 (by kernel_rfl) ?_
      refine Wo.nil ?_
      refine Wp.seq ?_
      refine Wp.region ?_
      refine Wo.pre 3 (by kernel_rfl) ?_
      refine Wo.val _ _ (by kernel_rfl) (en5 (by kernel_rfl)) ?_
      refine Wo.val _ _ (by kernel_rfl) (st5 (by kernel_rfl) (by kernel_rfl)) ?_
      refine Wo.nil ?_
      refine Wp.seq ?_
      refine Wp.seq ?_
      refine Wp.region ?_
      refine Wo.pre 8 (by kernel_rfl) ?_
      refine Wo.pre 8 (by kernel_rfl) ?_
      refine Wo.nil ?_
      refine Wp.cond true (by kernel_rfl) ?_
      refine Wp.seq ?_
      refine Wp.region ?_
      refine Wo.pre 1 (by kernel_rfl) ?_
      refine Wo.val .undef Hz (by kernel_rfl) (sz (by kernel_rfl) (by kernel_rfl)) ?_
      refine Wo.pre 8 (by kernel_rfl) ?_
      refine Wo.nil ?_
      exact Wp.ret ⟨.inr rfl, _, retI LA (by kernel_rfl) (by kernel_rfl), 0, .nils, [], 5, rfl, ⟨by rw [nz]; omega, fun b hb => by rw [kz b (by omega)]; rw [X5.2 b (by omega), k4 b (by omega)]; exact X1.2 b hb⟩, OwnCh.none, rec_none h8 (by unfold certR; split; exact q1; rfl)⟩
    · have pz := q3.ch.parts
      obtain ⟨H5a, H5, X5, n5, g5, en5, st5, _, _⟩ := made2 (h := H4) 70 (z1 := .int .u64 0) (z2 := .nils) (x := .int .u64 (be (l.take 8) : Nat)) (y := z) rfl rfl pz.2.1
      have m5 := X5.1
      have hfew : ps.length < 16777216 := by have := certP_few q1; rw [says_len] at this; exact this
      have hR5 : Rd H5 rb u4 (vL (l.drop 8) 3) := hR4.keep m5 (X5.2 _ hR4.1) (fun a n c e => X5.2 _ (hR4.2.2.1.lt e))
      by_cases hm : vL (l.drop 8) 3 = []
      · rw [hm] at hR5
        obtain ⟨r6, H6, c6, rfl, X6⟩ := may_run (q3.ch.ext X5) (by omega) (be (l.take 8))
        have m6 := X6.1
        have l5 := ld_two g5
        have l6 := ld_two ((X6.2 _ (by omega)).trans g5)
        have gz6 : H6.get h.n = some (.cells 0 70 [.int .u64 0, .nils] 0 false) := by rw [X6.2 _ (by omega), X5.2 _ (by omega), k4 _ n1]; exact g1
        by_cases hmay : mayE ps = true
        · rw [hmay] at c6
          obtain ⟨H7, s7, g7, k7, n7⟩ := fill2 (x := .int .u64 (be (l.take 8) : Nat)) (y := z) gz6 rfl pz.2.1
          have LA : H7.ldg ⟨h.n, 0, 0⟩ (some 2) = some (entV (be (l.take 8)) z) := (ld_two g7).1
          refine Wp.seq ?_
          refine Wp.region ?_
          refine Wo.val _ _ (by kernel_rfl) (en1 _) ?_
          refine Wo.pre 1 (by kernel_rfl) ?_
          refine Wo.nil ?_
          refine Wp.seq ?_
          refine Wp.region ?_
          refine Wo.pre 1 (by kernel_rfl) ?_
          refine Wo.call (by kernel_rfl) (by kernel_rfl) (c2) ?_
          refine Wo.pre 1 (by kernel_rfl) ?_
          refine Wo.nil ?_
          refine Wp.seq ?_
          refine Wp.region ?_
          refine Wo.pre 1 (by kernel_rfl) ?_
          refine Wo.call (by kernel_rfl) (by kernel_rfl) (c3) ?_
          refine Wo.pre 1 (by kernel_rfl) ?_
          refine Wo.pre 1 (by kernel_rfl) ?_
          refine Wo.pre 1 (by kernel_rfl) ?_
          refine Wo.pre 1 (by kernel_rfl) ?_
          refine Wo.pre 1 (by kernel_rfl) ?_
          refine Wo.nil ?_
          refine Wp.seq ?_
          refine Wp.seq ?_
          refine Wp.region ?_
          refine Wo.pre 1 (by kernel_rfl) ?_
          refine Wo.pre 1 (by kernel_rfl) ?_
          refine Wo.nil ?_
          refine Wp.cond false (by kernel_rfl) ?_
          refine Wp.skip ?_
          refine Wp.seq ?_
          refine Wp.region ?_
          refine Wo.pre 1 (by kernel_rfl) ?_
          refine Wo.call (by kernel_rfl) (by kernel_rfl) (c4) ?_
          refine Wo.pre 1 (by kernel_rfl) ?_
          refine Wo.pre 1 (by kernel_rfl) ?_
          refine Wo.pre 1 (by kernel_rfl) ?_
          refine Wo.pre 1 (by kernel_rfl) ?_
          refine Wo.pre 1 (by kernel_rfl) ?_
          refine Wo.nil ?_
          refine Wp.seq ?_
          refine Wp.region ?_
          refine Wo.pre 1 (by kernel_rfl) ?_
          refine Wo.pre 1 (by kernel_rfl) ?_
          refine Wo.val _ _ (by kernel_rfl) (iop_build2 (a := .int .u64 (be (l.take 8) : Nat)) (b := z) (by kernel_rfl) (by kernel_rfl) rfl pz.1) ?_
          refine Wo.val _ _ (by kernel_rfl) (en5 (by kernel_rfl)) ?_
          refine Wo.val _ _ (by kernel_rfl) (st5 (by kernel_rfl) (by kernel_rfl)) ?_
          refine Wo.nil ?_
          refine Wp.seq ?_
          refine Wp.seq ?_
          refine Wp.region ?_
          refine Wo.pre 1 (by kernel_rfl) ?_
          refine Wo.pre 1 (by kernel_rfl) ?_
          refine Wo.pre 1 (by kernel_rfl) ?_
          refine Wo.pre 1 (by kernel_rfl) ?_
          refine Wo.call (by kernel_rfl) (by kernel_rfl) ((left_run hR5)) ?_
          refine Wo.val (.bool false) H5 (by kernel_rfl) (iop_cmp (op := .gtr) (k := .i64) (a := ([] : List UInt8).length) (b := 0) false (by kernel_rfl) (by kernel_rfl) (by simp) (by simp [binInt])) ?_
          refine Wo.pre 1 (by kernel_rfl) ?_
          refine Wo.pre 1 (by kernel_rfl) ?_
          refine Wo.val (entV (be (l.take 8)) z) H5 (by kernel_rfl) (iop_ld (a := ⟨H4.n, 0, 0⟩) (by kernel_rfl) l5.1) ?_
          refine Wo.call (by kernel_rfl) (by kernel_rfl) (c6) ?_
          refine Wo.pre 1 (by kernel_rfl) ?_
          refine Wo.pre 1 (by kernel_rfl) ?_
          refine Wo.nil ?_
          refine Wp.cond false (by kernel_rfl) ?_
          refine Wp.skip ?_
          refine Wp.seq ?_
          refine Wp.region ?_
          refine Wo.val (entV (be (l.take 8)) z) H6 (by kernel_rfl) (iop_ld (a := ⟨H4.n, 0, 0⟩) (by kernel_rfl) l6.1) ?_
          refine Wo.val .undef H7 (by kernel_rfl) (s7 (by kernel_rfl) (by kernel_rfl)) ?_
          refine Wo.pre 1 (by kernel_rfl) ?_
          refine Wo.nil ?_
          exact Wp.ret ⟨.inr rfl, _, retI LA (by kernel_rfl) (by kernel_rfl), be (l.take 8), z, ps, 0, rfl, ⟨by rw [n7]; omega, fun b hb => by rw [k7 b (by omega), X6.2 b (by omega), X5.2 b (by omega), k4 b (by omega)]; exact X1.2 b hb⟩, (((q3.ext X5).ext X6).keepB (rb := h.n) (by omega) ⟨by omega, fun k _ hk => k7 k hk⟩).mono (by omega), rec_may h8 (by rw [certR_of hm]; exact q1) (by rw [← may_says]; exact hmay)⟩
        · have hmay' : mayE ps = false := by simpa using hmay
          rw [hmay'] at c6
          have gz : H6.get h.n = some (.cells 0 70 [.int .u64 0, .nils] 0 false) := gz6
          obtain ⟨Hz, sz, gz', kz, nz⟩ := fill2 (x := .int .u64 0) (y := .nils) gz rfl rfl
          have LA : Hz.ldg ⟨h.n, 0, 0⟩ (some 2) = some (entV 0 .nils) := (ld_two gz').1
          refine Wp.seq ?_
          refine Wp.region ?_
          refine Wo.val _ _ (by kernel_rfl) (en1 _) ?_
          refine Wo.pre 1 (by kernel_rfl) ?_
          refine Wo.nil ?_
          refine Wp.seq ?_
          refine Wp.region ?_
          refine Wo.pre 1 (by kernel_rfl) ?_
          refine Wo.call (by kernel_rfl) (by kernel_rfl) (c2) ?_
          refine Wo.pre 1 (by kernel_rfl) ?_
          refine Wo.nil ?_
          refine Wp.seq ?_
          refine Wp.region ?_
          refine Wo.pre 1 (by kernel_rfl) ?_
          refine Wo.call (by kernel_rfl) (by kernel_rfl) (c3) ?_
          refine Wo.pre 1 (by kernel_rfl) ?_
          refine Wo.pre 1 (by kernel_rfl) ?_
          refine Wo.pre 1 (by kernel_rfl) ?_
          refine Wo.pre 1 (by kernel_rfl) ?_
          refine Wo.pre 1 (by kernel_rfl) ?_
          refine Wo.nil ?_
          refine Wp.seq ?_
          refine Wp.seq ?_
          refine Wp.region ?_
          refine Wo.pre 1 (by kernel_rfl) ?_
          refine Wo.pre 1 (by kernel_rfl) ?_
          refine Wo.nil ?_
          refine Wp.cond false (by kernel_rfl) ?_
          refine Wp.skip ?_
          refine Wp.seq ?_
          refine Wp.region ?_
          refine Wo.pre 1 (by kernel_rfl) ?_
          refine Wo.call (by kernel_rfl) (by kernel_rfl) (c4) ?_
          refine Wo.pre 1 (by kernel_rfl) ?_
          refine Wo.pre 1 (by kernel_rfl) ?_
          refine Wo.pre 1 (by kernel_rfl) ?_
          refine Wo.pre 1 (by kernel_rfl) ?_
          refine Wo.pre 1 (by kernel_rfl) ?_
          refine Wo.nil ?_
          refine Wp.seq ?_
          refine Wp.region ?_
          refine Wo.pre 1 (by kernel_rfl) ?_
          refine Wo.pre 1 (by kernel_rfl) ?_
          refine Wo.val _ _ (by kernel_rfl) (iop_build2 (a := .int .u64 (be (l.take 8) : Nat)) (b := z) (by kernel_rfl) (by kernel_rfl) rfl pz.1) ?_
          refine Wo.val _ _ (by kernel_rfl) (en5 (by kernel_rfl)) ?_
          refine Wo.val _ _ (by kernel_rfl) (st5 (by kernel_rfl) (by kernel_rfl)) ?_
          refine Wo.nil ?_
          refine Wp.seq ?_
          refine Wp.seq ?_
          refine Wp.region ?_
          refine Wo.pre 1 (by kernel_rfl) ?_
          refine Wo.pre 1 (by kernel_rfl) ?_
          refine Wo.pre 1 (by kernel_rfl) ?_
          refine Wo.pre 1 (by kernel_rfl) ?_
          refine Wo.call (by kernel_rfl) (by kernel_rfl) ((left_run hR5)) ?_
          refine Wo.val (.bool false) H5 (by kernel_rfl) (iop_cmp (op := .gtr) (k := .i64) (a := ([] : List UInt8).length) (b := 0) false (by kernel_rfl) (by kernel_rfl) (by simp) (by simp [binInt])) ?_
          refine Wo.pre 1 (by kernel_rfl) ?_
          refine Wo.pre 1 (by kernel_rfl) ?_
          refine Wo.val (entV (be (l.take 8)) z) H5 (by kernel_rfl) (iop_ld (a := ⟨H4.n, 0, 0⟩) (by kernel_rfl) l5.1) ?_
          refine Wo.call (by kernel_rfl) (by kernel_rfl) (c6) ?_
          refine Wo.pre 1 (by kernel_rfl) ?_
          refine Wo.pre 1 (by kernel_rfl) ?_
          refine Wo.nil ?_
          refine Wp.cond true (by kernel_rfl) ?_
          refine Wp.seq ?_
          refine Wp.region ?_
          refine Wo.pre 1 (by kernel_rfl) ?_
          refine Wo.val .undef Hz (by kernel_rfl) (sz (by kernel_rfl) (by kernel_rfl)) ?_
          refine Wo.pre 1 (by kernel_rfl) ?_
          refine Wo.nil ?_
          exact Wp.ret ⟨.inr rfl, _, retI LA (by kernel_rfl) (by kernel_rfl), 0, .nils, [], 5, rfl, ⟨by rw [nz]; omega, fun b hb => by rw [kz b (by omega)]; rw [X6.2 b (by omega), X5.2 b (by omega), k4 b (by omega)]; exact X1.2 b hb⟩, OwnCh.none, rec_not h8 (by rw [certR_of hm]; exact q1) (by rw [← may_says]; exact hmay)⟩
      · have hpos : 0 < (vL (l.drop 8) 3).length := List.length_pos_iff.2 hm
        have gz : H5.get h.n = some (.cells 0 70 [.int .u64 0, .nils] 0 false) := by rw [X5.2 _ (by omega), k4 _ n1]; exact g1
        obtain ⟨Hz, sz, gz', kz, nz⟩ := fill2 (x := .int .u64 0) (y := .nils) gz rfl rfl
        have LA : Hz.ldg ⟨h.n, 0, 0⟩ (some 2) = some (entV 0 .nils) := (ld_two gz').1
        refine Wp.seq ?_
        refine Wp.region ?_
        refine Wo.val _ _ (by kernel_rfl) (en1 _) ?_
        refine Wo.pre 1 (by kernel_rfl) ?_
        refine Wo.nil ?_
        refine Wp.seq ?_
        refine Wp.region ?_
        refine Wo.pre 1 (by kernel_rfl) ?_
        refine Wo.call (by kernel_rfl) (by kernel_rfl) (c2) ?_
        refine Wo.pre 1 (by kernel_rfl) ?_
        refine Wo.nil ?_
        refine Wp.seq ?_
        refine Wp.region ?_
        refine Wo.pre 1 (by kernel_rfl) ?_
        refine Wo.call (by kernel_rfl) (by kernel_rfl) (c3) ?_
        refine Wo.pre 1 (by kernel_rfl) ?_
        refine Wo.pre 1 (by kernel_rfl) ?_
        refine Wo.pre 1 (by kernel_rfl) ?_
        refine Wo.pre 1 (by kernel_rfl) ?_
        refine Wo.pre 1 (by kernel_rfl) ?_
        refine Wo.nil ?_
        refine Wp.seq ?_
        refine Wp.seq ?_
        refine Wp.region ?_
        refine Wo.pre 1 (by kernel_rfl) ?_
        refine Wo.pre 1 (by kernel_rfl) ?_
        refine Wo.nil ?_
        refine Wp.cond false (by kernel_rfl) ?_
        refine Wp.skip ?_
        refine Wp.seq ?_
        refine Wp.region ?_
        refine Wo.pre 1 (by kernel_rfl) ?_
        refine Wo.call (by kernel_rfl) (by kernel_rfl) (c4) ?_
        refine Wo.pre 1 (by kernel_rfl) ?_
        refine Wo.pre 1 (by kernel_rfl) ?_
        refine Wo.pre 1 (by kernel_rfl) ?_
        refine Wo.pre 1 (by kernel_rfl) ?_
        refine Wo.pre 1 (by kernel_rfl) ?_
        refine Wo.nil ?_
        refine Wp.seq ?_
        refine Wp.region ?_
        refine Wo.pre 1 (by kernel_rfl) ?_
        refine Wo.pre 1 (by kernel_rfl) ?_
        refine Wo.val _ _ (by kernel_rfl) (iop_build2 (a := .int .u64 (be (l.take 8) : Nat)) (b := z) (by kernel_rfl) (by kernel_rfl) rfl pz.1) ?_
        refine Wo.val _ _ (by kernel_rfl) (en5 (by kernel_rfl)) ?_
        refine Wo.val _ _ (by kernel_rfl) (st5 (by kernel_rfl) (by kernel_rfl)) ?_
        refine Wo.nil ?_
        refine Wp.seq ?_
        refine Wp.seq ?_
        refine Wp.region ?_
        refine Wo.pre 1 (by kernel_rfl) ?_
        refine Wo.pre 1 (by kernel_rfl) ?_
        refine Wo.pre 1 (by kernel_rfl) ?_
        refine Wo.pre 1 (by kernel_rfl) ?_
        refine Wo.call (by kernel_rfl) (by kernel_rfl) ((left_run hR5)) ?_
        refine Wo.val (.bool true) H5 (by kernel_rfl) (iop_cmp (op := .gtr) (k := .i64) (a := (vL (l.drop 8) 3).length) (b := 0) true (by kernel_rfl) (by kernel_rfl) (by simp) (by simp [binInt, hpos])) ?_
        refine Wo.pre 1 (by kernel_rfl) ?_
        refine Wo.pre 1 (by kernel_rfl) ?_
        refine Wo.pre 1 (by kernel_rfl) ?_
        refine Wo.pre 1 (by kernel_rfl) ?_
        refine Wo.pre 1 (by kernel_rfl) ?_
        refine Wo.pre 1 (by kernel_rfl) ?_
        refine Wo.nil ?_
        refine Wp.cond true (by kernel_rfl) ?_
        refine Wp.seq ?_
        refine Wp.region ?_
        refine Wo.pre 1 (by kernel_rfl) ?_
        refine Wo.val .undef Hz (by kernel_rfl) (sz (by kernel_rfl) (by kernel_rfl)) ?_
        refine Wo.pre 1 (by kernel_rfl) ?_
        refine Wo.nil ?_
        exact Wp.ret ⟨.inr rfl, _, retI LA (by kernel_rfl) (by kernel_rfl), 0, .nils, [], 5, rfl, ⟨by rw [nz]; omega, fun b hb => by rw [kz b (by omega)]; rw [X5.2 b (by omega), k4 b (by omega)]; exact X1.2 b hb⟩, OwnCh.none, rec_none h8 (certR_more hm)⟩
  · rw [rd8_bad h8] at c3
    have gz : H3.get h.n = some (.cells 0 70 [.int .u64 0, .nils] 0 false) := by rw [k3 _ n1]; exact g1
    obtain ⟨Hz, sz, gz', kz, nz⟩ := fill2 (x := .int .u64 0) (y := .nils) gz rfl rfl
    have LA : Hz.ldg ⟨h.n, 0, 0⟩ (some 2) = some (entV 0 .nils) := (ld_two gz').1
    refine Wp.seq ?_
    refine Wp.region ?_
    refine Wo.val _ _ (by kernel_rfl) (en1 _) ?_
    refine Wo.pre 8 (by kernel_rfl) ?_
    refine Wo.nil ?_
    refine Wp.seq ?_
    refine Wp.region ?_
    refine Wo.pre 1 (by kernel_rfl) ?_
    refine Wo.call (by kernel_rfl) (by kernel_rfl) (c2) ?_
    refine Wo.pre 8 (by kernel_rfl) ?_
    refine Wo.nil ?_
    refine Wp.seq ?_
    refine Wp.region ?_
    refine Wo.pre 1 (by kernel_rfl) ?_
    refine Wo.call (by kernel_rfl) (by kernel_rfl) (c3) ?_
    refine Wo.pre 8 (by kernel_rfl) ?_
    refine Wo.nil ?_
    refine Wp.seq ?_
    refine Wp.seq ?_
    refine Wp.region ?_
    refine Wo.pre 8 (by kernel_rfl) ?_
    refine Wo.nil ?_
    refine Wp.cond true (by kernel_rfl) ?_
    refine Wp.seq ?_
    refine Wp.region ?_
    refine Wo.pre 1 (by kernel_rfl) ?_
    refine Wo.val .undef Hz (by kernel_rfl) (sz (by kernel_rfl) (by kernel_rfl)) ?_
    refine Wo.pre 8 (by kernel_rfl) ?_
    refine Wo.nil ?_
    exact Wp.ret ⟨.inr rfl, _, retI LA (by kernel_rfl) (by kernel_rfl), 0, .nils, [], 5, rfl, ⟨by rw [nz]; omega, fun b hb => by rw [kz b (by omega)]; rw [k3 b (by omega)]; exact X1.2 b hb⟩, OwnCh.none, rec_bad h8⟩

set_option maxHeartbeats 4000000 in
theorem rtakerec_run {h : H} {y : AV} {l : List UInt8} (hy : Bs h y l) (hok : Cok y) (hl : l.length ≤ maxRow) : ∃ r h', Runs TF 55 [y] h r h' ∧ ∃ t z ps E, r = .tup [entV t z, .int .i64 E] ∧ Ext h h' ∧ OwnCh h.n h' z ps ∧ recOf l = (t, says ps, E) := by
  refine Runs.ofP f55 rfl ?_
  have hmx : 200000000000000 = maxRow := rfl
  have o3 : ∀ k i, (AV.int k i).one = true := fun _ _ => rfl
  obtain ⟨H1, hH1⟩ : ∃ H1, H1 = h.new (.cells 0 70 [.int .u64 0, .nils] 0 false) := ⟨_, rfl⟩
  have X1 : Ext h H1 := by rw [hH1]; exact Ext.new _ _
  have n1 : h.n < H1.n := by rw [hH1]; simp
  have g1 : H1.get h.n = some (.cells 0 70 [.int .u64 0, .nils] 0 false) := by rw [hH1]; exact h.get_new _
  have en1 : ∀ ts, iop (.new 70 (.c (.agg [.int .u64 0, .nils]))) (ev ts) h = some (.val (.ptr ⟨h.n, 0, 0⟩) H1) := fun ts => by rw [hH1]; exact iop_new (by kernel_rfl) rfl
  have hy1 := hy.ext X1
  have m1 := X1.1
  by_cases h8 : 8 ≤ l.length
  · obtain ⟨y8, a1, a2, a3⟩ := hy1.take hok (n := 8) h8
    have ht8 : (l.take 8).length = 8 := by rw [List.length_take]; omega
    obtain ⟨H2, rb, u, c2, hrb, hR2, X2, hub⟩ := rrnew_run a2 (by omega)
    obtain ⟨H3, u3, c3, hR3, E3, s3⟩ := rrnum_any hR2 8 (by omega)
    obtain ⟨e1, e2, e3⟩ := rd8_good (l := l.take 8) (by omega)
    rw [e1, e2, List.take_take, Nat.min_self] at c3
    have m2 := X2.1
    have m3 := E3.1
    have X3 : Ext H1 H3 := ⟨by omega, fun b hb => by rw [E3.2 b (by omega) (by omega)]; exact X2.2 b hb⟩
    obtain ⟨yd, b1, b2, b3, _⟩ := (hy1.ext X3).drop hok (n := 8) h8
    have hd8 : (l.drop 8).length ≤ maxRow := by rw [List.length_drop]; omega
    obtain ⟨r4, H4, c4, z, ok, rfl, X4, hz⟩ := rcerts_run b2 hd8
    have m4 := X4.1
    have k4 : ∀ b, b < H1.n → H4.get b = H1.get b := fun b hb => by rw [X4.2 b (by omega)]; exact X3.2 b hb
    rcases hz with ⟨q1, rfl, rfl⟩ | ⟨ps, q1, rfl, q3⟩
    · obtain ⟨H5a, H5, X5, n5, g5, en5, st5, _, _⟩ := made2 (h := H4) 70 (z1 := .int .u64 0) (z2 := .nils) (x := .int .u64 (be (l.take 8) : Nat)) (y := .nils) rfl rfl rfl
      have m5 := X5.1
      have gz : H5.get h.n = some (.cells 0 70 [.int .u64 0, .nils] 0 false) := by rw [X5.2 _ (by omega), k4 _ n1]; exact g1
      obtain ⟨Hz, sz, gz', kz, nz⟩ := fill2 (x := .int .u64 0) (y := .nils) gz rfl rfl
      have LA : Hz.ldg ⟨h.n, 0, 0⟩ (some 2) = some (entV 0 .nils) := (ld_two gz').1
      refine Wp.seq ?_
      refine Wp.region ?_
      refine Wo.val _ _ (by kernel_rfl) (en1 _) ?_
      refine Wo.pre 1 (by kernel_rfl) ?_
      refine Wo.nil ?_
      refine Wp.seq ?_
      refine Wp.seq ?_
      refine Wp.region ?_
      refine Wo.pre 1 (by kernel_rfl) ?_
      refine Wo.val (.int .i64 l.length) H1 (by kernel_rfl) ((hy1.len (by kernel_rfl))) ?_
      refine Wo.val (.bool false) H1 (by kernel_rfl) (iop_cmp (op := .lss) (k := .i64) (a := l.length) (b := 8) false (by kernel_rfl) (by kernel_rfl) (by simp) (by simp [binInt]; omega)) ?_
      refine Wo.nil ?_
      refine Wp.cond false (by kernel_rfl) ?_
      refine Wp.skip ?_
      refine Wp.seq ?_
      refine Wp.region ?_
      refine Wo.pre 1 (by kernel_rfl) ?_
      refine Wo.val y8 H1 (by kernel_rfl) (a1 _ _ _ (by kernel_rfl) (by kernel_rfl)) ?_
      refine Wo.call (by kernel_rfl) (by kernel_rfl) (c2) ?_
      refine Wo.pre 1 (by kernel_rfl) ?_
      refine Wo.nil ?_
      refine Wp.seq ?_
      refine Wp.region ?_
      refine Wo.pre 1 (by kernel_rfl) ?_
      refine Wo.call (by kernel_rfl) (by kernel_rfl) (c3) ?_
      refine Wo.pre 1 (by kernel_rfl) ?_
      refine Wo.pre 1 (by kernel_rfl) ?_
      refine Wo.pre 1 (by kernel_rfl) ?_
      refine Wo.pre 1 (by kernel_rfl) ?_
      refine Wo.pre 1 (by kernel_rfl) ?_
      refine Wo.nil ?_
      refine Wp.seq ?_
      refine Wp.region ?_
      refine Wo.pre 1 (by kernel_rfl) ?_
      refine Wo.val yd H3 (by kernel_rfl) (b1 _ _ _ (by kernel_rfl) (by kernel_rfl)) ?_
      refine Wo.call (by kernel_rfl) (by kernel_rfl) (c4) ?_
      refine Wo.pre 1 (by kernel_rfl) ?_
      refine Wo.pre 1 (by kernel_rfl) ?_
      refine Wo.pre 1 (by kernel_rfl) ?_
      refine Wo.pre 1 (by kernel_rfl) ?_
      refine Wo.pre 1 (by kernel_rfl) ?_
      refine Wo.nil ?_
      refine Wp.seq ?_
      refine Wp.region ?_
      refine Wo.pre 1 (by kernel_rfl) ?_
      refine Wo.pre 1 (by kernel_rfl) ?_
      refine Wo.pre 1 (by kernel_rfl) ?_
      refine Wo.val _ _ (by kernel_rfl) (en5 (by kernel_rfl)) ?_
      refine Wo.val _ _ (by kernel_rfl) (st5 (by kernel_rfl) (by kernel_rfl)) ?_
      refine Wo.nil ?_
      refine Wp.seq ?_
      refine Wp.seq ?_
      refine Wp.region ?_
      refine Wo.pre 1 (by kernel_rfl) ?_
      refine Wo.pre 1 (by kernel_rfl) ?_
      refine Wo.pre 1 (by kernel_rfl) ?_
      refine Wo.pre 1 (by kernel_rfl) ?_
      refine Wo.pre 1 (by kernel_rfl) ?_
      refine Wo.pre 1 (by kernel_rfl) ?_
      refine Wo.pre 1 (by kernel_rfl) ?_
      refine Wo.nil ?_
      refine Wp.cond true (by kernel_rfl) ?_
      refine Wp.seq ?_
      refine Wp.region ?_
      refine Wo.pre 1 (by kernel_rfl) ?_
      refine Wo.val .undef Hz (by kernel_rfl) (sz (by kernel_rfl) (by kernel_rfl)) ?_
      refine Wo.pre 1 (by kernel_rfl) ?_
      refine Wo.nil ?_
      exact Wp.ret ⟨.inr rfl, _, retI LA (by kernel_rfl) (by kernel_rfl), 0, .nils, [], 5, rfl, ⟨by rw [nz]; omega, fun b hb => by rw [kz b (by omega)]; rw [X5.2 b (by omega), k4 b (by omega)]; exact X1.2 b hb⟩, OwnCh.none, rec_none h8 q1⟩
    · have pz := q3.ch.parts
      obtain ⟨H5a, H5, X5, n5, g5, en5, st5, _, _⟩ := made2 (h := H4) 70 (z1 := .int .u64 0) (z2 := .nils) (x := .int .u64 (be (l.take 8) : Nat)) (y := z) rfl rfl pz.2.1
      have m5 := X5.1
      have hfew : ps.length < 16777216 := by have := certR_few q1; rw [says_len] at this; exact this
      obtain ⟨r6, H6, c6, rfl, X6⟩ := rmay_run (q3.ch.ext X5) (by omega) (be (l.take 8))
      have m6 := X6.1
      have l5 := ld_two g5
      have l6 := ld_two ((X6.2 _ (by omega)).trans g5)
      have gz6 : H6.get h.n = some (.cells 0 70 [.int .u64 0, .nils] 0 false) := by rw [X6.2 _ (by omega), X5.2 _ (by omega), k4 _ n1]; exact g1
      by_cases hmay : mayE ps = true
      · rw [hmay] at c6
        obtain ⟨H7, s7, g7, k7, n7⟩ := fill2 (x := .int .u64 (be (l.take 8) : Nat)) (y := z) gz6 rfl pz.2.1
        have LA : H7.ldg ⟨h.n, 0, 0⟩ (some 2) = some (entV (be (l.take 8)) z) := (ld_two g7).1
        refine Wp.seq ?_
        refine Wp.region ?_
        refine Wo.val _ _ (by kernel_rfl) (en1 _) ?_
        refine Wo.pre 1 (by kernel_rfl) ?_
        refine Wo.nil ?_
        refine Wp.seq ?_
        refine Wp.seq ?_
        refine Wp.region ?_
        refine Wo.pre 1 (by kernel_rfl) ?_
        refine Wo.val (.int .i64 l.length) H1 (by kernel_rfl) ((hy1.len (by kernel_rfl))) ?_
        refine Wo.val (.bool false) H1 (by kernel_rfl) (iop_cmp (op := .lss) (k := .i64) (a := l.length) (b := 8) false (by kernel_rfl) (by kernel_rfl) (by simp) (by simp [binInt]; omega)) ?_
        refine Wo.nil ?_
        refine Wp.cond false (by kernel_rfl) ?_
        refine Wp.skip ?_
        refine Wp.seq ?_
        refine Wp.region ?_
        refine Wo.pre 1 (by kernel_rfl) ?_
        refine Wo.val y8 H1 (by kernel_rfl) (a1 _ _ _ (by kernel_rfl) (by kernel_rfl)) ?_
        refine Wo.call (by kernel_rfl) (by kernel_rfl) (c2) ?_
        refine Wo.pre 1 (by kernel_rfl) ?_
        refine Wo.nil ?_
        refine Wp.seq ?_
        refine Wp.region ?_
        refine Wo.pre 1 (by kernel_rfl) ?_
        refine Wo.call (by kernel_rfl) (by kernel_rfl) (c3) ?_
        refine Wo.pre 1 (by kernel_rfl) ?_
        refine Wo.pre 1 (by kernel_rfl) ?_
        refine Wo.pre 1 (by kernel_rfl) ?_
        refine Wo.pre 1 (by kernel_rfl) ?_
        refine Wo.pre 1 (by kernel_rfl) ?_
        refine Wo.nil ?_
        refine Wp.seq ?_
        refine Wp.region ?_
        refine Wo.pre 1 (by kernel_rfl) ?_
        refine Wo.val yd H3 (by kernel_rfl) (b1 _ _ _ (by kernel_rfl) (by kernel_rfl)) ?_
        refine Wo.call (by kernel_rfl) (by kernel_rfl) (c4) ?_
        refine Wo.pre 1 (by kernel_rfl) ?_
        refine Wo.pre 1 (by kernel_rfl) ?_
        refine Wo.pre 1 (by kernel_rfl) ?_
        refine Wo.pre 1 (by kernel_rfl) ?_
        refine Wo.pre 1 (by kernel_rfl) ?_
        refine Wo.nil ?_
        refine Wp.seq ?_
        refine Wp.region ?_
        refine Wo.pre 1 (by kernel_rfl) ?_
        refine Wo.pre 1 (by kernel_rfl) ?_
        refine Wo.val _ _ (by kernel_rfl) (iop_build2 (a := .int .u64 (be (l.take 8) : Nat)) (b := z) (by kernel_rfl) (by kernel_rfl) rfl pz.1) ?_
        refine Wo.val _ _ (by kernel_rfl) (en5 (by kernel_rfl)) ?_
        refine Wo.val _ _ (by kernel_rfl) (st5 (by kernel_rfl) (by kernel_rfl)) ?_
        refine Wo.nil ?_
        refine Wp.seq ?_
        refine Wp.seq ?_
        refine Wp.region ?_
        refine Wo.pre 1 (by kernel_rfl) ?_
        refine Wo.pre 1 (by kernel_rfl) ?_
        refine Wo.pre 1 (by kernel_rfl) ?_
        refine Wo.val (entV (be (l.take 8)) z) H5 (by kernel_rfl) (iop_ld (a := ⟨H4.n, 0, 0⟩) (by kernel_rfl) l5.1) ?_
        refine Wo.call (by kernel_rfl) (by kernel_rfl) (c6) ?_
        refine Wo.pre 1 (by kernel_rfl) ?_
        refine Wo.pre 1 (by kernel_rfl) ?_
        refine Wo.nil ?_
        refine Wp.cond false (by kernel_rfl) ?_
        refine Wp.skip ?_
        refine Wp.seq ?_
        refine Wp.region ?_
        refine Wo.val (entV (be (l.take 8)) z) H6 (by kernel_rfl) (iop_ld (a := ⟨H4.n, 0, 0⟩) (by kernel_rfl) l6.1) ?_
        refine Wo.val .undef H7 (by kernel_rfl) (s7 (by kernel_rfl) (by kernel_rfl)) ?_
        refine Wo.pre 1 (by kernel_rfl) ?_
        refine Wo.nil ?_
        exact Wp.ret ⟨.inr rfl, _, retI LA (by kernel_rfl) (by kernel_rfl), be (l.take 8), z, ps, 0, rfl, ⟨by rw [n7]; omega, fun b hb => by rw [k7 b (by omega), X6.2 b (by omega), X5.2 b (by omega), k4 b (by omega)]; exact X1.2 b hb⟩, (((q3.ext X5).ext X6).keepB (rb := h.n) (by omega) ⟨by omega, fun k _ hk => k7 k hk⟩).mono (by omega), rec_may h8 q1 (by rw [← may_says]; exact hmay)⟩
      · have hmay' : mayE ps = false := by simpa using hmay
        rw [hmay'] at c6
        have gz : H6.get h.n = some (.cells 0 70 [.int .u64 0, .nils] 0 false) := gz6
        obtain ⟨Hz, sz, gz', kz, nz⟩ := fill2 (x := .int .u64 0) (y := .nils) gz rfl rfl
        have LA : Hz.ldg ⟨h.n, 0, 0⟩ (some 2) = some (entV 0 .nils) := (ld_two gz').1
        refine Wp.seq ?_
        refine Wp.region ?_
        refine Wo.val _ _ (by kernel_rfl) (en1 _) ?_
        refine Wo.pre 1 (by kernel_rfl) ?_
        refine Wo.nil ?_
        refine Wp.seq ?_
        refine Wp.seq ?_
        refine Wp.region ?_
        refine Wo.pre 1 (by kernel_rfl) ?_
        refine Wo.val (.int .i64 l.length) H1 (by kernel_rfl) ((hy1.len (by kernel_rfl))) ?_
        refine Wo.val (.bool false) H1 (by kernel_rfl) (iop_cmp (op := .lss) (k := .i64) (a := l.length) (b := 8) false (by kernel_rfl) (by kernel_rfl) (by simp) (by simp [binInt]; omega)) ?_
        refine Wo.nil ?_
        refine Wp.cond false (by kernel_rfl) ?_
        refine Wp.skip ?_
        refine Wp.seq ?_
        refine Wp.region ?_
        refine Wo.pre 1 (by kernel_rfl) ?_
        refine Wo.val y8 H1 (by kernel_rfl) (a1 _ _ _ (by kernel_rfl) (by kernel_rfl)) ?_
        refine Wo.call (by kernel_rfl) (by kernel_rfl) (c2) ?_
        refine Wo.pre 1 (by kernel_rfl) ?_
        refine Wo.nil ?_
        refine Wp.seq ?_
        refine Wp.region ?_
        refine Wo.pre 1 (by kernel_rfl) ?_
        refine Wo.call (by kernel_rfl) (by kernel_rfl) (c3) ?_
        refine Wo.pre 1 (by kernel_rfl) ?_
        refine Wo.pre 1 (by kernel_rfl) ?_
        refine Wo.pre 1 (by kernel_rfl) ?_
        refine Wo.pre 1 (by kernel_rfl) ?_
        refine Wo.pre 1 (by kernel_rfl) ?_
        refine Wo.nil ?_
        refine Wp.seq ?_
        refine Wp.region ?_
        refine Wo.pre 1 (by kernel_rfl) ?_
        refine Wo.val yd H3 (by kernel_rfl) (b1 _ _ _ (by kernel_rfl) (by kernel_rfl)) ?_
        refine Wo.call (by kernel_rfl) (by kernel_rfl) (c4) ?_
        refine Wo.pre 1 (by kernel_rfl) ?_
        refine Wo.pre 1 (by kernel_rfl) ?_
        refine Wo.pre 1 (by kernel_rfl) ?_
        refine Wo.pre 1 (by kernel_rfl) ?_
        refine Wo.pre 1 (by kernel_rfl) ?_
        refine Wo.nil ?_
        refine Wp.seq ?_
        refine Wp.region ?_
        refine Wo.pre 1 (by kernel_rfl) ?_
        refine Wo.pre 1 (by kernel_rfl) ?_
        refine Wo.val _ _ (by kernel_rfl) (iop_build2 (a := .int .u64 (be (l.take 8) : Nat)) (b := z) (by kernel_rfl) (by kernel_rfl) rfl pz.1) ?_
        refine Wo.val _ _ (by kernel_rfl) (en5 (by kernel_rfl)) ?_
        refine Wo.val _ _ (by kernel_rfl) (st5 (by kernel_rfl) (by kernel_rfl)) ?_
        refine Wo.nil ?_
        refine Wp.seq ?_
        refine Wp.seq ?_
        refine Wp.region ?_
        refine Wo.pre 1 (by kernel_rfl) ?_
        refine Wo.pre 1 (by kernel_rfl) ?_
        refine Wo.pre 1 (by kernel_rfl) ?_
        refine Wo.val (entV (be (l.take 8)) z) H5 (by kernel_rfl) (iop_ld (a := ⟨H4.n, 0, 0⟩) (by kernel_rfl) l5.1) ?_
        refine Wo.call (by kernel_rfl) (by kernel_rfl) (c6) ?_
        refine Wo.pre 1 (by kernel_rfl) ?_
        refine Wo.pre 1 (by kernel_rfl) ?_
        refine Wo.nil ?_
        refine Wp.cond true (by kernel_rfl) ?_
        refine Wp.seq ?_
        refine Wp.region ?_
        refine Wo.pre 1 (by kernel_rfl) ?_
        refine Wo.val .undef Hz (by kernel_rfl) (sz (by kernel_rfl) (by kernel_rfl)) ?_
        refine Wo.pre 1 (by kernel_rfl) ?_
        refine Wo.nil ?_
        exact Wp.ret ⟨.inr rfl, _, retI LA (by kernel_rfl) (by kernel_rfl), 0, .nils, [], 5, rfl, ⟨by rw [nz]; omega, fun b hb => by rw [kz b (by omega)]; rw [X6.2 b (by omega), X5.2 b (by omega), k4 b (by omega)]; exact X1.2 b hb⟩, OwnCh.none, rec_not h8 q1 (by rw [← may_says]; exact hmay)⟩
  · skip
    have gz : H1.get h.n = some (.cells 0 70 [.int .u64 0, .nils] 0 false) := g1
    obtain ⟨Hz, sz, gz', kz, nz⟩ := fill2 (x := .int .u64 0) (y := .nils) gz rfl rfl
    have LA : Hz.ldg ⟨h.n, 0, 0⟩ (some 2) = some (entV 0 .nils) := (ld_two gz').1
    refine Wp.seq ?_
    refine Wp.region ?_
    refine Wo.val _ _ (by kernel_rfl) (en1 _) ?_
    refine Wo.pre 1 (by kernel_rfl) ?_
    refine Wo.nil ?_
    refine Wp.seq ?_
    refine Wp.seq ?_
    refine Wp.region ?_
    refine Wo.pre 1 (by kernel_rfl) ?_
    refine Wo.val (.int .i64 l.length) H1 (by kernel_rfl) ((hy1.len (by kernel_rfl))) ?_
    refine Wo.val (.bool true) H1 (by kernel_rfl) (iop_cmp (op := .lss) (k := .i64) (a := l.length) (b := 8) true (by kernel_rfl) (by kernel_rfl) (by simp) (by simp [binInt]; omega)) ?_
    refine Wo.nil ?_
    refine Wp.cond true (by kernel_rfl) ?_
    refine Wp.seq ?_
    refine Wp.region ?_
    refine Wo.pre 1 (by kernel_rfl) ?_
    refine Wo.val .undef Hz (by kernel_rfl) (sz (by kernel_rfl) (by kernel_rfl)) ?_
    refine Wo.pre 1 (by kernel_rfl) ?_
    refine Wo.nil ?_
    exact Wp.ret ⟨.inr rfl, _, retI LA (by kernel_rfl) (by kernel_rfl), 0, .nils, [], 5, rfl, ⟨by rw [nz]; omega, fun b hb => by rw [kz b (by omega)]; exact X1.2 b hb⟩, OwnCh.none, rec_bad h8⟩
end Go.Det

/- Items read: the plain law; chains that are appended to. -/
set_option linter.unusedVariables false
set_option linter.unusedSimpArgs false
namespace Go.Det
open Go.Proofs

theorem rd_app {p : List UInt8} {size : Int} (hp : (p.length : Int) = size) (hs : 1 ≤ size ∧ size ≤ 4 ∨ size = 8) (m : List UInt8) : rdE (p ++ m) size = 0 ∧ rdV (p ++ m) size = be p ∧ rdL (p ++ m) size = m := by
  have e : rdE (p ++ m) size = 0 := by
    unfold rdE
    rw [if_neg (by simp [hs]), if_neg (by rw [List.length_append]; omega)]
  have et : size.toNat = p.length := by omega
  exact ⟨e, by rw [rdV, if_pos e, et, List.take_left], by rw [rdL, if_pos e, et, List.drop_left]⟩

/-- The program's reading of a leaf. -/
def pE (lf ex : List UInt8) : Prop := rdE lf 2 = 0 ∧ rdE (rdL lf 2) 8 = 0 ∧ rdE (rdL (rdL lf 2) 8) 2 = 0 ∧ vE (rdL (rdL (rdL lf 2) 8) 2) 3 = 0 ∧ (certP ex).isSome = true
def pT (lf : List UInt8) : Nat := rdV (rdL lf 2) 8
def pX (lf : List UInt8) : List UInt8 := vX (rdL (rdL (rdL lf 2) 8) 2) 3

theorem leaf_app (t : Nat) (c : List UInt8) : leafB t c = [0, 0] ++ (digits t 8 8 ++ ([0, 0] ++ (certB c ++ [0, 0]))) := by simp only [leafB, certB, List.append_assoc]

theorem certP_may {l : List (List UInt8)} {c : List UInt8} (h : mayS (c :: l) = true) : certP (listS l) = some l ∧ certR (listS l) = some l := by
  obtain ⟨h1, h2, h3⟩ := mayS_small h
  have hl : ∀ x ∈ l, x.length ≤ 512 := fun x hx => (h3 x (by simp [hx])).2
  have h4 := innerS_le l hl
  have h5 : l.length ≤ 3 := by simpa using h2
  have e := certR_enc (cs := l) (fun x hx => by have := hl x hx; omega) (by omega)
  have e' := e
  unfold certR at e'
  split at e'
  · exact ⟨e', e⟩
  · cases e'

theorem prog_dec {t : Nat} (ht : t < 2 ^ 64) {c : List UInt8} {l : List (List UInt8)} (hm : mayS (c :: l) = true) : pE (leafB t c) (listS l) ∧ pT (leafB t c) = t ∧ pX (leafB t c) = c := by
  obtain ⟨h1, h2, h3⟩ := mayS_small hm
  have hc := (h3 c (by simp)).2
  have a1 := rd_app (p := [0, 0]) (size := 2) rfl (by omega) (digits t 8 8 ++ ([0, 0] ++ (certB c ++ [0, 0])))
  have a2 := rd_app (p := digits t 8 8) (size := 8) (by rw [digits_len]; rfl) (by omega) ([0, 0] ++ (certB c ++ [0, 0]))
  have a3 := rd_app (p := [0, 0]) (size := 2) rfl (by omega) (certB c ++ [0, 0])
  have a4 := dec3 (c := c) (by omega) [0, 0]
  have h256 : t < 256 ^ 8 := by rw [show 256 ^ 8 = 2 ^ 64 by decide]; exact ht
  rw [leaf_app]
  unfold pE pT pX
  rw [a1.2.2, a2.2.2, a3.2.2, (certP_may hm).1, a2.2.1, be_dig' h256]
  exact ⟨⟨a1.1, a2.1, a3.1, a4.1, rfl⟩, rfl, a4.2.1⟩

/-- An item's entry. -/
def itemC (lf : List UInt8) : List UInt8 := (lf.take (lf.length - 2)).drop 15
def itemT (lf : List UInt8) : Nat := be ((lf.take 10).drop 2)
def itemOf (lf ex : List UInt8) : Nat × List (List UInt8) × Int :=
  match (if 17 ≤ lf.length then certR ex else none) with
  | some l => if mayS (itemC lf :: l) = true ∧ leafB (itemT lf) (itemC lf) = lf then (itemT lf, itemC lf :: l, 0) else (0, [], 5)
  | none => (0, [], 5)
theorem item_short {lf ex : List UInt8} (h : ¬ 17 ≤ lf.length) : itemOf lf ex = (0, [], 5) := by simp [itemOf, h]
theorem item_none {lf ex : List UInt8} (h : 17 ≤ lf.length) (h2 : certR ex = none) : itemOf lf ex = (0, [], 5) := by simp [itemOf, h, h2]
theorem item_some {lf ex : List UInt8} {l : List (List UInt8)} (h : 17 ≤ lf.length) (h2 : certR ex = some l) : itemOf lf ex = if mayS (itemC lf :: l) = true ∧ leafB (itemT lf) (itemC lf) = lf then (itemT lf, itemC lf :: l, 0) else (0, [], 5) := by simp [itemOf, h, h2]

theorem item_enc {t : Nat} (ht : t < 2 ^ 64) {c : List UInt8} {l : List (List UInt8)} (hm : mayS (c :: l) = true) : itemOf (leafB t c) (listS l) = (t, c :: l, 0) := by
  have h256 : t < 256 ^ 8 := by rw [show 256 ^ 8 = 2 ^ 64 by decide]; exact ht
  have hlen : (leafB t c).length = 17 + c.length := by simp only [leafB, List.length_append, digits_len, List.length_cons, List.length_nil]; omega
  have e1 : itemT (leafB t c) = t := by
    have a : leafB t c = ([0, 0] ++ digits t 8 8) ++ ([0, 0] ++ (certB c ++ [0, 0])) := by rw [leaf_app]; simp only [List.append_assoc]
    have b : (([0, 0] : List UInt8) ++ digits t 8 8).length = 10 := by rw [List.length_append, digits_len]; rfl
    rw [itemT, a, List.take_left' b]
    have d : (([0, 0] : List UInt8) ++ digits t 8 8).drop 2 = digits t 8 8 := List.drop_left' rfl
    rw [d, be_dig' h256]
  have e2 : itemC (leafB t c) = c := by
    have a : leafB t c = ([0, 0] ++ digits t 8 8 ++ [0, 0] ++ digits c.length 3 3 ++ c) ++ [0, 0] := by simp only [leafB, List.append_assoc]
    have b : (([0, 0] : List UInt8) ++ digits t 8 8 ++ [0, 0] ++ digits c.length 3 3 ++ c).length = 15 + c.length := by simp only [List.length_append, digits_len, List.length_cons, List.length_nil]
    have d : (([0, 0] : List UInt8) ++ digits t 8 8 ++ [0, 0] ++ digits c.length 3 3).length = 15 := by simp only [List.length_append, digits_len, List.length_cons, List.length_nil]
    rw [itemC, hlen, a, List.take_left' (by omega), List.drop_left' d]
  rw [item_some (by omega) (certP_may hm).2, e1, e2, if_pos ⟨hm, rfl⟩]

theorem itemT_lt (lf : List UInt8) : itemT lf < 2 ^ 64 := be8_lt (by rw [List.length_drop, List.length_take]; omega)

theorem item_dec {lf ex : List UInt8} {t : Nat} {cs : List (List UInt8)} {E : Int} (h : itemOf lf ex = (t, cs, E)) :
    (E = 0 ∧ mayS cs = true ∧ t < 2 ^ 64 ∧ ∃ c l, cs = c :: l ∧ leafB t c = lf ∧ listS l = ex) ∨ (E = 5 ∧ t = 0 ∧ cs = []) := by
  by_cases h17 : 17 ≤ lf.length
  · cases hc : certR ex with
    | none => rw [item_none h17 hc] at h; simp only [Prod.mk.injEq] at h; exact .inr ⟨h.2.2.symm, h.1.symm, h.2.1.symm⟩
    | some l =>
      rw [item_some h17 hc] at h
      split at h
      · rename_i hh
        simp only [Prod.mk.injEq] at h
        obtain ⟨rfl, rfl, rfl⟩ := h
        exact .inl ⟨rfl, hh.1, itemT_lt lf, _, _, rfl, hh.2, (certR_dec hc).1⟩
      · simp only [Prod.mk.injEq] at h; exact .inr ⟨h.2.2.symm, h.1.symm, h.2.1.symm⟩
  · rw [item_short h17] at h; simp only [Prod.mk.injEq] at h; exact .inr ⟨h.2.2.symm, h.1.symm, h.2.1.symm⟩

theorem item_bad {lf ex : List UInt8} (h : ∀ t c l, t < 2 ^ 64 → mayS (c :: l) = true → leafB t c = lf → listS l = ex → False) : itemOf lf ex = (0, [], 5) := by
  obtain ⟨⟨t, cs, E⟩, hh⟩ : ∃ r, itemOf lf ex = r := ⟨_, rfl⟩
  rw [hh]
  rcases item_dec hh with ⟨_, h1, h2, c, l, rfl, h3, h4⟩ | ⟨rfl, rfl, rfl⟩
  · exact (h t c l h2 h1 h3 h4).elim
  · rfl

/-- The program's reading that fails. -/
theorem prog_bad {lf ex : List UInt8} (h : ¬ pE lf ex) : itemOf lf ex = (0, [], 5) :=
  item_bad fun t c l ht hm e1 e2 => h (by rw [← e1, ← e2]; exact (prog_dec ht hm).1)
/-- What is made of what was read is not what was read. -/
theorem prog_not {lf ex : List UInt8} {l : List (List UInt8)} (hl : certP ex = some l) (h : ¬ (mayS (pX lf :: l) = true ∧ leafB (pT lf) (pX lf) = lf ∧ listS l = ex)) : itemOf lf ex = (0, [], 5) :=
  item_bad fun t c k ht hm e1 e2 => by
    obtain ⟨_, h2, h3⟩ := prog_dec ht hm
    have h4 := (certP_may hm).1
    rw [e1] at h2 h3
    rw [e2, hl] at h4
    simp only [Option.some.injEq] at h4
    subst h4
    exact h ⟨by rw [h3]; exact hm, by rw [h2, h3]; exact e1, e2⟩
theorem prog_good {lf ex : List UInt8} {l : List (List UInt8)} (ht : pT lf < 2 ^ 64) (h1 : mayS (pX lf :: l) = true) (h2 : leafB (pT lf) (pX lf) = lf) (h3 : listS l = ex) : itemOf lf ex = (pT lf, pX lf :: l, 0) := by
  have := item_enc ht h1
  rw [h2, h3] at this
  exact this
theorem rdV8_lt (l : List UInt8) : rdV l 8 < 2 ^ 64 := by
  unfold rdV
  split
  · exact be8_lt (by rw [List.length_take]; show min 8 _ ≤ 8; omega)
  · decide

/-! Chains that are appended to. -/

def RowK (lo : Nat) (h : H) (v : AV) (cs : List AV) : Prop := (v = .nils ∧ cs = []) ∨ ∃ b g c, lo ≤ b ∧ b < h.n ∧ h.get b = some (.cells g 22 cs 0 false) ∧ v = .sl ⟨b, g, 0⟩ cs.length c ∧ (c = .op 1 ∨ c = .ex cs.length)

theorem Ch.src {h : H} {v : AV} {ys : List (AV × List UInt8)} (c : Ch h v ys) : srcCells h 1 v = some ((ys.map (·.1)).length, ys.map (·.1)) := by
  rcases c.row with ⟨rfl, rfl⟩ | ⟨a, q, rfl, _, h3⟩
  · rfl
  · simp only [srcCells, Nat.mul_one, h3, Option.map_some, List.length_map]

theorem RowK.app {lo : Nat} {h : H} {v w : AV} {cs new : List AV} (o : RowK lo h v cs) (hlo : lo ≤ h.n) (hs : srcCells h 1 w = some (new.length, new)) (h1 : new.all AV.one = true) (hn : cs.length + new.length < 33554432) :
    ∃ v' h', append h 22 1 24 v w = some (.val v' h') ∧ RowK lo h' v' (cs ++ new) ∧ h.n ≤ h'.n ∧ ∀ b, b < h.n → (b < lo ∨ ∀ g c, h.get b ≠ some (.cells g 22 c 0 false)) → h'.get b = h.get b := by
  have hmx : 200000000000000 = maxRow := rfl
  unfold append
  simp only [hs]
  by_cases h0 : new = []
  · subst h0
    rcases o with ⟨rfl, rfl⟩ | ⟨b, g, c, q1, q2, q3, rfl, q4⟩
    · exact ⟨.nils, h, rfl, .inl ⟨rfl, rfl⟩, Nat.le_refl _, fun _ _ _ => rfl⟩
    · exact ⟨_, h, rfl, by rw [List.append_nil]; exact .inr ⟨b, g, c, q1, q2, q3, rfl, q4⟩, Nat.le_refl _, fun _ _ _ => rfl⟩
  · have hpos : 0 < new.length := List.length_pos_iff.2 h0
    have hne : (new.length == 0) = false := by simp [h0]
    have fit : fits (cs.length + new.length) 24 = true := by simp only [fits, Bool.and_eq_true, decide_eq_true_eq]; omega
    have hle : cs.length + new.length ≤ 9223372036854775807 := by omega
    rcases o with ⟨rfl, rfl⟩ | ⟨b, g, c, q1, q2, q3, rfl, q4⟩
    · simp only [List.length_nil, Nat.zero_add] at fit hle
      refine ⟨.sl ⟨h.n, 0, 0⟩ new.length (.op 1), h.new (.cells 0 22 new 0 false), ?_, .inr ⟨h.n, 0, .op 1, hlo, by simp, h.get_new _, rfl, .inl rfl⟩, by simp, fun b hb _ => h.get_new_ne b _ (by omega)⟩
      simp [hne, fit, hle, h1, h0]
    · rcases q4 with rfl | rfl
      · refine ⟨.sl ⟨b, g + 1, 0⟩ (cs.length + new.length) (.op 1), h.set b (.cells (g + 1) 22 (cs ++ new) 0 false), ?_, .inr ⟨b, g + 1, .op 1, q1, q2, h.get_set b _, by rw [List.length_append], .inl rfl⟩, Nat.le_refl _, fun b' hb' hk => ?_⟩
        · simp [hne, fit, hle, h1, h0, q3]
        · have : b' ≠ b := by
            rintro rfl
            rcases hk with hk | hk
            · omega
            · exact hk _ _ q3
          exact h.get_set_ne b b' _ this
      · have hld : h.ldn ⟨b, g, 0⟩ (cs.length * 1) = some cs := by
          unfold H.ldn H.row
          simp only [q3, BEq.rfl, Bool.not_false, Bool.true_or, Bool.and_self, if_true, Nat.mul_one]
          exact cut_all _
        refine ⟨.sl ⟨h.n, 0, 0⟩ (cs.length + new.length) (.op 1), h.new (.cells 0 22 (cs ++ new) 0 false), ?_, .inr ⟨h.n, 0, .op 1, hlo, by simp, h.get_new _, by rw [List.length_append], .inl rfl⟩, by simp, fun b hb _ => h.get_new_ne b _ (by omega)⟩
        rw [Nat.mul_one] at hld
        simp [hne, fit, hle, h1, h0, hld, hpos]

theorem RowK.ch {lo : Nat} {h : H} {v : AV} {ys : List (AV × List UInt8)} (o : RowK lo h v (ys.map (·.1))) (el : ∀ p ∈ ys, Bs h p.1 p.2 ∧ Cok p.1) : Ch h v ys := by
  refine ⟨?_, el, ?_⟩
  · rcases o with ⟨h1, h2⟩ | ⟨b, g, c, h1, h2, h3, h4, h5⟩
    · exact .inl ⟨h1, by simpa using h2⟩
    · refine .inr ⟨⟨b, g, 0⟩, c, by rw [h4, List.length_map], h2, ?_⟩
      unfold H.ldn H.row
      simp only [h3, BEq.rfl, Bool.not_false, Bool.true_or, Bool.and_self, if_true]
      have : ys.length = (ys.map (·.1)).length := by simp
      rw [this]
      exact cut_all _
  · rintro a m c e
    rcases o with ⟨h1, _⟩ | ⟨b, g, q, _, _, _, h4, h5⟩
    · rw [h1] at e; simp at e
    · rw [h4] at e; simp only [AV.sl.injEq] at e
      obtain ⟨_, rfl, rfl⟩ := e
      rcases h5 with h5 | h5
      · exact .inr h5
      · exact .inl ⟨_, h5, by simp⟩
theorem RowK.ext {lo : Nat} {h h' : H} {v : AV} {cs : List AV} (o : RowK lo h v cs) (hx : Ext h h') : RowK lo h' v cs := by
  refine o.imp id ?_
  rintro ⟨b, g, c, h1, h2, h3, h4⟩
  have := hx.1
  exact ⟨b, g, c, h1, by omega, by rw [hx.2 b h2]; exact h3, h4⟩
theorem RowK.keepB {lo rb : Nat} {h h' : H} {v : AV} {cs : List AV} (hlo : rb < lo) (x : ExtB rb h h') (o : RowK lo h v cs) : RowK lo h' v cs := by
  refine o.imp id ?_
  rintro ⟨b, g, c, h1, h2, h3, h4⟩
  have := x.1
  exact ⟨b, g, c, h1, by omega, by rw [x.2 b h2 (by omega)]; exact h3, h4⟩
theorem RowK.mono {lo lo' : Nat} {h : H} {v : AV} {cs : List AV} (o : RowK lo h v cs) (hl : lo' ≤ lo) : RowK lo' h v cs := by
  refine o.imp id ?_
  rintro ⟨b, g, c, h1, h2⟩
  exact ⟨b, g, c, by omega, h2⟩
theorem OwnCh.rowK {lo : Nat} {h : H} {v : AV} {ys : List (AV × List UInt8)} (o : OwnCh lo h v ys) : RowK lo h v (ys.map (·.1)) := by
  rcases o.row with ⟨h1, h2, _⟩ | ⟨b, g, h1, h2, h3, h4, _⟩
  · exact .inl ⟨h1, h2⟩
  · exact .inr ⟨b, g, .op 1, h1, h2, h3, by rw [h4, List.length_map], .inl rfl⟩

/-- A chain of its own, however its row came to be. -/
structure OwnK (lo : Nat) (h : H) (v : AV) (ys : List (AV × List UInt8)) : Prop where
  row : RowK lo h v (ys.map (·.1))
  el : ∀ p ∈ ys, Ow lo h p.1 p.2
theorem OwnCh.k {lo : Nat} {h : H} {v : AV} {ys : List (AV × List UInt8)} (o : OwnCh lo h v ys) : OwnK lo h v ys := ⟨o.rowK, o.el⟩
theorem OwnK.ch {lo : Nat} {h : H} {v : AV} {ys : List (AV × List UInt8)} (o : OwnK lo h v ys) : Ch h v ys := o.row.ch fun p hp => ⟨(o.el p hp).bs, (o.el p hp).cok⟩
theorem OwnK.ext {lo : Nat} {h h' : H} {v : AV} {ys : List (AV × List UInt8)} (o : OwnK lo h v ys) (hx : Ext h h') : OwnK lo h' v ys := ⟨o.row.ext hx, fun p hp => (o.el p hp).ext hx⟩
theorem OwnK.keepB {lo rb : Nat} {h h' : H} {v : AV} {ys : List (AV × List UInt8)} (hlo : rb < lo) (x : ExtB rb h h') (o : OwnK lo h v ys) : OwnK lo h' v ys :=
  ⟨o.row.keepB hlo x, fun p hp => (o.el p hp).keep x.1 (fun b g c h1 h2 _ => x.2 b h2 (by omega))⟩
theorem OwnK.mono {lo lo' : Nat} {h : H} {v : AV} {ys : List (AV × List UInt8)} (o : OwnK lo h v ys) (hl : lo' ≤ lo) : OwnK lo' h v ys := ⟨o.row.mono hl, fun p hp => (o.el p hp).mono hl⟩
theorem OwnK.none {lo : Nat} {h : H} : OwnK lo h .nils [] := OwnCh.none.k
end Go.Det

/- Frames: entries' rows, readers. -/
set_option linter.unusedVariables false
set_option linter.unusedSimpArgs false
set_option linter.unusedSectionVars false
namespace Go.Det
open Go.Proofs

theorem ExtB.fr {b : Nat} {h h' : H} (x : ExtB b h h') : Fr (fun s => s = b + 1) h h' := ⟨x.1, fun k hk hs => x.2 k hk (fun e => hs (by rw [e]))⟩
theorem Fr.extB {S : Nat → Prop} {b : Nat} {h h' : H} (x : Fr S h h') (hs : ∀ s, S s → s = 0 ∨ h.n < s ∨ s = b + 1) : ExtB b h h' := ⟨x.1, fun k hk hb => x.2 k hk (fun e => by have := hs _ e; omega)⟩

theorem Ch.fr {h h' : H} {v : AV} {xs : List (AV × List UInt8)} (c : Ch h v xs) {S : Nat → Prop} (x : Fr S h h') (hs : ∀ s, S s → s = 0 ∨ h.n < s) : Ch h' v xs := c.ext (x.ext hs)
theorem Ch.bd {h : H} {v : AV} {xs : List (AV × List UInt8)} (c : Ch h v xs) : blk v ≤ h.n := by
  rcases c.row with ⟨rfl, _⟩ | ⟨a, q, rfl, h2, _⟩
  · exact Nat.zero_le _
  · exact h2
theorem OwnCh.parts {lo : Nat} {h : H} {v : AV} {xs : List (AV × List UInt8)} (c : OwnCh lo h v xs) : v.cells = [v] ∧ v.one = true ∧ isStrV v = false := c.ch.parts
theorem OwnK.parts {lo : Nat} {h : H} {v : AV} {xs : List (AV × List UInt8)} (c : OwnK lo h v xs) : v.cells = [v] ∧ v.one = true ∧ isStrV v = false := c.ch.parts
theorem OwnCh.bd {lo : Nat} {h : H} {v : AV} {xs : List (AV × List UInt8)} (c : OwnCh lo h v xs) : (blk v = 0 ∨ lo < blk v) ∧ blk v ≤ h.n := by
  rcases c.row with ⟨rfl, _⟩ | ⟨b, g, h1, h2, _, rfl, _⟩
  · exact ⟨.inl rfl, Nat.zero_le _⟩
  · exact ⟨.inr (Nat.succ_le_succ h1), h2⟩
theorem OwnK.bd {lo : Nat} {h : H} {v : AV} {xs : List (AV × List UInt8)} (c : OwnK lo h v xs) : (blk v = 0 ∨ lo < blk v) ∧ blk v ≤ h.n := by
  rcases c.row with ⟨rfl, _⟩ | ⟨b, g, _, h1, h2, _, rfl, _⟩
  · exact ⟨.inl rfl, Nat.zero_le _⟩
  · exact ⟨.inr (Nat.succ_le_succ h1), h2⟩
theorem RowK.fr {lo : Nat} {h h' : H} {v : AV} {cs : List AV} (o : RowK lo h v cs) {S : Nat → Prop} (x : Fr S h h') (hs : ∀ s, S s → s ≤ lo ∨ h.n < s) : RowK lo h' v cs := by
  refine o.imp id ?_
  rintro ⟨b, g, c, h1, h2, h3, h4⟩
  have := x.1
  exact ⟨b, g, c, h1, by omega, by rw [x.2 b h2 (fun e => by have := hs _ e; omega)]; exact h3, h4⟩
theorem Ow.fr2 {lo : Nat} {h h' : H} {v : AV} {l : List UInt8} (ho : Ow lo h v l) {S : Nat → Prop} (x : Fr S h h') (hs : ∀ s, S s → s ≤ lo ∨ h.n < s) : Ow lo h' v l := by
  have := x.1
  rcases ho with ⟨rfl, rfl⟩ | ⟨b, g, h1, h2, h3, h4⟩
  · exact .inl ⟨rfl, rfl⟩
  · exact .inr ⟨b, g, h1, by omega, by rw [x.2 b h2 (fun e => by have := hs _ e; omega)]; exact h3, h4⟩
theorem OwnK.fr {lo : Nat} {h h' : H} {v : AV} {ys : List (AV × List UInt8)} (o : OwnK lo h v ys) {S : Nat → Prop} (x : Fr S h h') (hs : ∀ s, S s → s ≤ lo ∨ h.n < s) : OwnK lo h' v ys := ⟨o.row.fr x hs, fun p hp => (o.el p hp).fr2 x hs⟩
theorem OwnCh.fr {lo : Nat} {h h' : H} {v : AV} {ys : List (AV × List UInt8)} (o : OwnCh lo h v ys) {S : Nat → Prop} (x : Fr S h h') (hs : ∀ s, S s → s ≤ lo ∨ h.n < s) : OwnCh lo h' v ys := by
  refine ⟨?_, fun p hp => (o.el p hp).fr2 x hs⟩
  have hx := x.1
  exact o.row.ext hx (fun b g c h1 h2 _ => x.2 b h2 (fun e => by have := hs _ e; omega))

theorem Rd.pt {h : H} {b : Nat} {v : AV} {l : List UInt8} (r : Rd h b v l) : Pt h b (.cells 0 121 [v, .bool true] 0 false) := ⟨r.1, r.2.1⟩
theorem Rd.bs {h : H} {b : Nat} {v : AV} {l : List UInt8} (r : Rd h b v l) : Bs h v l := r.2.2.1
theorem Rd.ne {h : H} {b : Nat} {v : AV} {l : List UInt8} (r : Rd h b v l) : blk v ≠ b + 1 := by
  have := r.2.2.2
  cases v <;> try (simp [blk]; done)
  · rename_i a n c
    have := (this a n c rfl).1
    simp only [blk]; omega
theorem Rd.bd {h : H} {b : Nat} {v : AV} {l : List UInt8} (r : Rd h b v l) : b < h.n ∧ blk v ≤ h.n ∧ blk v ≠ b + 1 := ⟨r.1, r.bs.bd, r.ne⟩
theorem Rd.fr {h h' : H} {b : Nat} {v : AV} {l : List UInt8} (r : Rd h b v l) {S : Nat → Prop} (x : Fr S h h') (hs : ∀ s, S s → s ≠ b + 1 ∧ (s ≠ blk v ∨ s = 0)) : Rd h' b v l :=
  r.keep x.1 (x.2 b r.1 (fun e => (hs _ e).1 rfl)) (fun a n c e => x.2 a.b (r.bs.lt e) (fun h1 => by have := hs _ h1; rw [e] at this; simp only [blk] at this; omega))
theorem RRd.pt {h : H} {b : Nat} {v : AV} {l : List UInt8} (r : RRd h b v l) : Pt h b (.cells 0 51 [v] 0 false) := ⟨r.1, r.2.1⟩
theorem RRd.bs {h : H} {b : Nat} {v : AV} {l : List UInt8} (r : RRd h b v l) : Bs h v l := r.2.2.1
theorem RRd.ne {h : H} {b : Nat} {v : AV} {l : List UInt8} (r : RRd h b v l) : blk v ≠ b + 1 := by
  have := r.2.2.2.2
  cases v <;> try (simp [blk]; done)
  · rename_i a n c
    have := this a n c rfl
    simp only [blk]; omega
theorem RRd.bd {h : H} {b : Nat} {v : AV} {l : List UInt8} (r : RRd h b v l) : b < h.n ∧ blk v ≤ h.n ∧ blk v ≠ b + 1 := ⟨r.1, r.bs.bd, r.ne⟩
theorem RRd.fr {h h' : H} {b : Nat} {v : AV} {l : List UInt8} (r : RRd h b v l) {S : Nat → Prop} (x : Fr S h h') (hs : ∀ s, S s → s ≠ b + 1 ∧ (s ≠ blk v ∨ s = 0)) : RRd h' b v l :=
  r.keep x.1 (x.2 b r.1 (fun e => (hs _ e).1 rfl)) (fun a n c e => x.2 a.b (r.bs.lt e) (fun h1 => by have := hs _ h1; rw [e] at this; simp only [blk] at this; omega))
theorem SB.blk {v v' : AV} (s : SB v v') : Go.Det.blk v' = 0 ∨ Go.Det.blk v' = Go.Det.blk v := by
  cases v' <;> try (exact .inl rfl)
  rename_i a n c
  obtain ⟨a0, n0, c0, rfl, e⟩ := s a n c rfl
  exact .inr (by simp [Go.Det.blk, e])
theorem Ch.none {h : H} : Ch h .nils [] := (OwnK.none (lo := 0)).ch

/-- A row of its own, appended to: only its block changes. -/
theorem RowK.appF {lo : Nat} {h : H} {v w : AV} {cs new : List AV} (o : RowK lo h v cs) (hlo : lo ≤ h.n) (hs : srcCells h 1 w = some (new.length, new)) (h1 : new.all AV.one = true) (hn : cs.length + new.length < 33554432) :
    ∃ v' h', append h 22 1 24 v w = some (.val v' h') ∧ RowK lo h' v' (cs ++ new) ∧ Fr (fun s => s = blk v) h h' := by
  have hmx : 200000000000000 = maxRow := rfl
  unfold append
  simp only [hs]
  by_cases h0 : new = []
  · subst h0
    rcases o with ⟨rfl, rfl⟩ | ⟨b, g, c, q1, q2, q3, rfl, q4⟩
    · exact ⟨.nils, h, rfl, .inl ⟨rfl, rfl⟩, Nat.le_refl _, fun _ _ _ => rfl⟩
    · exact ⟨_, h, rfl, by rw [List.append_nil]; exact .inr ⟨b, g, c, q1, q2, q3, rfl, q4⟩, Nat.le_refl _, fun _ _ _ => rfl⟩
  · have hpos : 0 < new.length := List.length_pos_iff.2 h0
    have hne : (new.length == 0) = false := by simp [h0]
    have fit : fits (cs.length + new.length) 24 = true := by simp only [fits, Bool.and_eq_true, decide_eq_true_eq]; omega
    have hle : cs.length + new.length ≤ 9223372036854775807 := by omega
    rcases o with ⟨rfl, rfl⟩ | ⟨b, g, c, q1, q2, q3, rfl, q4⟩
    · simp only [List.length_nil, Nat.zero_add] at fit hle
      refine ⟨.sl ⟨h.n, 0, 0⟩ new.length (.op 1), h.new (.cells 0 22 new 0 false), ?_, .inr ⟨h.n, 0, .op 1, hlo, by simp, h.get_new _, rfl, .inl rfl⟩, by simp, fun b hb _ => h.get_new_ne b _ (by omega)⟩
      simp [hne, fit, hle, h1, h0]
    · rcases q4 with rfl | rfl
      · refine ⟨.sl ⟨b, g + 1, 0⟩ (cs.length + new.length) (.op 1), h.set b (.cells (g + 1) 22 (cs ++ new) 0 false), ?_, .inr ⟨b, g + 1, .op 1, q1, q2, h.get_set b _, by rw [List.length_append], .inl rfl⟩, Nat.le_refl _, fun b' hb' hk => ?_⟩
        · simp [hne, fit, hle, h1, h0, q3]
        · have : b' ≠ b := by
            rintro rfl
            exact hk rfl
          exact h.get_set_ne b b' _ this
      · have hld : h.ldn ⟨b, g, 0⟩ (cs.length * 1) = some cs := by
          unfold H.ldn H.row
          simp only [q3, BEq.rfl, Bool.not_false, Bool.true_or, Bool.and_self, if_true, Nat.mul_one]
          exact cut_all _
        refine ⟨.sl ⟨h.n, 0, 0⟩ (cs.length + new.length) (.op 1), h.new (.cells 0 22 (cs ++ new) 0 false), ?_, .inr ⟨h.n, 0, .op 1, hlo, by simp, h.get_new _, by rw [List.length_append], .inl rfl⟩, by simp, fun b hb _ => h.get_new_ne b _ (by omega)⟩
        rw [Nat.mul_one] at hld
        simp [hne, fit, hle, h1, h0, hld, hpos]
theorem RowK.bd {lo : Nat} {h : H} {v : AV} {cs : List AV} (o : RowK lo h v cs) : (blk v = 0 ∨ lo < blk v) ∧ blk v ≤ h.n := by
  rcases o with ⟨rfl, _⟩ | ⟨b, g, _, h1, h2, _, rfl, _⟩
  · exact ⟨.inl rfl, Nat.zero_le _⟩
  · exact ⟨.inr (Nat.succ_le_succ h1), h2⟩

/-- A chain whose row is its own, its rows of bytes as they read. -/
structure OwB (lo : Nat) (h : H) (v : AV) (ys : List (AV × List UInt8)) : Prop where
  row : RowK lo h v (ys.map (·.1))
  el : ∀ p ∈ ys, Bs h p.1 p.2 ∧ Cok p.1
theorem OwB.ch {lo : Nat} {h : H} {v : AV} {ys : List (AV × List UInt8)} (o : OwB lo h v ys) : Ch h v ys := o.row.ch o.el
theorem OwB.parts {lo : Nat} {h : H} {v : AV} {xs : List (AV × List UInt8)} (c : OwB lo h v xs) : v.cells = [v] ∧ v.one = true ∧ isStrV v = false := c.ch.parts
theorem OwB.bd {lo : Nat} {h : H} {v : AV} {xs : List (AV × List UInt8)} (c : OwB lo h v xs) : (blk v = 0 ∨ lo < blk v) ∧ blk v ≤ h.n := c.row.bd
theorem OwB.fr {lo : Nat} {h h' : H} {v : AV} {ys : List (AV × List UInt8)} (o : OwB lo h v ys) {S : Nat → Prop} (x : Fr S h h') (hs : ∀ s, S s → s = 0 ∨ h.n < s) : OwB lo h' v ys :=
  ⟨o.row.fr x (fun s h1 => (hs s h1).imp (fun e => by omega) id), fun p hp => ⟨(o.el p hp).1.ext (x.ext hs), (o.el p hp).2⟩⟩
theorem OwB.none {lo : Nat} {h : H} : OwB lo h .nils [] := ⟨.inl ⟨rfl, rfl⟩, fun p hp => by simp at hp⟩
theorem OwnK.b {lo : Nat} {h : H} {v : AV} {ys : List (AV × List UInt8)} (o : OwnK lo h v ys) : OwB lo h v ys := ⟨o.row, fun p hp => ⟨(o.el p hp).bs, (o.el p hp).cok⟩⟩
/-- One row more. -/
theorem app22_one {lo : Nat} {h : H} {b : Nat} {v c : AV} {cl : List UInt8} {ys : List (AV × List UInt8)} (p : Pt h b (.cells 0 22 [c] 0 false)) (hv : OwB lo h v ys) (hc : Bs h c cl) (hk : Cok c) (hlo : lo ≤ h.n) (hn : ys.length + 1 < 33554432) (hnew : ∀ q ∈ ys, blk q.1 ≤ lo) (hcl : blk c ≤ lo) :
    ∃ v' h', append h 22 1 24 v (.sl ⟨b, 0, 0⟩ 1 (.ex 1)) = some (.val v' h') ∧ OwB lo h' v' (ys ++ [(c, cl)]) ∧ Fr (fun s => s = blk v) h h' := by
  have hld : h.ldn ⟨b, 0, 0⟩ (1 * 1) = some [c] := by
    unfold H.ldn H.row
    simp only [p.2, BEq.rfl, Bool.not_false, Bool.true_or, Bool.and_self, if_true]
    rfl
  obtain ⟨v', h', e, r, x⟩ := hv.row.appF (w := .sl ⟨b, 0, 0⟩ 1 (.ex 1)) (new := [c]) hlo (by simp [srcCells, hld]) (ones_cons hc.parts.2.1 ones_nil) (by simpa using hn)
  refine ⟨v', h', e, ⟨by rw [List.map_append]; exact r, fun q hq => ?_⟩, x⟩
  have hb := hv.bd.1
  have key : ∀ q : AV × List UInt8, Bs h q.1 q.2 → blk q.1 ≤ lo → Bs h' q.1 q.2 := fun q h1 h2 => by
    exact h1.fr x (by omega)
  rcases List.mem_append.1 hq with hq | hq
  · exact ⟨key q (hv.el q hq).1 (hnew q hq), (hv.el q hq).2⟩
  · simp only [List.mem_cons, List.not_mem_nil, or_false] at hq
    subst hq
    exact ⟨key _ hc hcl, hk⟩
/-- A list's behind. -/
theorem app22_more {lo lo2 : Nat} {h : H} {v w : AV} {ys zs : List (AV × List UInt8)} (hv : OwB lo h v ys) (hw : OwnCh lo2 h w zs) (hlo : lo ≤ h.n) (hn : ys.length + zs.length < 33554432) (hnew : ∀ q ∈ ys, blk q.1 ≤ lo) (hl2 : blk v ≤ lo2) :
    ∃ v' h', append h 22 1 24 v w = some (.val v' h') ∧ OwB lo h' v' (ys ++ zs) ∧ Fr (fun s => s = blk v) h h' := by
  have hone : (zs.map (·.1)).all AV.one = true := by
    simp only [List.all_map, List.all_eq_true]
    exact fun p hp => (hw.el p hp).parts.2.1
  obtain ⟨v', h', e, r, x⟩ := hv.row.appF (w := w) (new := zs.map (·.1)) hlo hw.ch.src hone (by simpa using hn)
  refine ⟨v', h', e, ⟨by rw [List.map_append]; exact r, fun q hq => ?_⟩, x⟩
  have hb := hv.bd.1
  rcases List.mem_append.1 hq with hq | hq
  · have h1 := (hv.el q hq).1
    have h2 := hnew q hq
    refine ⟨?_, (hv.el q hq).2⟩
    · exact h1.fr x (by omega)
  · have h1 := hw.el q hq
    exact ⟨(h1.fr2 x (by intro s hs; omega)).bs, h1.cok⟩

/-- A row of one, appended to. -/
theorem app_lit1 {h : H} {b : Nat} {c w : AV} {zs : List AV} (p : Pt h b (.cells 0 22 [c] 0 false)) (hsrc : srcCells h 1 w = some (zs.length, zs)) (h0 : 0 < zs.length) (ho : zs.all AV.one = true) (hn : zs.length < 16777216) :
    append h 22 1 24 (.sl ⟨b, 0, 0⟩ 1 (.ex 1)) w = some (.val (.sl ⟨h.n, 0, 0⟩ (1 + zs.length) (.op 1)) (h.new (.cells 0 22 ([c] ++ zs) 0 false))) := by
  have hmx : 200000000000000 = maxRow := rfl
  have fit : fits (1 + zs.length) 24 = true := by simp only [fits, Bool.and_eq_true, decide_eq_true_eq]; omega
  have hld : h.ldn ⟨b, 0, 0⟩ (1 * 1) = some [c] := by
    unfold H.ldn H.row
    simp only [p.2, BEq.rfl, Bool.not_false, Bool.true_or, Bool.and_self, if_true]
    rfl
  unfold append
  rw [hsrc]
  have h1 : 1 < 1 + zs.length := by omega
  have h2 : zs ≠ [] := List.length_pos_iff.1 h0
  have h3 : 1 + zs.length ≤ 9223372036854775807 := by omega
  simp only []
  rw [if_neg (by simpa using h2), if_neg (by simp [fit, ho, h3]), if_pos h1, hld]

/-- One certificate, and a list's. -/
theorem app22_lit {lo lo2 : Nat} {h : H} {b : Nat} {c w : AV} {cl : List UInt8} {ys : List (AV × List UInt8)} (p : Pt h b (.cells 0 22 [c] 0 false)) (hc : Ow lo h c cl) (hw : OwnCh lo2 h w ys) (hn : ys.length < 16777216) :
    ∃ v h', append h 22 1 24 (.sl ⟨b, 0, 0⟩ 1 (.ex 1)) w = some (.val v h') ∧ OwnK (min b (min lo lo2)) h' v ((c, cl) :: ys) ∧ Ext h h' := by
  have e : RowK (min b (min lo lo2)) h (.sl ⟨b, 0, 0⟩ 1 (.ex 1)) [c] := .inr ⟨b, 0, .ex 1, by omega, p.1, p.2, rfl, .inr rfl⟩
  have b1 := hc.bd
  have hb := p.1
  have hmx : 200000000000000 = maxRow := rfl
  have hsrc : srcCells h 1 w = some ((ys.map (·.1)).length, ys.map (·.1)) := hw.ch.src
  have hone : (ys.map (·.1)).all AV.one = true := by
    simp only [List.all_map, List.all_eq_true]
    exact fun p hp => (hw.el p hp).parts.2.1
  have fit : fits (ys.length + 1) 24 = true := by simp only [fits, Bool.and_eq_true, decide_eq_true_eq]; omega
  cases ys with
  | nil =>
    refine ⟨.sl ⟨b, 0, 0⟩ 1 (.ex 1), h, ?_, ⟨e, ?_⟩, Ext.refl _⟩
    · unfold append; rw [hsrc]; rfl
    · intro q hq
      simp only [List.mem_cons, List.not_mem_nil, or_false] at hq
      subst hq
      exact hc.mono (by omega)
  | cons y ys =>
    have X := Ext.new h (.cells 0 22 ([c] ++ ((y :: ys).map (·.1))) 0 false)
    refine ⟨_, _, app_lit1 p hsrc (by simp) hone (by simpa using hn), ⟨.inr ⟨h.n, 0, .op 1, by omega, by simp, h.get_new _, by simp [Nat.add_comm], .inl rfl⟩, ?_⟩, X⟩
    · intro q hq
      rcases List.mem_cons.1 hq with rfl | hq
      · exact (hc.ext X).mono (by omega)
      · exact ((hw.el q hq).ext X).mono (by omega)
theorem Ch.bq {h : H} {v : AV} {xs : List (AV × List UInt8)} (c : Ch h v xs) : blk v ≤ h.n := c.bd
theorem OwnCh.bq {lo : Nat} {h : H} {v : AV} {xs : List (AV × List UInt8)} (c : OwnCh lo h v xs) : Dj (blk v = 0 ∨ lo < blk v) ∧ blk v ≤ h.n := c.bd
theorem OwnK.bq {lo : Nat} {h : H} {v : AV} {xs : List (AV × List UInt8)} (c : OwnK lo h v xs) : Dj (blk v = 0 ∨ lo < blk v) ∧ blk v ≤ h.n := c.bd
theorem OwB.bq {lo : Nat} {h : H} {v : AV} {xs : List (AV × List UInt8)} (c : OwB lo h v xs) : Dj (blk v = 0 ∨ lo < blk v) ∧ blk v ≤ h.n := c.bd
theorem RowK.bq {lo : Nat} {h : H} {v : AV} {xs : List AV} (c : RowK lo h v xs) : Dj (blk v = 0 ∨ lo < blk v) ∧ blk v ≤ h.n := c.bd
theorem Rd.bq {h : H} {b : Nat} {v : AV} {l : List UInt8} (r : Rd h b v l) : Dj (blk v ≠ b + 1) ∧ b < h.n ∧ blk v ≤ h.n := ⟨r.ne, r.1, r.bs.bd⟩
theorem RRd.bq {h : H} {b : Nat} {v : AV} {l : List UInt8} (r : RRd h b v l) : Dj (blk v ≠ b + 1) ∧ b < h.n ∧ blk v ≤ h.n := ⟨r.ne, r.1, r.bs.bd⟩
theorem SB.bq {v v' : AV} (s : SB v v') : Dj (Go.Det.blk v' = 0 ∨ Go.Det.blk v' = Go.Det.blk v) := s.blk
end Go.Det

