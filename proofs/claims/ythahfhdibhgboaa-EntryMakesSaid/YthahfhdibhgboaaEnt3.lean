/- Entries: the reference's leaves, what is signed. -/
import Derived.Test.YthahfhdibhgboaaEnt2
set_option linter.unusedVariables false
set_option linter.unusedSimpArgs false
set_option linter.unusedSectionVars false
namespace Go.Det
open Go.Proofs
attribute [local irreducible] Wp Wo Wd iop ev slots quiets wanted put

set_option maxHeartbeats 2000000 in
theorem rleaf_run {h : H} {v : AV} {xs : List (AV × List UInt8)} (hc : Ch h v xs) (hlen : xs.length < 2 ^ 62) {t : Nat} (ht : t < 2 ^ 64) : ∃ r h', Runs TF 41 [entV t v] h r h' ∧ ∃ z, r = .tup [z, .int .i64 (leafE xs)] ∧ Ext h h' ∧ Ow h.n h' z (leafX t xs) := by
  refine Runs.ofP f41 rfl ?_
  obtain ⟨H1, X1, n1, enew, Ld⟩ := ent_new hc t
  obtain ⟨r2, H2, c2, rfl, X2⟩ := rmay_run (hc.ext X1) hlen t
  have hmx : 200000000000000 = maxRow := rfl
  have l2 := Ld H1 (Ext.refl _)
  by_cases hm : mayE xs = true
  rotate_left
  · have hm : mayE xs = false := by simpa using hm
    rw [hm] at c2
    have e1 : leafE xs = 1 := by rw [leafE, hm]; rfl
    have e2 : leafX t xs = [] := by rw [leafX, hm]; rfl
    refine Wp.seq ?_
    refine Wp.region ?_
    refine Wo.val _ _ (by kernel_rfl) (enew (by kernel_rfl)) ?_
    refine Wo.pre 8 (by kernel_rfl) ?_
    refine Wo.nil ?_
    refine Wp.seq ?_
    refine Wp.seq ?_
    refine Wp.region ?_
    refine Wo.val (entV t v) H1 (by kernel_rfl) (iop_ld (a := ⟨h.n, 0, 0⟩) (by kernel_rfl) l2.2.2) ?_
    refine Wo.call (by kernel_rfl) (by kernel_rfl) (c2) ?_
    refine Wo.pre 8 (by kernel_rfl) ?_
    refine Wo.nil ?_
    refine Wp.cond true (by kernel_rfl) ?_
    refine Wp.seq ?_
    refine Wp.region ?_
    refine Wo.pre 8 (by kernel_rfl) ?_
    refine Wo.nil ?_
    refine Wp.ret ⟨.inr rfl, .tup [.nils, .int .i64 1], (by kernel_rfl), .nils, by rw [e1], X1.trans X2, by rw [e2]; exact .inl ⟨rfl, rfl⟩⟩
  rw [hm] at c2
  have eE : leafE xs = 0 := by rw [leafE, hm]; rfl
  have eX : leafX t xs = leafB t (c0 xs) := by rw [leafX, hm]; rfl
  obtain ⟨p, hp, hc0, hp1, hp2, hx4⟩ := mayE_first hm
  rw [eE, eX, hc0]
  obtain ⟨a, q, rfl, hld⟩ := hc.at hp
  have hpB := (hc.el p (List.mem_of_getElem? hp)).1
  have ldp : ∀ k, Ext h k → k.ldg ⟨a.b, a.g, a.o + 0 * 1⟩ none = some p.1 := fun k hk => by
    obtain ⟨a', q', e, hl⟩ := (hc.ext hk).at hp
    simp only [AV.sl.injEq] at e
    obtain ⟨rfl, _, rfl⟩ := e
    exact hl
  have hlt : 0 < xs.length := (List.getElem?_eq_some_iff.1 hp).1
  obtain ⟨H3, hH3⟩ : ∃ H3, H3 = H2.new (.cells 0 5 (bytesAV [0, 0]) 0 false) := ⟨_, rfl⟩
  have X3 : Ext H2 H3 := by rw [hH3]; exact Ext.new _ _
  have lit3 : Ow H2.n H3 (.sl ⟨H2.n, 0, 0⟩ 2 (.ex 2)) [0, 0] := by rw [hH3]; exact Ow.lit H2 [0, 0]
  have eH3 : ∀ ts, iop (.bsl 5 [.int .u8 0, .int .u8 0] 2 [(0, 1, .c (.int .u8 0)), (1, 1, .c (.int .u8 0))]) (ev ts) H2 = some (.val (.sl ⟨H2.n, 0, 0⟩ 2 (.ex 2)) H3) := fun ts => by rw [hH3]; kernel_rfl
  have m1 := X1.1
  have m2 := X2.1
  have m3 := X3.1
  obtain ⟨y4, H4, c4, X4, o4⟩ := rnumq_run (h := H3) ht 8
  rw [if_pos (numE_8 ht)] at o4
  have m4 := X4.1
  have lit3' : Ow H1.n H4 (.sl ⟨H2.n, 0, 0⟩ 2 (.ex 2)) [0, 0] := (lit3.mono m2).ext X4
  obtain ⟨z4, G4, a4, w4, Y4, _⟩ := lit3'.app o4.bs (by omega) (by simp [digits_len]; omega)
  have E4 : Ext H1 G4 := ((X2.trans X3).trans X4).then2 Y4
  have k4 := E4.1
  obtain ⟨H5, hH5⟩ : ∃ H5, H5 = G4.new (.cells 0 5 (bytesAV [0, 0]) 0 false) := ⟨_, rfl⟩
  have X5 : Ext G4 H5 := by rw [hH5]; exact Ext.new _ _
  have lit5 : Ow G4.n H5 (.sl ⟨G4.n, 0, 0⟩ 2 (.ex 2)) [0, 0] := by rw [hH5]; exact Ow.lit G4 [0, 0]
  have eH5 : ∀ ts, iop (.bsl 5 [.int .u8 0, .int .u8 0] 2 [(0, 1, .c (.int .u8 0)), (1, 1, .c (.int .u8 0))]) (ev ts) G4 = some (.val (.sl ⟨G4.n, 0, 0⟩ 2 (.ex 2)) H5) := fun ts => by rw [hH5]; kernel_rfl
  have m5 := X5.1
  obtain ⟨z5, G5, a5, w5, Y5, _⟩ := (w4.ext X5).app lit5.bs (by omega) (by simp [digits_len]; omega)
  have E5 : Ext H1 G5 := (E4.trans X5).then2 Y5
  have k5 := E5.1
  obtain ⟨y6, H6, c6, X6, o6⟩ := rvecq_run (h := G5) ((hpB.ext X1).ext E5) (3 : Nat) (by omega)
  rw [if_pos (vecE_small (by omega) (.inr rfl))] at o6
  have m6 := X6.1
  obtain ⟨z6, G6, a6, w6, Y6, _⟩ := (w5.ext X6).app o6.bs (by omega) (by simp [digits_len]; omega)
  have E6 : Ext H1 G6 := (E5.trans X6).then2 Y6
  have k6 := E6.1
  obtain ⟨H7, hH7⟩ : ∃ H7, H7 = G6.new (.cells 0 5 (bytesAV [0, 0]) 0 false) := ⟨_, rfl⟩
  have X7 : Ext G6 H7 := by rw [hH7]; exact Ext.new _ _
  have lit7 : Ow G6.n H7 (.sl ⟨G6.n, 0, 0⟩ 2 (.ex 2)) [0, 0] := by rw [hH7]; exact Ow.lit G6 [0, 0]
  have eH7 : ∀ ts, iop (.bsl 5 [.int .u8 0, .int .u8 0] 2 [(0, 1, .c (.int .u8 0)), (1, 1, .c (.int .u8 0))]) (ev ts) G6 = some (.val (.sl ⟨G6.n, 0, 0⟩ 2 (.ex 2)) H7) := fun ts => by rw [hH7]; kernel_rfl
  have m7 := X7.1
  obtain ⟨z7, G7, a7, w7, Y7, _⟩ := (w6.ext X7).app lit7.bs (by omega) (by simp [digits_len]; omega)
  have E7 : Ext H1 G7 := (E6.trans X7).then2 Y7
  have l3 := Ld H3 (X2.trans X3)
  have l5 := Ld G5 E5
  have hld5 := ldp G5 (X1.trans E5)
  refine Wp.seq ?_
  refine Wp.region ?_
  refine Wo.val _ _ (by kernel_rfl) (enew (by kernel_rfl)) ?_
  refine Wo.pre 8 (by kernel_rfl) ?_
  refine Wo.nil ?_
  refine Wp.seq ?_
  refine Wp.seq ?_
  refine Wp.region ?_
  refine Wo.val (entV t (.sl a xs.length q)) H1 (by kernel_rfl) (iop_ld (a := ⟨h.n, 0, 0⟩) (by kernel_rfl) l2.2.2) ?_
  refine Wo.call (by kernel_rfl) (by kernel_rfl) (c2) ?_
  refine Wo.pre 8 (by kernel_rfl) ?_
  refine Wo.nil ?_
  refine Wp.cond false (by kernel_rfl) ?_
  refine Wp.skip ?_
  refine Wp.seq ?_
  refine Wp.region ?_
  refine Wo.val _ _ (by kernel_rfl) (eH3 _) ?_
  refine Wo.pre 8 (by kernel_rfl) ?_
  refine Wo.nil ?_
  refine Wp.seq ?_
  refine Wp.region ?_
  refine Wo.pre 1 (by kernel_rfl) ?_
  refine Wo.pre 1 (by kernel_rfl) ?_
  refine Wo.val (.int .u64 t) H3 (by kernel_rfl) (iop_ld (a := ⟨h.n, 0, 0⟩) (by kernel_rfl) l3.1) ?_
  refine Wo.call (by kernel_rfl) (by kernel_rfl) (c4) ?_
  refine Wo.val z4 G4 (by kernel_rfl) (iop_app (v := .sl ⟨H2.n, 0, 0⟩ 2 (.ex 2)) (w := y4) (by kernel_rfl) (by kernel_rfl) o4.bs.parts.2.2 a4) ?_
  refine Wo.pre 8 (by kernel_rfl) ?_
  refine Wo.nil ?_
  refine Wp.seq ?_
  refine Wp.region ?_
  refine Wo.pre 1 (by kernel_rfl) ?_
  refine Wo.val _ _ (by kernel_rfl) (eH5 _) ?_
  refine Wo.val z5 G5 (by kernel_rfl) (iop_app (v := z4) (w := .sl ⟨G4.n, 0, 0⟩ 2 (.ex 2)) (by kernel_rfl) (by kernel_rfl) rfl a5) ?_
  refine Wo.pre 8 (by kernel_rfl) ?_
  refine Wo.nil ?_
  refine Wp.seq ?_
  refine Wp.region ?_
  refine Wo.pre 1 (by kernel_rfl) ?_
  refine Wo.pre 1 (by kernel_rfl) ?_
  refine Wo.val (.sl a xs.length q) G5 (by kernel_rfl) (iop_ld (a := ⟨h.n, 0, 1⟩) (by kernel_rfl) l5.2.1) ?_
  refine Wo.val _ G5 (by kernel_rfl) (iop_ia (a := a) (n := xs.length) (c := q) (i := 0) (by kernel_rfl) (by kernel_rfl) hlt) ?_
  refine Wo.val p.1 G5 (by kernel_rfl) (iop_ld (a := ⟨a.b, a.g, a.o + 0 * 1⟩) (by kernel_rfl) hld5) ?_
  refine Wo.call (by kernel_rfl) (by kernel_rfl) (c6) ?_
  refine Wo.val z6 G6 (by kernel_rfl) (iop_app (v := z5) (w := y6) (by kernel_rfl) (by kernel_rfl) o6.bs.parts.2.2 a6) ?_
  refine Wo.pre 8 (by kernel_rfl) ?_
  refine Wo.nil ?_
  refine Wp.seq ?_
  refine Wp.region ?_
  refine Wo.pre 1 (by kernel_rfl) ?_
  refine Wo.val _ _ (by kernel_rfl) (eH7 _) ?_
  refine Wo.val z7 G7 (by kernel_rfl) (iop_app (v := z6) (w := .sl ⟨G6.n, 0, 0⟩ 2 (.ex 2)) (by kernel_rfl) (by kernel_rfl) lit7.bs.parts.2.2 a7) ?_
  refine Wo.pre 8 (by kernel_rfl) ?_
  refine Wo.nil ?_
  have e : [0, 0] ++ digits t 8 (8 : Int).toNat ++ [0, 0] ++ (digits p.2.length ((3 : Nat) : Int).toNat ((3 : Nat) : Int).toNat ++ p.2) ++ [0, 0] = leafB t p.2 := rfl
  refine Wp.ret ⟨.inr rfl, .tup [z7, .int .i64 0], (by kernel_rfl), z7, rfl, X1.trans E7, ?_⟩
  rw [← e]
  exact w7.mono m1

set_option maxHeartbeats 2000000 in
theorem rsct_run {h : H} {v : AV} {xs : List (AV × List UInt8)} (hc : Ch h v xs) (hlen : xs.length < 2 ^ 62) {t : Nat} (ht : t < 2 ^ 64) : ∃ r h', Runs TF 46 [entV t v] h r h' ∧ ∃ z, r = .tup [z, .int .i64 (leafE xs)] ∧ Ext h h' ∧ Ow h.n h' z (leafX t xs) := by
  refine Runs.ofP f46 rfl ?_
  obtain ⟨H1, X1, n1, enew, Ld⟩ := ent_new hc t
  obtain ⟨r2, H2, c2, rfl, X2⟩ := rmay_run (hc.ext X1) hlen t
  have hmx : 200000000000000 = maxRow := rfl
  have l2 := Ld H1 (Ext.refl _)
  by_cases hm : mayE xs = true
  rotate_left
  · have hm : mayE xs = false := by simpa using hm
    rw [hm] at c2
    have e1 : leafE xs = 1 := by rw [leafE, hm]; rfl
    have e2 : leafX t xs = [] := by rw [leafX, hm]; rfl
    refine Wp.seq ?_
    refine Wp.region ?_
    refine Wo.val _ _ (by kernel_rfl) (enew (by kernel_rfl)) ?_
    refine Wo.pre 8 (by kernel_rfl) ?_
    refine Wo.nil ?_
    refine Wp.seq ?_
    refine Wp.seq ?_
    refine Wp.region ?_
    refine Wo.val (entV t v) H1 (by kernel_rfl) (iop_ld (a := ⟨h.n, 0, 0⟩) (by kernel_rfl) l2.2.2) ?_
    refine Wo.call (by kernel_rfl) (by kernel_rfl) (c2) ?_
    refine Wo.pre 8 (by kernel_rfl) ?_
    refine Wo.nil ?_
    refine Wp.cond true (by kernel_rfl) ?_
    refine Wp.seq ?_
    refine Wp.region ?_
    refine Wo.pre 8 (by kernel_rfl) ?_
    refine Wo.nil ?_
    refine Wp.ret ⟨.inr rfl, .tup [.nils, .int .i64 1], (by kernel_rfl), .nils, by rw [e1], X1.trans X2, by rw [e2]; exact .inl ⟨rfl, rfl⟩⟩
  rw [hm] at c2
  have eE : leafE xs = 0 := by rw [leafE, hm]; rfl
  have eX : leafX t xs = leafB t (c0 xs) := by rw [leafX, hm]; rfl
  obtain ⟨p, hp, hc0, hp1, hp2, hx4⟩ := mayE_first hm
  rw [eE, eX, hc0]
  obtain ⟨a, q, rfl, hld⟩ := hc.at hp
  have hpB := (hc.el p (List.mem_of_getElem? hp)).1
  have ldp : ∀ k, Ext h k → k.ldg ⟨a.b, a.g, a.o + 0 * 1⟩ none = some p.1 := fun k hk => by
    obtain ⟨a', q', e, hl⟩ := (hc.ext hk).at hp
    simp only [AV.sl.injEq] at e
    obtain ⟨rfl, _, rfl⟩ := e
    exact hl
  have hlt : 0 < xs.length := (List.getElem?_eq_some_iff.1 hp).1
  obtain ⟨H3, hH3⟩ : ∃ H3, H3 = H2.new (.cells 0 5 (bytesAV [0, 0]) 0 false) := ⟨_, rfl⟩
  have X3 : Ext H2 H3 := by rw [hH3]; exact Ext.new _ _
  have lit3 : Ow H2.n H3 (.sl ⟨H2.n, 0, 0⟩ 2 (.ex 2)) [0, 0] := by rw [hH3]; exact Ow.lit H2 [0, 0]
  have eH3 : ∀ ts, iop (.bsl 5 [.int .u8 0, .int .u8 0] 2 [(0, 1, .c (.int .u8 0)), (1, 1, .c (.int .u8 0))]) (ev ts) H2 = some (.val (.sl ⟨H2.n, 0, 0⟩ 2 (.ex 2)) H3) := fun ts => by rw [hH3]; kernel_rfl
  have m1 := X1.1
  have m2 := X2.1
  have m3 := X3.1
  obtain ⟨y4, H4, c4, X4, o4⟩ := rnumq_run (h := H3) ht 8
  rw [if_pos (numE_8 ht)] at o4
  have m4 := X4.1
  have lit3' : Ow H1.n H4 (.sl ⟨H2.n, 0, 0⟩ 2 (.ex 2)) [0, 0] := (lit3.mono m2).ext X4
  obtain ⟨z4, G4, a4, w4, Y4, _⟩ := lit3'.app o4.bs (by omega) (by simp [digits_len]; omega)
  have E4 : Ext H1 G4 := ((X2.trans X3).trans X4).then2 Y4
  have k4 := E4.1
  obtain ⟨H5, hH5⟩ : ∃ H5, H5 = G4.new (.cells 0 5 (bytesAV [0, 0]) 0 false) := ⟨_, rfl⟩
  have X5 : Ext G4 H5 := by rw [hH5]; exact Ext.new _ _
  have lit5 : Ow G4.n H5 (.sl ⟨G4.n, 0, 0⟩ 2 (.ex 2)) [0, 0] := by rw [hH5]; exact Ow.lit G4 [0, 0]
  have eH5 : ∀ ts, iop (.bsl 5 [.int .u8 0, .int .u8 0] 2 [(0, 1, .c (.int .u8 0)), (1, 1, .c (.int .u8 0))]) (ev ts) G4 = some (.val (.sl ⟨G4.n, 0, 0⟩ 2 (.ex 2)) H5) := fun ts => by rw [hH5]; kernel_rfl
  have m5 := X5.1
  obtain ⟨z5, G5, a5, w5, Y5, _⟩ := (w4.ext X5).app lit5.bs (by omega) (by simp [digits_len]; omega)
  have E5 : Ext H1 G5 := (E4.trans X5).then2 Y5
  have k5 := E5.1
  obtain ⟨y6, H6, c6, X6, o6⟩ := rvecq_run (h := G5) ((hpB.ext X1).ext E5) (3 : Nat) (by omega)
  rw [if_pos (vecE_small (by omega) (.inr rfl))] at o6
  have m6 := X6.1
  obtain ⟨z6, G6, a6, w6, Y6, _⟩ := (w5.ext X6).app o6.bs (by omega) (by simp [digits_len]; omega)
  have E6 : Ext H1 G6 := (E5.trans X6).then2 Y6
  have k6 := E6.1
  obtain ⟨y7, H7, c7, X7, lit7⟩ := rvecq_run (h := G6) (y := .nils) (ly := []) (.inl ⟨rfl, rfl⟩) (2 : Nat) (by simp)
  rw [if_pos (vecE_small (by simp) (.inl rfl))] at lit7
  have e02 : digits ([] : List UInt8).length ((2 : Nat) : Int).toNat ((2 : Nat) : Int).toNat ++ [] = [0, 0] := by
    show digits 0 2 2 ++ [] = [0, 0]
    rw [dig02]; rfl
  rw [e02] at lit7
  have m7 := X7.1
  obtain ⟨z7, G7, a7, w7, Y7, _⟩ := (w6.ext X7).app lit7.bs (by omega) (by simp [digits_len]; omega)
  have E7 : Ext H1 G7 := (E6.trans X7).then2 Y7
  have l3 := Ld H3 (X2.trans X3)
  have l5 := Ld G5 E5
  have hld5 := ldp G5 (X1.trans E5)
  refine Wp.seq ?_
  refine Wp.region ?_
  refine Wo.val _ _ (by kernel_rfl) (enew (by kernel_rfl)) ?_
  refine Wo.pre 8 (by kernel_rfl) ?_
  refine Wo.nil ?_
  refine Wp.seq ?_
  refine Wp.seq ?_
  refine Wp.region ?_
  refine Wo.val (entV t (.sl a xs.length q)) H1 (by kernel_rfl) (iop_ld (a := ⟨h.n, 0, 0⟩) (by kernel_rfl) l2.2.2) ?_
  refine Wo.call (by kernel_rfl) (by kernel_rfl) (c2) ?_
  refine Wo.pre 8 (by kernel_rfl) ?_
  refine Wo.nil ?_
  refine Wp.cond false (by kernel_rfl) ?_
  refine Wp.skip ?_
  refine Wp.seq ?_
  refine Wp.region ?_
  refine Wo.val _ _ (by kernel_rfl) (eH3 _) ?_
  refine Wo.pre 8 (by kernel_rfl) ?_
  refine Wo.nil ?_
  refine Wp.seq ?_
  refine Wp.region ?_
  refine Wo.pre 1 (by kernel_rfl) ?_
  refine Wo.pre 1 (by kernel_rfl) ?_
  refine Wo.val (.int .u64 t) H3 (by kernel_rfl) (iop_ld (a := ⟨h.n, 0, 0⟩) (by kernel_rfl) l3.1) ?_
  refine Wo.call (by kernel_rfl) (by kernel_rfl) (c4) ?_
  refine Wo.val z4 G4 (by kernel_rfl) (iop_app (v := .sl ⟨H2.n, 0, 0⟩ 2 (.ex 2)) (w := y4) (by kernel_rfl) (by kernel_rfl) o4.bs.parts.2.2 a4) ?_
  refine Wo.pre 8 (by kernel_rfl) ?_
  refine Wo.nil ?_
  refine Wp.seq ?_
  refine Wp.region ?_
  refine Wo.pre 1 (by kernel_rfl) ?_
  refine Wo.val _ _ (by kernel_rfl) (eH5 _) ?_
  refine Wo.val z5 G5 (by kernel_rfl) (iop_app (v := z4) (w := .sl ⟨G4.n, 0, 0⟩ 2 (.ex 2)) (by kernel_rfl) (by kernel_rfl) rfl a5) ?_
  refine Wo.pre 8 (by kernel_rfl) ?_
  refine Wo.nil ?_
  refine Wp.seq ?_
  refine Wp.region ?_
  refine Wo.pre 1 (by kernel_rfl) ?_
  refine Wo.pre 1 (by kernel_rfl) ?_
  refine Wo.val (.sl a xs.length q) G5 (by kernel_rfl) (iop_ld (a := ⟨h.n, 0, 1⟩) (by kernel_rfl) l5.2.1) ?_
  refine Wo.val _ G5 (by kernel_rfl) (iop_ia (a := a) (n := xs.length) (c := q) (i := 0) (by kernel_rfl) (by kernel_rfl) hlt) ?_
  refine Wo.val p.1 G5 (by kernel_rfl) (iop_ld (a := ⟨a.b, a.g, a.o + 0 * 1⟩) (by kernel_rfl) hld5) ?_
  refine Wo.call (by kernel_rfl) (by kernel_rfl) (c6) ?_
  refine Wo.val z6 G6 (by kernel_rfl) (iop_app (v := z5) (w := y6) (by kernel_rfl) (by kernel_rfl) o6.bs.parts.2.2 a6) ?_
  refine Wo.pre 8 (by kernel_rfl) ?_
  refine Wo.nil ?_
  refine Wp.seq ?_
  refine Wp.region ?_
  refine Wo.pre 1 (by kernel_rfl) ?_
  refine Wo.call (by kernel_rfl) (by kernel_rfl) (c7) ?_
  refine Wo.val z7 G7 (by kernel_rfl) (iop_app (v := z6) (w := y7) (by kernel_rfl) (by kernel_rfl) lit7.bs.parts.2.2 a7) ?_
  refine Wo.pre 8 (by kernel_rfl) ?_
  refine Wo.nil ?_
  have e : [0, 0] ++ digits t 8 (8 : Int).toNat ++ [0, 0] ++ (digits p.2.length ((3 : Nat) : Int).toNat ((3 : Nat) : Int).toNat ++ p.2) ++ [0, 0] = leafB t p.2 := rfl
  refine Wp.ret ⟨.inr rfl, .tup [z7, .int .i64 0], (by kernel_rfl), z7, rfl, X1.trans E7, ?_⟩
  rw [← e]
  exact w7.mono m1
end Go.Det
