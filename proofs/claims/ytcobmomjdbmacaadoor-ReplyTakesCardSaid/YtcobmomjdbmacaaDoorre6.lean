/- Reply: a reply's bytes: the walks. -/
import Derived.Test.YtcobmomjdbmacaaDoorre5
set_option linter.unusedVariables false
set_option linter.unusedSimpArgs false
set_option linter.unusedSectionVars false
namespace Go.Det
open Go.Proofs
attribute [local irreducible] Wp Wo Wd iop ev slots quiets wanted put

theorem code_nat {st : Int} (h : st = 200 ∨ st = 400 ∨ st = 404 ∨ st = 405 ∨ st = 500 ∨ st = 503) : ∃ k : Nat, st = k ∧ k ≤ 1000 ∧ Re.words (k : Int) ≠ [] := by
  have hw := (words_some h).1
  obtain ⟨k, rfl⟩ : ∃ k : Nat, st = k := ⟨st.toNat, by omega⟩
  exact ⟨k, rfl, by omega, hw⟩

set_option maxHeartbeats 8000000 in
/-- A reply that may be told: its bytes. -/
theorem putP_ok {h : H} {k : Nat} {x : AV} {l : List UInt8} (hk0 : k ≤ 1000) (hw : Re.words (k : Int) ≠ []) (hx : Bs h x l) (hl : l.length ≤ 1048576) (c : Bool) : ∃ r h', Runs TF 12 [.int .i64 ((k : Nat) : Int), x, .bool c] h r h' ∧ Ext h h' ∧ Ow h.n h' r (Re.head k l.length c ++ l) := by
  have hmx : 200000000000000 = maxRow := rfl
  refine Runs.ofP f12 rfl ?_
  have d1 := dec_len20 k
  have d2 := dec_len20 l.length
  have d3 := words_len (k : Int)
  have hv : Re.ver.length = 9 := rfl
  have hk : Re.kind.length = 50 := rfl
  have he := fun c => Re.ending_len c
  have het := he true
  have hef := he false
  clear he
  obtain ⟨a1, ha1⟩ : ∃ a, a = Re.ver ++ Re.dec k := ⟨_, rfl⟩
  have l1 : a1.length ≤ 29 := by rw [ha1, List.length_append]; omega
  obtain ⟨a2, ha2⟩ : ∃ a, a = a1 ++ [32] := ⟨_, rfl⟩
  have l2 : a2.length ≤ 30 := by rw [ha2, List.length_append]; simp; omega
  obtain ⟨a3, ha3⟩ : ∃ a, a = a2 ++ Re.words k := ⟨_, rfl⟩
  have l3 : a3.length ≤ 60 := by rw [ha3, List.length_append]; omega
  obtain ⟨a4, ha4⟩ : ∃ a, a = a3 ++ Re.kind := ⟨_, rfl⟩
  have l4 : a4.length ≤ 110 := by rw [ha4, List.length_append]; omega
  obtain ⟨a5, ha5⟩ : ∃ a, a = a4 ++ Re.dec l.length := ⟨_, rfl⟩
  have l5 : a5.length ≤ 130 := by rw [ha5, List.length_append]; omega
  have l6t : (a5 ++ Re.ending true).length ≤ 160 := by rw [List.length_append]; omega
  have l6f : (a5 ++ Re.ending false).length ≤ 160 := by rw [List.length_append]; omega
  have hh : ∀ c, Re.head k l.length c = a5 ++ Re.ending c := fun c => by rw [ha5, ha4, ha3, ha2, ha1]; rfl
  rw [hh c]
  clear hh
  cases c
  · have m1 := hx.bq
    have k2 := hx.parts
    refine Wp.seq ?_
    refine Wp.region ?_
    refine Wo.pre 1 (by kernel_rfl) ?_
    refine Wo.nil ?_
    refine Wp.seq ?_
    refine Wp.seq ?_
    refine Wp.region ?_
    refine Wo.pre 1 (by kernel_rfl) ?_
    obtain ⟨r3, H4, c5, rfl, X7⟩ := wordsP_run (h) (↑k)
    have m8 := X7.1
    refine Wo.call (by kernel_rfl) (by kernel_rfl) c5 ?_
    clear c5
    refine Wo.cmpS (x := IX.t 10) (y := IX.c (AV.str [])) (a := Re.words ↑k) (b := []) (by kernel_rfl) (by kernel_rfl) (by kernel_rfl) (by kernel_rfl) (fun q9 => ?_) (fun q9 => ?_)
    · exact absurd (by with_reducible assumption) hw
    refine Wo.pre 2 (by kernel_rfl) ?_
    have F10 := (hx.fr X7.fr (.inr id))
    refine Wo.val (.int .i64 (List.length (l) : Nat)) H4 (by kernel_rfl) (Bs.len F10 (by kernel_rfl)) ?_
    refine Wo.cmp (op := .gtr) (x := IX.t 14) (y := IX.c (AV.int IntKind.i64 1048576)) (k := IntKind.i64) (a := ↑l.length) (b := 1048576) ((↑l.length : Int) > (1048576 : Int)) (by kernel_rfl) (by kernel_rfl) (by kernel_rfl) (by kernel_rfl) (by simp) (by kernel_rfl) (fun q11 => ?_) (fun q11 => ?_)
    · (exfalso; omega)
    have m12 := F10.bq
    have k13 := F10.parts
    refine Wo.pre 1 (by kernel_rfl) ?_
    refine Wo.nil ?_
    refine Wp.cond false (by kernel_rfl) ?_
    refine Wp.skip ?_
    refine Wp.seq ?_
    refine Wp.region ?_
    refine Wo.pre 1 (by kernel_rfl) ?_
    refine Wo.nil ?_
    refine Wp.seq ?_
    refine Wp.seq ?_
    refine Wp.region ?_
    refine Wo.pre 1 (by kernel_rfl) ?_
    refine Wo.nil ?_
    refine Wp.cond false (by kernel_rfl) ?_
    refine Wp.skip ?_
    refine Wp.seq ?_
    refine Wp.region ?_
    refine Wo.pre 1 (by kernel_rfl) ?_
    have c14 := itoa_run (m := k) (H4) (by first | omega | (simp; omega) | (simp; done) | assumption)
    refine Wo.call (by kernel_rfl) (by kernel_rfl) c14 ?_
    clear c14
    refine Wo.val (.str a1) _ (by kernel_rfl) (by rw [ha1]; exact iop_addS (a := Re.ver) (b := Re.dec k) (by kernel_rfl) (by kernel_rfl) (by omega)) ?_
    refine Wo.val (.str a2) _ (by kernel_rfl) (by rw [ha2]; exact iop_addS (a := a1) (b := [32]) (by kernel_rfl) (by kernel_rfl) (by simp; omega)) ?_
    refine Wo.pre 1 (by kernel_rfl) ?_
    obtain ⟨r15, H16, c17, rfl, X19⟩ := wordsP_run (H4) (↑k)
    have m20 := X19.1
    refine Wo.call (by kernel_rfl) (by kernel_rfl) c17 ?_
    clear c17
    refine Wo.val (.str a3) _ (by kernel_rfl) (by rw [ha3]; exact iop_addS (a := a2) (b := Re.words k) (by kernel_rfl) (by kernel_rfl) (by omega)) ?_
    refine Wo.val (.str a4) _ (by kernel_rfl) (by rw [ha4]; exact iop_addS (a := a3) (b := Re.kind) (by kernel_rfl) (by kernel_rfl) (by omega)) ?_
    refine Wo.pre 1 (by kernel_rfl) ?_
    have F21 := (F10.fr X19.fr (.inr id))
    refine Wo.val (.int .i64 (List.length (l) : Nat)) H16 (by kernel_rfl) (Bs.len F21 (by kernel_rfl)) ?_
    have c22 := itoa_run (m := l.length) (H16) (by first | omega | (simp; omega) | (simp; done) | assumption)
    refine Wo.call (by kernel_rfl) (by kernel_rfl) c22 ?_
    clear c22
    refine Wo.val (.str a5) _ (by kernel_rfl) (by rw [ha5]; exact iop_addS (a := a4) (b := Re.dec l.length) (by kernel_rfl) (by kernel_rfl) (by omega)) ?_
    refine Wo.pre 1 (by kernel_rfl) ?_
    refine Wo.val (.str (a5 ++ Re.ending false)) _ (by kernel_rfl) (iop_addS (a := a5) (b := Re.ending false) (by kernel_rfl) (by kernel_rfl) (by omega)) ?_
    refine Wo.pre 1 (by kernel_rfl) ?_
    refine Wo.nil ?_
    refine Wp.seq ?_
    refine Wp.region ?_
    refine Wo.pre 1 (by kernel_rfl) ?_
    (refine Wo.cvSB (a5 ++ Re.ending false) rfl (by kernel_rfl) (by kernel_rfl) (by omega) (fun Hs Xs Os => ?_); have ns := Xs.1; have qs := Os.bq; have ps := Os.parts)
    refine Wo.pre 1 (by kernel_rfl) ?_
    have F23 := (F21.fr Xs (.inr id))
    obtain ⟨v24, H25, a26, q27, X28, q29⟩ := Ow.appF (lo := H16.n) Os F23 ns (by first | omega | (simp; omega) | (simp; done) | assumption)
    refine Wo.val _ _ (by kernel_rfl) (iop_appG (v := AV.sl { b := H16.n, g := 0, o := 0 } (a5 ++ Re.ending false).length (Cp.op 1)) (w := x) (by kernel_rfl) (by kernel_rfl) k13.2.2 a26) ?_
    have m30 := q27.bq
    have k31 := q27.parts
    have m32 := X28.1
    refine Wo.pre 1 (by kernel_rfl) ?_
    refine Wo.nil ?_
    refine Wp.ret ?_
    refine ⟨.inr rfl, (v24), (ret_one (res_tmp (by kernel_rfl) res_nil)), ?_⟩
    dsimp only
    exact ⟨((((X7.fr.trans0 X19.fr).trans0 Xs).transL X28).ext (by have d0 := qs.1.e; intro s hs; first | omega | (dsimp only at hs; omega) | (simp only [blk_nils, blk_sl] at hs ⊢; omega))), (q27.mono (by omega))⟩
  · have m1 := hx.bq
    have k2 := hx.parts
    refine Wp.seq ?_
    refine Wp.region ?_
    refine Wo.pre 1 (by kernel_rfl) ?_
    refine Wo.nil ?_
    refine Wp.seq ?_
    refine Wp.seq ?_
    refine Wp.region ?_
    refine Wo.pre 1 (by kernel_rfl) ?_
    obtain ⟨r3, H4, c5, rfl, X7⟩ := wordsP_run (h) (↑k)
    have m8 := X7.1
    refine Wo.call (by kernel_rfl) (by kernel_rfl) c5 ?_
    clear c5
    refine Wo.cmpS (x := IX.t 10) (y := IX.c (AV.str [])) (a := Re.words ↑k) (b := []) (by kernel_rfl) (by kernel_rfl) (by kernel_rfl) (by kernel_rfl) (fun q9 => ?_) (fun q9 => ?_)
    · exact absurd (by with_reducible assumption) hw
    refine Wo.pre 2 (by kernel_rfl) ?_
    have F10 := (hx.fr X7.fr (.inr id))
    refine Wo.val (.int .i64 (List.length (l) : Nat)) H4 (by kernel_rfl) (Bs.len F10 (by kernel_rfl)) ?_
    refine Wo.cmp (op := .gtr) (x := IX.t 14) (y := IX.c (AV.int IntKind.i64 1048576)) (k := IntKind.i64) (a := ↑l.length) (b := 1048576) ((↑l.length : Int) > (1048576 : Int)) (by kernel_rfl) (by kernel_rfl) (by kernel_rfl) (by kernel_rfl) (by simp) (by kernel_rfl) (fun q11 => ?_) (fun q11 => ?_)
    · (exfalso; omega)
    have m12 := F10.bq
    have k13 := F10.parts
    refine Wo.pre 1 (by kernel_rfl) ?_
    refine Wo.nil ?_
    refine Wp.cond false (by kernel_rfl) ?_
    refine Wp.skip ?_
    refine Wp.seq ?_
    refine Wp.region ?_
    refine Wo.pre 1 (by kernel_rfl) ?_
    refine Wo.nil ?_
    refine Wp.seq ?_
    refine Wp.seq ?_
    refine Wp.region ?_
    refine Wo.pre 1 (by kernel_rfl) ?_
    refine Wo.nil ?_
    refine Wp.cond true (by kernel_rfl) ?_
    refine Wp.region ?_
    refine Wo.pre 1 (by kernel_rfl) ?_
    refine Wo.nil ?_
    refine Wp.seq ?_
    refine Wp.region ?_
    refine Wo.pre 1 (by kernel_rfl) ?_
    have c14 := itoa_run (m := k) (H4) (by first | omega | (simp; omega) | (simp; done) | assumption)
    refine Wo.call (by kernel_rfl) (by kernel_rfl) c14 ?_
    clear c14
    refine Wo.val (.str a1) _ (by kernel_rfl) (by rw [ha1]; exact iop_addS (a := Re.ver) (b := Re.dec k) (by kernel_rfl) (by kernel_rfl) (by omega)) ?_
    refine Wo.val (.str a2) _ (by kernel_rfl) (by rw [ha2]; exact iop_addS (a := a1) (b := [32]) (by kernel_rfl) (by kernel_rfl) (by simp; omega)) ?_
    refine Wo.pre 1 (by kernel_rfl) ?_
    obtain ⟨r15, H16, c17, rfl, X19⟩ := wordsP_run (H4) (↑k)
    have m20 := X19.1
    refine Wo.call (by kernel_rfl) (by kernel_rfl) c17 ?_
    clear c17
    refine Wo.val (.str a3) _ (by kernel_rfl) (by rw [ha3]; exact iop_addS (a := a2) (b := Re.words k) (by kernel_rfl) (by kernel_rfl) (by omega)) ?_
    refine Wo.val (.str a4) _ (by kernel_rfl) (by rw [ha4]; exact iop_addS (a := a3) (b := Re.kind) (by kernel_rfl) (by kernel_rfl) (by omega)) ?_
    refine Wo.pre 1 (by kernel_rfl) ?_
    have F21 := (F10.fr X19.fr (.inr id))
    refine Wo.val (.int .i64 (List.length (l) : Nat)) H16 (by kernel_rfl) (Bs.len F21 (by kernel_rfl)) ?_
    have c22 := itoa_run (m := l.length) (H16) (by first | omega | (simp; omega) | (simp; done) | assumption)
    refine Wo.call (by kernel_rfl) (by kernel_rfl) c22 ?_
    clear c22
    refine Wo.val (.str a5) _ (by kernel_rfl) (by rw [ha5]; exact iop_addS (a := a4) (b := Re.dec l.length) (by kernel_rfl) (by kernel_rfl) (by omega)) ?_
    refine Wo.pre 1 (by kernel_rfl) ?_
    refine Wo.val (.str (a5 ++ Re.ending true)) _ (by kernel_rfl) (iop_addS (a := a5) (b := Re.ending true) (by kernel_rfl) (by kernel_rfl) (by omega)) ?_
    refine Wo.pre 1 (by kernel_rfl) ?_
    refine Wo.nil ?_
    refine Wp.seq ?_
    refine Wp.region ?_
    refine Wo.pre 1 (by kernel_rfl) ?_
    (refine Wo.cvSB (a5 ++ Re.ending true) rfl (by kernel_rfl) (by kernel_rfl) (by omega) (fun Hs Xs Os => ?_); have ns := Xs.1; have qs := Os.bq; have ps := Os.parts)
    refine Wo.pre 1 (by kernel_rfl) ?_
    have F23 := (F21.fr Xs (.inr id))
    obtain ⟨v24, H25, a26, q27, X28, q29⟩ := Ow.appF (lo := H16.n) Os F23 ns (by first | omega | (simp; omega) | (simp; done) | assumption)
    refine Wo.val _ _ (by kernel_rfl) (iop_appG (v := AV.sl { b := H16.n, g := 0, o := 0 } (a5 ++ Re.ending true).length (Cp.op 1)) (w := x) (by kernel_rfl) (by kernel_rfl) k13.2.2 a26) ?_
    have m30 := q27.bq
    have k31 := q27.parts
    have m32 := X28.1
    refine Wo.pre 1 (by kernel_rfl) ?_
    refine Wo.nil ?_
    refine Wp.ret ?_
    refine ⟨.inr rfl, (v24), (ret_one (res_tmp (by kernel_rfl) res_nil)), ?_⟩
    dsimp only
    exact ⟨((((X7.fr.trans0 X19.fr).trans0 Xs).transL X28).ext (by have d0 := qs.1.e; intro s hs; first | omega | (dsimp only at hs; omega) | (simp only [blk_nils, blk_sl] at hs ⊢; omega))), (q27.mono (by omega))⟩

set_option maxHeartbeats 8000000 in
/-- A reply that may not be told. -/
theorem putP_no {h : H} {st : Int} {x : AV} {l : List UInt8} (hx : Bs h x l) (hno : Re.words st = [] ∨ 1048576 < l.length) (c : Bool) : ∃ r h', Runs TF 12 [.int .i64 st, x, .bool c] h r h' ∧ Ext h h' ∧ Ow h.n h' r (Re.head 500 0 c) := by
  have hmx : 200000000000000 = maxRow := rfl
  refine Runs.ofP f12 rfl ?_
  have d1 := dec_len20 500
  have d2 := dec_len20 0
  have d3 := words_len (500 : Int)
  have hv : Re.ver.length = 9 := rfl
  have hk : Re.kind.length = 50 := rfl
  have he := fun c => Re.ending_len c
  have het := he true
  have hef := he false
  clear he
  obtain ⟨a1, ha1⟩ : ∃ a, a = Re.ver ++ Re.dec 500 := ⟨_, rfl⟩
  have l1 : a1.length ≤ 29 := by rw [ha1, List.length_append]; omega
  obtain ⟨a2, ha2⟩ : ∃ a, a = a1 ++ [32] := ⟨_, rfl⟩
  have l2 : a2.length ≤ 30 := by rw [ha2, List.length_append]; simp; omega
  obtain ⟨a3, ha3⟩ : ∃ a, a = a2 ++ Re.words 500 := ⟨_, rfl⟩
  have l3 : a3.length ≤ 60 := by rw [ha3, List.length_append]; omega
  obtain ⟨a4, ha4⟩ : ∃ a, a = a3 ++ Re.kind := ⟨_, rfl⟩
  have l4 : a4.length ≤ 110 := by rw [ha4, List.length_append]; omega
  obtain ⟨a5, ha5⟩ : ∃ a, a = a4 ++ Re.dec 0 := ⟨_, rfl⟩
  have l5 : a5.length ≤ 130 := by rw [ha5, List.length_append]; omega
  have l6t : (a5 ++ Re.ending true).length ≤ 160 := by rw [List.length_append]; omega
  have l6f : (a5 ++ Re.ending false).length ≤ 160 := by rw [List.length_append]; omega
  have hh : ∀ c, Re.head 500 0 c = a5 ++ Re.ending c := fun c => by rw [ha5, ha4, ha3, ha2, ha1]; rfl
  rw [hh c, ← List.append_nil (a5 ++ Re.ending c)]
  clear hh
  have hnil : Bs h .nils [] := Bs.nil0
  by_cases hw : Re.words st = []
  · cases c
    · have m1 := hx.bq
      have k2 := hx.parts
      have m3 := hnil.bq
      have k4 := hnil.parts
      refine Wp.seq ?_
      refine Wp.region ?_
      refine Wo.pre 1 (by kernel_rfl) ?_
      refine Wo.nil ?_
      refine Wp.seq ?_
      refine Wp.seq ?_
      refine Wp.region ?_
      refine Wo.pre 1 (by kernel_rfl) ?_
      obtain ⟨r5, H6, c7, rfl, X9⟩ := wordsP_run (h) (st)
      have m10 := X9.1
      refine Wo.call (by kernel_rfl) (by kernel_rfl) c7 ?_
      clear c7
      refine Wo.cmpS (x := IX.t 10) (y := IX.c (AV.str [])) (a := Re.words st) (b := []) (by kernel_rfl) (by kernel_rfl) (by kernel_rfl) (by kernel_rfl) (fun q11 => ?_) (fun q11 => ?_)
      rotate_left
      · exact absurd hw (by with_reducible assumption)
      refine Wo.pre 3 (by kernel_rfl) ?_
      refine Wo.pre 1 (by kernel_rfl) ?_
      refine Wo.pre 1 (by kernel_rfl) ?_
      refine Wo.nil ?_
      refine Wp.cond true (by kernel_rfl) ?_
      refine Wp.region ?_
      refine Wo.pre 2 (by kernel_rfl) ?_
      refine Wo.nil ?_
      refine Wp.seq ?_
      refine Wp.region ?_
      refine Wo.pre 1 (by kernel_rfl) ?_
      refine Wo.nil ?_
      refine Wp.seq ?_
      refine Wp.seq ?_
      refine Wp.region ?_
      refine Wo.pre 1 (by kernel_rfl) ?_
      refine Wo.nil ?_
      refine Wp.cond false (by kernel_rfl) ?_
      refine Wp.skip ?_
      refine Wp.seq ?_
      refine Wp.region ?_
      refine Wo.pre 1 (by kernel_rfl) ?_
      have c12 := itoa500_run (H6)
      refine Wo.call (by kernel_rfl) (by kernel_rfl) c12 ?_
      clear c12
      refine Wo.val (.str a1) _ (by kernel_rfl) (by rw [ha1]; exact iop_addS (a := Re.ver) (b := Re.dec 500) (by kernel_rfl) (by kernel_rfl) (by omega)) ?_
      refine Wo.val (.str a2) _ (by kernel_rfl) (by rw [ha2]; exact iop_addS (a := a1) (b := [32]) (by kernel_rfl) (by kernel_rfl) (by simp; omega)) ?_
      refine Wo.pre 1 (by kernel_rfl) ?_
      obtain ⟨r13, H14, c15, rfl, X17⟩ := wordsP_run (H6) (500)
      have m18 := X17.1
      refine Wo.call (by kernel_rfl) (by kernel_rfl) c15 ?_
      clear c15
      refine Wo.val (.str a3) _ (by kernel_rfl) (by rw [ha3]; exact iop_addS (a := a2) (b := Re.words 500) (by kernel_rfl) (by kernel_rfl) (by omega)) ?_
      refine Wo.val (.str a4) _ (by kernel_rfl) (by rw [ha4]; exact iop_addS (a := a3) (b := Re.kind) (by kernel_rfl) (by kernel_rfl) (by omega)) ?_
      refine Wo.pre 2 (by kernel_rfl) ?_
      have c19 := itoa0_run (H14)
      refine Wo.call (by kernel_rfl) (by kernel_rfl) c19 ?_
      clear c19
      refine Wo.val (.str a5) _ (by kernel_rfl) (by rw [ha5]; exact iop_addS (a := a4) (b := Re.dec 0) (by kernel_rfl) (by kernel_rfl) (by omega)) ?_
      refine Wo.pre 1 (by kernel_rfl) ?_
      refine Wo.val (.str (a5 ++ Re.ending false)) _ (by kernel_rfl) (iop_addS (a := a5) (b := Re.ending false) (by kernel_rfl) (by kernel_rfl) (by omega)) ?_
      refine Wo.pre 1 (by kernel_rfl) ?_
      refine Wo.nil ?_
      refine Wp.seq ?_
      refine Wp.region ?_
      refine Wo.pre 1 (by kernel_rfl) ?_
      (refine Wo.cvSB (a5 ++ Re.ending false) rfl (by kernel_rfl) (by kernel_rfl) (by omega) (fun Hs Xs Os => ?_); have ns := Xs.1; have qs := Os.bq; have ps := Os.parts)
      refine Wo.pre 1 (by kernel_rfl) ?_
      have F20 := (hnil.fr ((X9.fr.trans0 X17.fr).trans0 Xs) (.inr id))
      obtain ⟨v21, H22, a23, q24, X25, q26⟩ := Ow.appF (lo := H14.n) Os F20 ns (by first | omega | (simp; omega) | (simp; done) | assumption)
      refine Wo.val _ _ (by kernel_rfl) (iop_appG (v := AV.sl { b := H14.n, g := 0, o := 0 } (a5 ++ Re.ending false).length (Cp.op 1)) (w := AV.nils) (by kernel_rfl) (by kernel_rfl) rfl a23) ?_
      have m27 := q24.bq
      have k28 := q24.parts
      have m29 := X25.1
      refine Wo.pre 1 (by kernel_rfl) ?_
      refine Wo.nil ?_
      refine Wp.ret ?_
      refine ⟨.inr rfl, (v21), (ret_one (res_tmp (by kernel_rfl) res_nil)), ?_⟩
      dsimp only
      exact ⟨((((X9.fr.trans0 X17.fr).trans0 Xs).transL X25).ext (by have d0 := qs.1.e; intro s hs; first | omega | (dsimp only at hs; omega) | (simp only [blk_nils, blk_sl] at hs ⊢; omega))), (q24.mono (by omega))⟩
    · have m1 := hx.bq
      have k2 := hx.parts
      have m3 := hnil.bq
      have k4 := hnil.parts
      refine Wp.seq ?_
      refine Wp.region ?_
      refine Wo.pre 1 (by kernel_rfl) ?_
      refine Wo.nil ?_
      refine Wp.seq ?_
      refine Wp.seq ?_
      refine Wp.region ?_
      refine Wo.pre 1 (by kernel_rfl) ?_
      obtain ⟨r5, H6, c7, rfl, X9⟩ := wordsP_run (h) (st)
      have m10 := X9.1
      refine Wo.call (by kernel_rfl) (by kernel_rfl) c7 ?_
      clear c7
      refine Wo.cmpS (x := IX.t 10) (y := IX.c (AV.str [])) (a := Re.words st) (b := []) (by kernel_rfl) (by kernel_rfl) (by kernel_rfl) (by kernel_rfl) (fun q11 => ?_) (fun q11 => ?_)
      rotate_left
      · exact absurd hw (by with_reducible assumption)
      refine Wo.pre 3 (by kernel_rfl) ?_
      refine Wo.pre 1 (by kernel_rfl) ?_
      refine Wo.pre 1 (by kernel_rfl) ?_
      refine Wo.nil ?_
      refine Wp.cond true (by kernel_rfl) ?_
      refine Wp.region ?_
      refine Wo.pre 2 (by kernel_rfl) ?_
      refine Wo.nil ?_
      refine Wp.seq ?_
      refine Wp.region ?_
      refine Wo.pre 1 (by kernel_rfl) ?_
      refine Wo.nil ?_
      refine Wp.seq ?_
      refine Wp.seq ?_
      refine Wp.region ?_
      refine Wo.pre 1 (by kernel_rfl) ?_
      refine Wo.nil ?_
      refine Wp.cond true (by kernel_rfl) ?_
      refine Wp.region ?_
      refine Wo.pre 1 (by kernel_rfl) ?_
      refine Wo.nil ?_
      refine Wp.seq ?_
      refine Wp.region ?_
      refine Wo.pre 1 (by kernel_rfl) ?_
      have c12 := itoa500_run (H6)
      refine Wo.call (by kernel_rfl) (by kernel_rfl) c12 ?_
      clear c12
      refine Wo.val (.str a1) _ (by kernel_rfl) (by rw [ha1]; exact iop_addS (a := Re.ver) (b := Re.dec 500) (by kernel_rfl) (by kernel_rfl) (by omega)) ?_
      refine Wo.val (.str a2) _ (by kernel_rfl) (by rw [ha2]; exact iop_addS (a := a1) (b := [32]) (by kernel_rfl) (by kernel_rfl) (by simp; omega)) ?_
      refine Wo.pre 1 (by kernel_rfl) ?_
      obtain ⟨r13, H14, c15, rfl, X17⟩ := wordsP_run (H6) (500)
      have m18 := X17.1
      refine Wo.call (by kernel_rfl) (by kernel_rfl) c15 ?_
      clear c15
      refine Wo.val (.str a3) _ (by kernel_rfl) (by rw [ha3]; exact iop_addS (a := a2) (b := Re.words 500) (by kernel_rfl) (by kernel_rfl) (by omega)) ?_
      refine Wo.val (.str a4) _ (by kernel_rfl) (by rw [ha4]; exact iop_addS (a := a3) (b := Re.kind) (by kernel_rfl) (by kernel_rfl) (by omega)) ?_
      refine Wo.pre 2 (by kernel_rfl) ?_
      have c19 := itoa0_run (H14)
      refine Wo.call (by kernel_rfl) (by kernel_rfl) c19 ?_
      clear c19
      refine Wo.val (.str a5) _ (by kernel_rfl) (by rw [ha5]; exact iop_addS (a := a4) (b := Re.dec 0) (by kernel_rfl) (by kernel_rfl) (by omega)) ?_
      refine Wo.pre 1 (by kernel_rfl) ?_
      refine Wo.val (.str (a5 ++ Re.ending true)) _ (by kernel_rfl) (iop_addS (a := a5) (b := Re.ending true) (by kernel_rfl) (by kernel_rfl) (by omega)) ?_
      refine Wo.pre 1 (by kernel_rfl) ?_
      refine Wo.nil ?_
      refine Wp.seq ?_
      refine Wp.region ?_
      refine Wo.pre 1 (by kernel_rfl) ?_
      (refine Wo.cvSB (a5 ++ Re.ending true) rfl (by kernel_rfl) (by kernel_rfl) (by omega) (fun Hs Xs Os => ?_); have ns := Xs.1; have qs := Os.bq; have ps := Os.parts)
      refine Wo.pre 1 (by kernel_rfl) ?_
      have F20 := (hnil.fr ((X9.fr.trans0 X17.fr).trans0 Xs) (.inr id))
      obtain ⟨v21, H22, a23, q24, X25, q26⟩ := Ow.appF (lo := H14.n) Os F20 ns (by first | omega | (simp; omega) | (simp; done) | assumption)
      refine Wo.val _ _ (by kernel_rfl) (iop_appG (v := AV.sl { b := H14.n, g := 0, o := 0 } (a5 ++ Re.ending true).length (Cp.op 1)) (w := AV.nils) (by kernel_rfl) (by kernel_rfl) rfl a23) ?_
      have m27 := q24.bq
      have k28 := q24.parts
      have m29 := X25.1
      refine Wo.pre 1 (by kernel_rfl) ?_
      refine Wo.nil ?_
      refine Wp.ret ?_
      refine ⟨.inr rfl, (v21), (ret_one (res_tmp (by kernel_rfl) res_nil)), ?_⟩
      dsimp only
      exact ⟨((((X9.fr.trans0 X17.fr).trans0 Xs).transL X25).ext (by have d0 := qs.1.e; intro s hs; first | omega | (dsimp only at hs; omega) | (simp only [blk_nils, blk_sl] at hs ⊢; omega))), (q24.mono (by omega))⟩
  · have hl : 1048576 < l.length := hno.resolve_left hw
    cases c
    · have m1 := hx.bq
      have k2 := hx.parts
      have m3 := hnil.bq
      have k4 := hnil.parts
      refine Wp.seq ?_
      refine Wp.region ?_
      refine Wo.pre 1 (by kernel_rfl) ?_
      refine Wo.nil ?_
      refine Wp.seq ?_
      refine Wp.seq ?_
      refine Wp.region ?_
      refine Wo.pre 1 (by kernel_rfl) ?_
      obtain ⟨r5, H6, c7, rfl, X9⟩ := wordsP_run (h) (st)
      have m10 := X9.1
      refine Wo.call (by kernel_rfl) (by kernel_rfl) c7 ?_
      clear c7
      refine Wo.cmpS (x := IX.t 10) (y := IX.c (AV.str [])) (a := Re.words st) (b := []) (by kernel_rfl) (by kernel_rfl) (by kernel_rfl) (by kernel_rfl) (fun q11 => ?_) (fun q11 => ?_)
      · exact absurd (by with_reducible assumption) hw
      refine Wo.pre 2 (by kernel_rfl) ?_
      have F12 := (hx.fr X9.fr (.inr id))
      refine Wo.val (.int .i64 (List.length (l) : Nat)) H6 (by kernel_rfl) (Bs.len F12 (by kernel_rfl)) ?_
      refine Wo.cmp (op := .gtr) (x := IX.t 14) (y := IX.c (AV.int IntKind.i64 1048576)) (k := IntKind.i64) (a := ↑l.length) (b := 1048576) ((↑l.length : Int) > (1048576 : Int)) (by kernel_rfl) (by kernel_rfl) (by kernel_rfl) (by kernel_rfl) (by simp) (by kernel_rfl) (fun q13 => ?_) (fun q13 => ?_)
      rotate_left
      · (exfalso; omega)
      have m14 := F12.bq
      have k15 := F12.parts
      refine Wo.pre 1 (by kernel_rfl) ?_
      refine Wo.nil ?_
      refine Wp.cond true (by kernel_rfl) ?_
      refine Wp.region ?_
      refine Wo.pre 2 (by kernel_rfl) ?_
      refine Wo.nil ?_
      refine Wp.seq ?_
      refine Wp.region ?_
      refine Wo.pre 1 (by kernel_rfl) ?_
      refine Wo.nil ?_
      refine Wp.seq ?_
      refine Wp.seq ?_
      refine Wp.region ?_
      refine Wo.pre 1 (by kernel_rfl) ?_
      refine Wo.nil ?_
      refine Wp.cond false (by kernel_rfl) ?_
      refine Wp.skip ?_
      refine Wp.seq ?_
      refine Wp.region ?_
      refine Wo.pre 1 (by kernel_rfl) ?_
      have c16 := itoa500_run (H6)
      refine Wo.call (by kernel_rfl) (by kernel_rfl) c16 ?_
      clear c16
      refine Wo.val (.str a1) _ (by kernel_rfl) (by rw [ha1]; exact iop_addS (a := Re.ver) (b := Re.dec 500) (by kernel_rfl) (by kernel_rfl) (by omega)) ?_
      refine Wo.val (.str a2) _ (by kernel_rfl) (by rw [ha2]; exact iop_addS (a := a1) (b := [32]) (by kernel_rfl) (by kernel_rfl) (by simp; omega)) ?_
      refine Wo.pre 1 (by kernel_rfl) ?_
      obtain ⟨r17, H18, c19, rfl, X21⟩ := wordsP_run (H6) (500)
      have m22 := X21.1
      refine Wo.call (by kernel_rfl) (by kernel_rfl) c19 ?_
      clear c19
      refine Wo.val (.str a3) _ (by kernel_rfl) (by rw [ha3]; exact iop_addS (a := a2) (b := Re.words 500) (by kernel_rfl) (by kernel_rfl) (by omega)) ?_
      refine Wo.val (.str a4) _ (by kernel_rfl) (by rw [ha4]; exact iop_addS (a := a3) (b := Re.kind) (by kernel_rfl) (by kernel_rfl) (by omega)) ?_
      refine Wo.pre 2 (by kernel_rfl) ?_
      have c23 := itoa0_run (H18)
      refine Wo.call (by kernel_rfl) (by kernel_rfl) c23 ?_
      clear c23
      refine Wo.val (.str a5) _ (by kernel_rfl) (by rw [ha5]; exact iop_addS (a := a4) (b := Re.dec 0) (by kernel_rfl) (by kernel_rfl) (by omega)) ?_
      refine Wo.pre 1 (by kernel_rfl) ?_
      refine Wo.val (.str (a5 ++ Re.ending false)) _ (by kernel_rfl) (iop_addS (a := a5) (b := Re.ending false) (by kernel_rfl) (by kernel_rfl) (by omega)) ?_
      refine Wo.pre 1 (by kernel_rfl) ?_
      refine Wo.nil ?_
      refine Wp.seq ?_
      refine Wp.region ?_
      refine Wo.pre 1 (by kernel_rfl) ?_
      (refine Wo.cvSB (a5 ++ Re.ending false) rfl (by kernel_rfl) (by kernel_rfl) (by omega) (fun Hs Xs Os => ?_); have ns := Xs.1; have qs := Os.bq; have ps := Os.parts)
      refine Wo.pre 1 (by kernel_rfl) ?_
      have F24 := (hnil.fr ((X9.fr.trans0 X21.fr).trans0 Xs) (.inr id))
      obtain ⟨v25, H26, a27, q28, X29, q30⟩ := Ow.appF (lo := H18.n) Os F24 ns (by first | omega | (simp; omega) | (simp; done) | assumption)
      refine Wo.val _ _ (by kernel_rfl) (iop_appG (v := AV.sl { b := H18.n, g := 0, o := 0 } (a5 ++ Re.ending false).length (Cp.op 1)) (w := AV.nils) (by kernel_rfl) (by kernel_rfl) rfl a27) ?_
      have m31 := q28.bq
      have k32 := q28.parts
      have m33 := X29.1
      refine Wo.pre 1 (by kernel_rfl) ?_
      refine Wo.nil ?_
      refine Wp.ret ?_
      refine ⟨.inr rfl, (v25), (ret_one (res_tmp (by kernel_rfl) res_nil)), ?_⟩
      dsimp only
      exact ⟨((((X9.fr.trans0 X21.fr).trans0 Xs).transL X29).ext (by have d0 := qs.1.e; intro s hs; first | omega | (dsimp only at hs; omega) | (simp only [blk_nils, blk_sl] at hs ⊢; omega))), (q28.mono (by omega))⟩
    · have m1 := hx.bq
      have k2 := hx.parts
      have m3 := hnil.bq
      have k4 := hnil.parts
      refine Wp.seq ?_
      refine Wp.region ?_
      refine Wo.pre 1 (by kernel_rfl) ?_
      refine Wo.nil ?_
      refine Wp.seq ?_
      refine Wp.seq ?_
      refine Wp.region ?_
      refine Wo.pre 1 (by kernel_rfl) ?_
      obtain ⟨r5, H6, c7, rfl, X9⟩ := wordsP_run (h) (st)
      have m10 := X9.1
      refine Wo.call (by kernel_rfl) (by kernel_rfl) c7 ?_
      clear c7
      refine Wo.cmpS (x := IX.t 10) (y := IX.c (AV.str [])) (a := Re.words st) (b := []) (by kernel_rfl) (by kernel_rfl) (by kernel_rfl) (by kernel_rfl) (fun q11 => ?_) (fun q11 => ?_)
      · exact absurd (by with_reducible assumption) hw
      refine Wo.pre 2 (by kernel_rfl) ?_
      have F12 := (hx.fr X9.fr (.inr id))
      refine Wo.val (.int .i64 (List.length (l) : Nat)) H6 (by kernel_rfl) (Bs.len F12 (by kernel_rfl)) ?_
      refine Wo.cmp (op := .gtr) (x := IX.t 14) (y := IX.c (AV.int IntKind.i64 1048576)) (k := IntKind.i64) (a := ↑l.length) (b := 1048576) ((↑l.length : Int) > (1048576 : Int)) (by kernel_rfl) (by kernel_rfl) (by kernel_rfl) (by kernel_rfl) (by simp) (by kernel_rfl) (fun q13 => ?_) (fun q13 => ?_)
      rotate_left
      · (exfalso; omega)
      have m14 := F12.bq
      have k15 := F12.parts
      refine Wo.pre 1 (by kernel_rfl) ?_
      refine Wo.nil ?_
      refine Wp.cond true (by kernel_rfl) ?_
      refine Wp.region ?_
      refine Wo.pre 2 (by kernel_rfl) ?_
      refine Wo.nil ?_
      refine Wp.seq ?_
      refine Wp.region ?_
      refine Wo.pre 1 (by kernel_rfl) ?_
      refine Wo.nil ?_
      refine Wp.seq ?_
      refine Wp.seq ?_
      refine Wp.region ?_
      refine Wo.pre 1 (by kernel_rfl) ?_
      refine Wo.nil ?_
      refine Wp.cond true (by kernel_rfl) ?_
      refine Wp.region ?_
      refine Wo.pre 1 (by kernel_rfl) ?_
      refine Wo.nil ?_
      refine Wp.seq ?_
      refine Wp.region ?_
      refine Wo.pre 1 (by kernel_rfl) ?_
      have c16 := itoa500_run (H6)
      refine Wo.call (by kernel_rfl) (by kernel_rfl) c16 ?_
      clear c16
      refine Wo.val (.str a1) _ (by kernel_rfl) (by rw [ha1]; exact iop_addS (a := Re.ver) (b := Re.dec 500) (by kernel_rfl) (by kernel_rfl) (by omega)) ?_
      refine Wo.val (.str a2) _ (by kernel_rfl) (by rw [ha2]; exact iop_addS (a := a1) (b := [32]) (by kernel_rfl) (by kernel_rfl) (by simp; omega)) ?_
      refine Wo.pre 1 (by kernel_rfl) ?_
      obtain ⟨r17, H18, c19, rfl, X21⟩ := wordsP_run (H6) (500)
      have m22 := X21.1
      refine Wo.call (by kernel_rfl) (by kernel_rfl) c19 ?_
      clear c19
      refine Wo.val (.str a3) _ (by kernel_rfl) (by rw [ha3]; exact iop_addS (a := a2) (b := Re.words 500) (by kernel_rfl) (by kernel_rfl) (by omega)) ?_
      refine Wo.val (.str a4) _ (by kernel_rfl) (by rw [ha4]; exact iop_addS (a := a3) (b := Re.kind) (by kernel_rfl) (by kernel_rfl) (by omega)) ?_
      refine Wo.pre 2 (by kernel_rfl) ?_
      have c23 := itoa0_run (H18)
      refine Wo.call (by kernel_rfl) (by kernel_rfl) c23 ?_
      clear c23
      refine Wo.val (.str a5) _ (by kernel_rfl) (by rw [ha5]; exact iop_addS (a := a4) (b := Re.dec 0) (by kernel_rfl) (by kernel_rfl) (by omega)) ?_
      refine Wo.pre 1 (by kernel_rfl) ?_
      refine Wo.val (.str (a5 ++ Re.ending true)) _ (by kernel_rfl) (iop_addS (a := a5) (b := Re.ending true) (by kernel_rfl) (by kernel_rfl) (by omega)) ?_
      refine Wo.pre 1 (by kernel_rfl) ?_
      refine Wo.nil ?_
      refine Wp.seq ?_
      refine Wp.region ?_
      refine Wo.pre 1 (by kernel_rfl) ?_
      (refine Wo.cvSB (a5 ++ Re.ending true) rfl (by kernel_rfl) (by kernel_rfl) (by omega) (fun Hs Xs Os => ?_); have ns := Xs.1; have qs := Os.bq; have ps := Os.parts)
      refine Wo.pre 1 (by kernel_rfl) ?_
      have F24 := (hnil.fr ((X9.fr.trans0 X21.fr).trans0 Xs) (.inr id))
      obtain ⟨v25, H26, a27, q28, X29, q30⟩ := Ow.appF (lo := H18.n) Os F24 ns (by first | omega | (simp; omega) | (simp; done) | assumption)
      refine Wo.val _ _ (by kernel_rfl) (iop_appG (v := AV.sl { b := H18.n, g := 0, o := 0 } (a5 ++ Re.ending true).length (Cp.op 1)) (w := AV.nils) (by kernel_rfl) (by kernel_rfl) rfl a27) ?_
      have m31 := q28.bq
      have k32 := q28.parts
      have m33 := X29.1
      refine Wo.pre 1 (by kernel_rfl) ?_
      refine Wo.nil ?_
      refine Wp.ret ?_
      refine ⟨.inr rfl, (v25), (ret_one (res_tmp (by kernel_rfl) res_nil)), ?_⟩
      dsimp only
      exact ⟨((((X9.fr.trans0 X21.fr).trans0 Xs).transL X29).ext (by have d0 := qs.1.e; intro s hs; first | omega | (dsimp only at hs; omega) | (simp only [blk_nils, blk_sl] at hs ⊢; omega))), (q28.mono (by omega))⟩
end Go.Det
