/- The law WireBack: what is laid down (the first loop). -/
import Derived.Test.YthahfhdibhgboaaThing
set_option linter.unusedVariables false
set_option linter.unusedSimpArgs false
set_option linter.unusedSectionVars false
namespace Go.Det
open Go.Proofs
attribute [local irreducible] Wp Wo Wd iop ev slots quiets wanted put

theorem J1.mono {h0 h h' : H} {al ke en : AV} {ks : List (Th × AV)} (hJ : J1 h0 h al ke en ks) (hE : Ext h h') : J1 h0 h' al ke en ks :=
  ⟨hJ.ext.trans hE, hJ.al.ext hE, hJ.ke.ext hE.1 (fun b g c _ h2 _ => hE.2 b h2), hJ.en.ext hE.1 (fun b g c _ h2 _ => hE.2 b h2), hJ.ok, hJ.len⟩

theorem slL_same {x y : IX} {ρ : IX → AV} {h h' : H} {u v : AV} {sz : Nat} (h1 : iop (.slL sz x none (some y) none) ρ h = some (.val u h)) (h2 : iop (.slL sz x none (some y) none) ρ h' = some (.val v h')) : u = v := by
  simp only [iop] at h1 h2
  cases hx : ρ x <;> simp only [hx] at h1 h2 <;> try (simp at h1; done)
  · split at h1 <;> simp_all
  · split at h1
    · split at h1 <;> simp_all
    · split at h1
      · split at h1 <;> simp_all
      · simp at h1
    · simp at h1

/-- The argument's things. -/
def EL (h0 : H) (ab : AA) (ths : List (Th × AV)) : Prop := ∀ (j : Nat) (p : Th × AV), ths[j]? = some p → h0.ldn ⟨ab.b, ab.g, ab.o + j * 4⟩ 4 = some (thC p) ∧ Bs h0 p.2 p.1.b ∧ Cok p.2 ∧ p.1.n < 2 ^ 64 ∧ p.1.b.length ≤ maxRow

def At5 (cu : Int) (al ke en xl : AV) (n i : Nat) (ts : List AV) : Prop := ts.length = 208 ∧ getL ts 1 = some (.int .u16 cu) ∧ getL ts 5 = some al ∧ getL ts 6 = some ke ∧ getL ts 7 = some en ∧ getL ts 26 = some xl ∧ getL ts 27 = some (.int .i64 n) ∧ getL ts 28 = some (.int .i64 i)

theorem min_300 (n : Nat) : (if (300 : Int) < (n : Int) then (300 : Int) else (n : Int)) = ((min n 300 : Nat) : Int) := by
  split <;> omega

set_option maxHeartbeats 8000000 in
theorem back_loop1 {h0 : H} {ab : AA} {cc : Cp} {ths : List (Th × AV)} {cu : Int} (hEL : EL h0 ab ths) (hab : ths ≠ [] → ab.b < h0.n) :
    ∀ (k i : Nat), i + k = ths.length → i ≤ 40 → ∀ (h : H) (al ke en xl : AV) (ks : List (Th × AV)) (ts : List AV), (ths ≠ [] → xl = .sl ab ths.length cc) → J1 h0 h al ke en ks → ks.length ≤ i → At5 cu al ke en xl ths.length i ts →
      ∀ (Q : Ex → St → Prop), (∀ ts' h' al ke en ks, J1 h0 h' al ke en ks → ks.length ≤ 40 → ts'.length = 208 → getL ts' 1 = some (.int .u16 cu) → getL ts' 5 = some al → getL ts' 6 = some ke → getL ts' 7 = some en → Q (.exit 0) (ts', h')) → Wp TF (.loop l5_2) (ts, h) Q := by
  intro k
  induction k with
  | zero =>
    intro i hi hi40 h al ke en xl ks ts hxl hJ hks hA Q hQ
    obtain ⟨t0, t1, t5, t6, t7, t26, t27, t28⟩ := hA
    obtain rfl : i = ths.length := by omega
    refine Wp.loop ?_
    rw [laid_eq t0 [(1, .int .u16 cu), (5, al), (6, ke), (7, en), (26, xl), (27, .int .i64 ths.length), (28, .int .i64 ths.length)] (by simp [t1, t5, t6, t7, t26, t27, t28])]
    unfold l5_2
    refine Wp.seq ?_
    refine Wp.region ?_
    refine Wo.pre 8 (by kernel_rfl) ?_
    refine Wo.nil ?_
    refine Wp.seq ?_
    refine Wp.cond (decide ((ths.length : Int) < (ths.length : Int))) (by kernel_rfl) ?_
    rw [if_neg (by simp)]
    exact Wp.exit (hQ _ _ al ke en ks hJ (by omega) (by kernel_rfl) (by kernel_rfl) (by kernel_rfl) (by kernel_rfl) (by kernel_rfl))
  | succ k ih =>
    intro i hi hi40 h al ke en xl ks ts hxl hJ hks hA Q hQ
    obtain ⟨t0, t1, t5, t6, t7, t26, t27, t28⟩ := hA
    have hlt : i < ths.length := by omega
    have hne : ths ≠ [] := by intro e; rw [e] at hlt; simp at hlt
    obtain rfl := hxl hne
    have hab := hab hne
    obtain ⟨⟨⟨vec, size, n, b⟩, x⟩, hx⟩ : ∃ x, ths[i]? = some x := ⟨ths[i], List.getElem?_eq_getElem hlt⟩
    obtain ⟨el1, el2, el3, el4, el5⟩ := hEL i _ hx
    have el2 : Bs h0 x b := el2
    have el4 : n < 2 ^ 64 := el4
    have el5 : b.length ≤ maxRow := el5
    have w1 : IntKind.i64.wrap ((i : Int) + 1) = ((i + 1 : Nat) : Int) := by rw [i64_fit _ (by omega)]; omega
    obtain ⟨C, hC⟩ : ∃ C : List AV, C = [.bool vec, .int .i64 size, .int .u64 n, x] := ⟨_, rfl⟩
    have el1 : h0.ldn ⟨ab.b, ab.g, ab.o + i * 4⟩ 4 = some C := by rw [hC]; exact el1
    have hn0 := hJ.ext.1
    obtain ⟨H1, hH1⟩ : ∃ H1, H1 = h.new (.cells 0 57 [.bool false, .int .i64 0, .int .u64 0, .nils] 0 false) := ⟨_, rfl⟩
    obtain ⟨H2, hH2⟩ : ∃ H2, H2 = H1.set h.n (.cells 0 57 C 0 false) := ⟨_, rfl⟩
    have g1 : H1.get h.n = some (.cells 0 57 [.bool false, .int .i64 0, .int .u64 0, .nils] 0 false) := by rw [hH1]; exact h.get_new _
    have g2 : H2.get h.n = some (.cells 0 57 C 0 false) := by rw [hH2, H1.get_set]
    have n2 : H2.n = h.n + 1 := by rw [hH2, hH1]; rfl
    have X2 : Ext h H2 := ⟨by omega, fun b hb => by rw [hH2, H1.get_set_ne _ b _ (by omega), hH1]; exact h.get_new_ne b _ (by omega)⟩
    have hx1 : x.one = true := el2.parts.2.1
    have one4 : ∀ y : AV, y.one = true → ([.bool vec, .int .i64 size, .int .u64 n, y] : List AV).all AV.one = true := fun y hy => by
      have o3 : ∀ k i, (AV.int k i).one = true := fun _ _ => rfl
      have o4 : ∀ b, (AV.bool b).one = true := fun _ => rfl
      simp [hy, o3, o4]
    have hC4 : C.length = 4 := by rw [hC]; rfl
    have st2 : H1.st ⟨h.n, 0, 0⟩ C = some H2 := by
      unfold H.st
      simp only [g1]
      rw [if_pos (by rw [hC4, hC]; have := one4 x hx1; simp [-List.all_eq_true, this]), hH2]
      rw [hC]
      rfl
    have enew : ∀ ts, iop (.new 57 (.c (.agg [.bool false, .int .i64 0, .int .u64 0, .nils]))) (ev ts) h = some (.val (.ptr ⟨h.n, 0, 0⟩) H1) := fun ts => by rw [hH1]; exact iop_new (by kernel_rfl) rfl
    have hE0 : h.ldn ⟨ab.b, ab.g, ab.o + i * 4⟩ 4 = some C := by
      have ek : h.get (AA.b ⟨ab.b, ab.g, ab.o + i * 4⟩) = h0.get (AA.b ⟨ab.b, ab.g, ab.o + i * 4⟩) := hJ.ext.2 ab.b hab
      rw [ldn_same ek]; exact el1
    have hact2 : h.ldg ⟨ab.b, ab.g, ab.o + i * 4⟩ (some 4) = some (.agg C) := by simp [H.ldg, hE0]
    -- the bytes, cut
    have hB2 : Bs H2 x b := (el2.ext hJ.ext).ext X2
    obtain ⟨y, s1, s2, s3⟩ := hB2.take el3 (n := min b.length 300) (by omega)
    obtain ⟨b', hb'⟩ : ∃ b', b' = b.take (min b.length 300) := ⟨_, rfl⟩
    rw [← hb'] at s2
    have hbl : b'.length ≤ 300 := by rw [hb', List.length_take]; omega
    have hy1 := s2.parts
    have s1' : ∀ (p q : IX) (ρ : IX → AV), ρ p = x → ρ q = .int .i64 (if (300 : Int) < (b.length : Int) then 300 else (b.length : Int)) → iop (.slL 1 p none (some q) none) ρ H2 = some (.val y H2) := fun p q ρ h1 h2 => s1 p q ρ h1 (by rw [h2, min_300])
    -- y reads so in the argument's memory
    have hy0 : Bs h0 y b' := by
      obtain ⟨y', s1'', s2'', _⟩ := el2.take el3 (n := min b.length 300) (by omega)
      rw [← hb'] at s2''
      have := s1'' (.c x) (.c (.int .i64 (min b.length 300 : Nat))) (ev []) (by kernel_rfl) (by kernel_rfl)
      have h2 := s1 (.c x) (.c (.int .i64 (min b.length 300 : Nat))) (ev []) (by kernel_rfl) (by kernel_rfl)
      have e : y' = y := slL_same this h2
      rw [← e]; exact s2''
    obtain ⟨D, hD⟩ : ∃ D : List AV, D = [.bool vec, .int .i64 size, .int .u64 n, y] := ⟨_, rfl⟩
    obtain ⟨H3, hH3⟩ : ∃ H3, H3 = H2.set h.n (.cells 0 57 D 0 false) := ⟨_, rfl⟩
    have g3 : H3.get h.n = some (.cells 0 57 D 0 false) := by rw [hH3, H2.get_set]
    have n3 : H3.n = h.n + 1 := by rw [hH3]; exact n2
    have X3 : Ext h H3 := ⟨by omega, fun b hb => by rw [hH3, H2.get_set_ne _ b _ (by omega)]; exact X2.2 b hb⟩
    have st3 : H2.st ⟨h.n, 0, 3⟩ [y] = some H3 := by
      unfold H.st
      simp only [g2]
      rw [if_pos (by rw [hC4]; simp [hy1.2.1]), hH3, hD, hC]
      rfl
    have LdB : H2.ldg ⟨h.n, 0, 3⟩ none = some x := by simp [H.ldg, H.ld, H.row, g2, hC, getL]
    have Ld : ∀ (q : H), q.get h.n = some (.cells 0 57 D 0 false) → q.ldg ⟨h.n, 0, 0⟩ none = some (.bool vec) ∧ q.ldg ⟨h.n, 0, 2⟩ none = some (.int .u64 n) ∧ q.ldg ⟨h.n, 0, 3⟩ none = some y ∧ q.ldg ⟨h.n, 0, 0⟩ (some 4) = some (.agg D) := fun q hq => by
      rw [hD] at hq ⊢
      simp [H.ldg, H.ld, H.ldn, H.row, hq, getL, cut]
    have hJ2 := hJ.mono X2
    have hJ3 := hJ.mono X3
    have hla : (encs ks).length ≤ 12440 := by have := hJ.len; omega
    have hmax : 200000000000000 = maxRow := rfl
    obtain ⟨t, ht⟩ : ∃ t : Th, t = ⟨vec, size, n, b'⟩ := ⟨_, rfl⟩
    have hsz : t.sz = szOf vec size := by rw [ht]; rfl
    obtain ⟨H4, cS, X4⟩ := size_run (h := H3) hy1.2.1 vec size n
    rw [← hD, ← hsz] at cS
    have g4 : H4.get h.n = some (.cells 0 57 D 0 false) := by rw [X4.2 _ (by omega)]; exact g3
    have n4 := X4.1
    have hJ4 := hJ3.mono X4
    refine Wp.loop ?_
    rw [laid_eq t0 [(1, .int .u16 cu), (5, al), (6, ke), (7, en), (26, .sl ab ths.length cc), (27, .int .i64 ths.length), (28, .int .i64 i)] (by simp [t1, t5, t6, t7, t26, t27, t28])]
    unfold l5_2
    refine Wp.seq ?_
    refine Wp.region ?_
    refine Wo.pre 8 (by kernel_rfl) ?_
    refine Wo.nil ?_
    refine Wp.seq ?_
    refine Wp.cond (decide ((i : Int) < (ths.length : Int))) (by kernel_rfl) ?_
    rw [if_pos (by simp; omega)]
    refine Wp.skip ?_
    refine Wp.seq ?_
    refine Wp.block ?_
    refine Wp.seq ?_
    refine Wp.region ?_
    refine Wo.pre 1 (by kernel_rfl) ?_
    refine Wo.val _ h (by kernel_rfl) (iop_ia (a := ab) (n := ths.length) (c := cc) (i := i) (by kernel_rfl) (by kernel_rfl) hlt) ?_
    refine Wo.val (.agg C) h (by kernel_rfl) (iop_ld (a := ⟨ab.b, ab.g, ab.o + i * 4⟩) (by kernel_rfl) hact2) ?_
    refine Wo.val _ _ (by kernel_rfl) (enew _) ?_
    refine Wo.pre 1 (by kernel_rfl) ?_
    refine Wo.val .undef H2 (by kernel_rfl) (iop_stA (a := ⟨h.n, 0, 0⟩) (by kernel_rfl) (by kernel_rfl) hC4 st2) ?_
    refine Wo.nil ?_
    refine Wp.seq ?_
    refine Wp.seq ?_
    refine Wp.region ?_
    refine Wo.pre 8 (by kernel_rfl) ?_
    refine Wo.nil ?_
    refine Wp.cond ((i : Int) == 40) (by kernel_rfl) ?_
    by_cases h40 : i = 40
    · rw [if_pos (by simp; omega)]
      exact Wp.exit (hQ _ _ al ke en ks hJ2 (by omega) (by kernel_rfl) (by kernel_rfl) (by kernel_rfl) (by kernel_rfl) (by kernel_rfl))
    rw [if_neg (by simp; omega)]
    refine Wp.skip ?_
    refine Wp.seq ?_
    refine Wp.region ?_
    refine Wo.pre 1 (by kernel_rfl) ?_
    refine Wo.val x H2 (by kernel_rfl) (iop_ld (a := ⟨h.n, 0, 3⟩) (by kernel_rfl) LdB) ?_
    refine Wo.pre 1 (by kernel_rfl) ?_
    refine Wo.val x H2 (by kernel_rfl) (iop_ld (a := ⟨h.n, 0, 3⟩) (by kernel_rfl) LdB) ?_
    refine Wo.val (.int .i64 b.length) H2 (by kernel_rfl) ((hB2.len (by kernel_rfl))) ?_
    refine Wo.pre 1 (by kernel_rfl) ?_
    refine Wo.val y H2 (by kernel_rfl) (s1' _ _ _ (by kernel_rfl) (by kernel_rfl)) ?_
    refine Wo.pre 1 (by kernel_rfl) ?_
    refine Wo.val .undef H3 (by kernel_rfl) (iop_st1 (a := ⟨h.n, 0, 3⟩) (v := y) (by kernel_rfl) (by kernel_rfl) hy1.1 st3) ?_
    refine Wo.nil ?_
    refine Wp.seq ?_
    refine Wp.region ?_
    refine Wo.pre 8 (by kernel_rfl) ?_
    refine Wo.nil ?_
    refine Wp.seq ?_
    refine Wp.region ?_
    refine Wo.pre 8 (by kernel_rfl) ?_
    refine Wo.nil ?_
    refine Wp.seq ?_
    refine Wp.seq ?_
    refine Wp.region ?_
    refine Wo.pre 1 (by kernel_rfl) ?_
    refine Wo.val (.bool vec) H3 (by kernel_rfl) (iop_ld (a := ⟨h.n, 0, 0⟩) (by kernel_rfl) (Ld H3 g3).1) ?_
    refine Wo.nil ?_
    -- what is kept when it fits
    have keep : ∀ (H5 : H) (z : AV), Ext H4 H5 → Ow H4.n H5 z (encs ks ++ t.enc) → t.encE = 0 → ∃ H6 ke' H7 H8 en' H9, H6 = H5.new (.cells 0 57 D 0 false) ∧ append H6 57 4 48 ke (.sl ⟨H5.n, 0, 0⟩ 1 (.ex 1)) = some (.val ke' H7) ∧ Bs H7 z (encs ks ++ t.enc) ∧ H8 = H7.new (.cells 0 3 [.int .i64 (encs ks ++ t.enc).length] 0 false) ∧ append H8 3 1 8 en (.sl ⟨H7.n, 0, 0⟩ 1 (.ex 1)) = some (.val en' H9) ∧ J1 h0 H9 z ke' en' (ks ++ [(t, y)]) ∧ H5.get h.n = some (.cells 0 57 D 0 false) := by
      intro H5 z X5 oz he
      have hJ5 := hJ4.mono X5
      have n5 := X5.1
      have hel : t.enc.length ≤ 311 := by
        have h8 := (szOf_ok vec size).1
        rw [enc_len, hsz, ht]
        show (if vec = true then szOf vec size + b'.length else szOf vec size) ≤ 311
        split <;> omega
      have fit1 : fits (ks.length + 1) 48 = true := by
        simp only [fits, Bool.and_eq_true, decide_eq_true_eq]; omega
      have fit2 : fits (ks.length + 1) 8 = true := by
        simp only [fits, Bool.and_eq_true, decide_eq_true_eq]; omega
      have hD1 : D.all AV.one = true := by rw [hD]; exact one4 y hy1.2.1
      obtain ⟨ke', H7, e7, ok7, n7, k7⟩ := hJ5.ke.app hJ5.ext.1 (new := D) (by rw [hD]; rfl) hD1 fit1 (by omega) _ rfl
      have oz7 : Ow h0.n H7 z (encs ks ++ t.enc) := (oz.mono (by omega)).keep n7 (fun b g c h1 h2 h3 => k7 b h2 (.inr (fun g c e => by rw [h3] at e; simp at e)))
      have en7 : OwC 3 1 h0.n H7 en (ecells ks) ks.length := hJ5.en.ext n7 (fun b g c h1 h2 h3 => k7 b h2 (.inr (fun g c e => by rw [h3] at e; simp at e)))
      have X7 : Ext h0 H7 := ⟨by have := hJ5.ext.1; omega, fun b hb => by rw [k7 b (by have := hJ5.ext.1; omega) (.inl hb)]; exact hJ5.ext.2 b hb⟩
      obtain ⟨en', H9, e9, ok9, n9, k9⟩ := en7.app X7.1 (new := [.int .i64 (encs ks ++ t.enc).length]) rfl rfl fit2 (by omega) _ rfl
      refine ⟨_, ke', H7, _, en', H9, rfl, e7, oz7.bs, rfl, e9, ⟨?_, ?_, ?_, ?_, ?_, ?_⟩, by rw [X5.2 _ (by omega)]; exact g4⟩
      · exact ⟨by have := X7.1; omega, fun b hb => by rw [k9 b (by have := X7.1; omega) (.inl hb)]; exact X7.2 b hb⟩
      · rw [encs_snoc]
        exact oz7.keep n9 (fun b g c h1 h2 h3 => k9 b h2 (.inr (fun g c e => by rw [h3] at e; simp at e)))
      · rw [kcells_snoc, List.length_append]
        have : thC (t, y) = D := by rw [hD, ht]; rfl
        rw [this]
        exact ok7.ext n9 (fun b g c h1 h2 h3 => k9 b h2 (.inr (fun g c e => by rw [h3] at e; simp at e)))
      · rw [ecells_snoc, List.length_append, encs_snoc]
        exact ok9
      · intro p hp
        rcases List.mem_append.1 hp with hp | hp
        · exact hJ.ok p hp
        · simp only [List.mem_cons, List.not_mem_nil, or_false] at hp
          subst hp
          rw [ht] at he ⊢
          exact ⟨hy0, hbl, el4, he⟩
      · rw [encs_snoc, List.length_append, List.length_append]
        have := hJ.len
        simp only [List.length_cons, List.length_nil]
        omega
    have bslD : ∀ (q : H) {p : IX} {ρ : IX → AV}, ρ p = .agg D → iop (.bsl 57 [.bool false, .int .i64 0, .int .u64 0, .nils] 1 [(0, 4, p)]) ρ q = some (.val (.sl ⟨q.n, 0, 0⟩ 1 (.ex 1)) (q.new (.cells 0 57 D 0 false))) := by
      intro q p ρ hp
      have := one4 y hy1.2.1
      rw [← hD] at this
      have e : (AV.agg D).cells = D := rfl
      have e4 : D.length = 4 := by rw [hD]; rfl
      have epa : putAt [AV.bool false, .int .i64 0, .int .u64 0, .nils] 0 D = D := by rw [hD]; rfl
      simp [-List.all_eq_true, iop, fillL, hp, e, e4, epa, this]
    have bslE : ∀ (q : H) {p : IX} {m : Nat} {ρ : IX → AV}, ρ p = .int .i64 m → iop (.bsl 3 [.int .i64 0] 1 [(0, 1, p)]) ρ q = some (.val (.sl ⟨q.n, 0, 0⟩ 1 (.ex 1)) (q.new (.cells 0 3 [.int .i64 m] 0 false))) := by
      intro q p m ρ hp
      have e : (AV.int .i64 (m : Int)).cells = [.int .i64 m] := rfl
      have o : (AV.int .i64 (m : Int)).one = true := rfl
      simp [iop, fillL, hp, e, putAt, o]
    cases vec with
    | true =>
      have s2v : Bs H4 y b' := (hy0.ext hJ3.ext).ext X4
      have hsz3 : (t.sz : Int) ≤ 3 ∧ 1 ≤ (t.sz : Int) := by have := (szOf_ok true size).2 rfl; have := (szOf_ok true size).1; rw [hsz]; omega
      have hEE : vecE b'.length t.sz = t.encE := by
        rw [vecE_num (by omega), ht]
        rfl
      obtain ⟨r, H5, cV, z, rfl, X5, oz⟩ := wvec_any hJ4.al.bs s2v (t.sz : Int) (by omega) (by omega)
      rw [hEE] at cV oz
      by_cases he : t.encE = 0
      · have hen : t.enc = digits b'.length t.sz t.sz ++ b' := by rw [ht]; rfl
        rw [if_pos he, Int.toNat_natCast, List.append_assoc, ← hen] at oz
        have he0 := he
        rw [he0] at cV
        obtain ⟨H6, ke', H7, H8, en', H9, hH6, e7, bz7, hH8, e9, hJ9, g5⟩ := keep H5 z X5 oz he
        refine Wp.cond true (by kernel_rfl) ?_
        refine Wp.draw ?_
        refine Wd.pure (by kernel_rfl) (by kernel_rfl) ?_
        refine Wd.pure (by kernel_rfl) (by kernel_rfl) ?_
        refine Wd.read (y) (.ld none (.c (.ptr ⟨h.n, 0, 3⟩))) (by kernel_rfl) (by kernel_rfl) (iop_ld (a := ⟨h.n, 0, 3⟩) (by kernel_rfl) (Ld H3 g3).2.2.1) ?_
        refine Wd.read (.agg D) (.ld (some 4) (.c (.ptr ⟨h.n, 0, 0⟩))) (by kernel_rfl) (by kernel_rfl) (iop_ld (a := ⟨h.n, 0, 0⟩) (by kernel_rfl) (Ld H3 g3).2.2.2) ?_
        refine Wd.call (by kernel_rfl) (by kernel_rfl) cS (holds_of [(.ld (some 4) (.c (.ptr ⟨h.n, 0, 0⟩)), .agg D, 3), (.ld none (.c (.ptr ⟨h.n, 0, 3⟩)), y, 2)] (by kernel_rfl) (holds_and (rd_ld (Ld H3 g3).2.2.2) (holds_and (rd_ld (Ld H3 g3).2.2.1) rfl))) ?_
        refine Wd.call (by kernel_rfl) (by kernel_rfl) cV (holds_of [(.ld none (.c (.ptr ⟨h.n, 0, 3⟩)), y, 2)] (by kernel_rfl) (holds_and (rd_ld (Ld H4 g4).2.2.1) rfl)) ?_
        refine Wd.pure (by kernel_rfl) (by kernel_rfl) ?_
        refine Wd.pure (by kernel_rfl) (by kernel_rfl) ?_
        refine Wd.pure (by kernel_rfl) (by kernel_rfl) ?_
        refine Wd.pure (by kernel_rfl) (by kernel_rfl) ?_
        refine Wd.pure (by kernel_rfl) (by kernel_rfl) ?_
        refine Wd.done (holds_of [] (by kernel_rfl) rfl) ?_
        refine Wp.seq ?_
        refine Wp.region ?_
        refine Wo.pre 8 (by kernel_rfl) ?_
        refine Wo.nil ?_
        refine Wp.cond true (by kernel_rfl) ?_
        refine Wp.region ?_
        refine Wo.pre 1 (by kernel_rfl) ?_
        refine Wo.pre 1 (by kernel_rfl) ?_
        refine Wo.val (.agg D) H5 (by kernel_rfl) (iop_ld (a := ⟨h.n, 0, 0⟩) (by kernel_rfl) (Ld H5 g5).2.2.2) ?_
        refine Wo.val _ H6 (by kernel_rfl) (by rw [hH6]; exact bslD H5 (by kernel_rfl)) ?_
        refine Wo.val ke' H7 (by kernel_rfl) (iop_appG (v := ke) (w := .sl ⟨H5.n, 0, 0⟩ 1 (.ex 1)) (by kernel_rfl) (by kernel_rfl) rfl e7) ?_
        refine Wo.pre 1 (by kernel_rfl) ?_
        refine Wo.pre 1 (by kernel_rfl) ?_
        refine Wo.val (.int .i64 (encs ks ++ t.enc).length) H7 (by kernel_rfl) ((bz7.len (by kernel_rfl))) ?_
        refine Wo.val _ H8 (by kernel_rfl) (by rw [hH8]; exact bslE H7 (by kernel_rfl)) ?_
        refine Wo.val en' H9 (by kernel_rfl) (iop_appG (v := en) (w := .sl ⟨H7.n, 0, 0⟩ 1 (.ex 1)) (by kernel_rfl) (by kernel_rfl) rfl e9) ?_
        refine Wo.pre 8 (by kernel_rfl) ?_
        refine Wo.nil ?_
        refine Wp.region ?_
        refine Wo.pre 8 (by kernel_rfl) ?_
        refine Wo.nil ?_
        exact ih (i + 1) (by omega) (by omega) H9 z ke' en' _ (ks ++ [(t, y)]) _ (fun _ => rfl) hJ9 (by rw [List.length_append]; simp; omega) ⟨(by kernel_rfl), (by kernel_rfl), (by kernel_rfl), (by kernel_rfl), (by kernel_rfl), (by kernel_rfl), (by kernel_rfl), by rw [← w1]; kernel_rfl⟩ Q hQ
      · have he0 : t.encE = 3 := t.encE_03.resolve_left he
        rw [he0] at cV
        refine Wp.cond true (by kernel_rfl) ?_
        refine Wp.draw ?_
        refine Wd.pure (by kernel_rfl) (by kernel_rfl) ?_
        refine Wd.pure (by kernel_rfl) (by kernel_rfl) ?_
        refine Wd.read (y) (.ld none (.c (.ptr ⟨h.n, 0, 3⟩))) (by kernel_rfl) (by kernel_rfl) (iop_ld (a := ⟨h.n, 0, 3⟩) (by kernel_rfl) (Ld H3 g3).2.2.1) ?_
        refine Wd.read (.agg D) (.ld (some 4) (.c (.ptr ⟨h.n, 0, 0⟩))) (by kernel_rfl) (by kernel_rfl) (iop_ld (a := ⟨h.n, 0, 0⟩) (by kernel_rfl) (Ld H3 g3).2.2.2) ?_
        refine Wd.call (by kernel_rfl) (by kernel_rfl) cS (holds_of [(.ld (some 4) (.c (.ptr ⟨h.n, 0, 0⟩)), .agg D, 3), (.ld none (.c (.ptr ⟨h.n, 0, 3⟩)), y, 2)] (by kernel_rfl) (holds_and (rd_ld (Ld H3 g3).2.2.2) (holds_and (rd_ld (Ld H3 g3).2.2.1) rfl))) ?_
        refine Wd.call (by kernel_rfl) (by kernel_rfl) cV (holds_of [(.ld none (.c (.ptr ⟨h.n, 0, 3⟩)), y, 2)] (by kernel_rfl) (holds_and (rd_ld (Ld H4 g4).2.2.1) rfl)) ?_
        refine Wd.pure (by kernel_rfl) (by kernel_rfl) ?_
        refine Wd.pure (by kernel_rfl) (by kernel_rfl) ?_
        refine Wd.pure (by kernel_rfl) (by kernel_rfl) ?_
        refine Wd.pure (by kernel_rfl) (by kernel_rfl) ?_
        refine Wd.pure (by kernel_rfl) (by kernel_rfl) ?_
        refine Wd.done (holds_of [] (by kernel_rfl) rfl) ?_
        refine Wp.seq ?_
        refine Wp.region ?_
        refine Wo.pre 8 (by kernel_rfl) ?_
        refine Wo.nil ?_
        refine Wp.cond false (by kernel_rfl) ?_
        refine Wp.seq ?_
        refine Wp.region ?_
        refine Wo.pre 8 (by kernel_rfl) ?_
        refine Wo.nil ?_
        refine Wp.cond false (by kernel_rfl) ?_
        refine Wp.skip ?_
        refine Wp.region ?_
        refine Wo.pre 8 (by kernel_rfl) ?_
        refine Wo.nil ?_
        exact ih (i + 1) (by omega) (by omega) H5 al ke en _ ks _ (fun _ => rfl) (hJ4.mono X5) (by omega) ⟨(by kernel_rfl), (by kernel_rfl), (by kernel_rfl), (by kernel_rfl), (by kernel_rfl), (by kernel_rfl), (by kernel_rfl), by rw [← w1]; kernel_rfl⟩ Q hQ
    | false =>
      have hEE : numE n t.sz = t.encE := by rw [ht]; rfl
      obtain ⟨r, H5, cV, z, rfl, X5, oz⟩ := num_run hJ4.al.bs (by omega) el4 (t.sz : Int)
      rw [hEE] at cV oz
      by_cases he : t.encE = 0
      · have hen : t.enc = digits n t.sz t.sz := by rw [ht]; rfl
        rw [if_pos he, Int.toNat_natCast, ← hen] at oz
        have he0 := he
        rw [he0] at cV
        obtain ⟨H6, ke', H7, H8, en', H9, hH6, e7, bz7, hH8, e9, hJ9, g5⟩ := keep H5 z X5 oz he
        refine Wp.cond false (by kernel_rfl) ?_
        refine Wp.draw ?_
        refine Wd.pure (by kernel_rfl) (by kernel_rfl) ?_
        refine Wd.pure (by kernel_rfl) (by kernel_rfl) ?_
        refine Wd.read (.int .u64 n) (.ld none (.c (.ptr ⟨h.n, 0, 2⟩))) (by kernel_rfl) (by kernel_rfl) (iop_ld (a := ⟨h.n, 0, 2⟩) (by kernel_rfl) (Ld H3 g3).2.1) ?_
        refine Wd.read (.agg D) (.ld (some 4) (.c (.ptr ⟨h.n, 0, 0⟩))) (by kernel_rfl) (by kernel_rfl) (iop_ld (a := ⟨h.n, 0, 0⟩) (by kernel_rfl) (Ld H3 g3).2.2.2) ?_
        refine Wd.call (by kernel_rfl) (by kernel_rfl) cS (holds_of [(.ld (some 4) (.c (.ptr ⟨h.n, 0, 0⟩)), .agg D, 3), (.ld none (.c (.ptr ⟨h.n, 0, 2⟩)), .int .u64 n, 2)] (by kernel_rfl) (holds_and (rd_ld (Ld H3 g3).2.2.2) (holds_and (rd_ld (Ld H3 g3).2.1) rfl))) ?_
        refine Wd.call (by kernel_rfl) (by kernel_rfl) cV (holds_of [(.ld none (.c (.ptr ⟨h.n, 0, 2⟩)), .int .u64 n, 2)] (by kernel_rfl) (holds_and (rd_ld (Ld H4 g4).2.1) rfl)) ?_
        refine Wd.pure (by kernel_rfl) (by kernel_rfl) ?_
        refine Wd.pure (by kernel_rfl) (by kernel_rfl) ?_
        refine Wd.pure (by kernel_rfl) (by kernel_rfl) ?_
        refine Wd.pure (by kernel_rfl) (by kernel_rfl) ?_
        refine Wd.pure (by kernel_rfl) (by kernel_rfl) ?_
        refine Wd.done (holds_of [] (by kernel_rfl) rfl) ?_
        refine Wp.seq ?_
        refine Wp.region ?_
        refine Wo.pre 8 (by kernel_rfl) ?_
        refine Wo.nil ?_
        refine Wp.cond true (by kernel_rfl) ?_
        refine Wp.region ?_
        refine Wo.pre 1 (by kernel_rfl) ?_
        refine Wo.pre 1 (by kernel_rfl) ?_
        refine Wo.val (.agg D) H5 (by kernel_rfl) (iop_ld (a := ⟨h.n, 0, 0⟩) (by kernel_rfl) (Ld H5 g5).2.2.2) ?_
        refine Wo.val _ H6 (by kernel_rfl) (by rw [hH6]; exact bslD H5 (by kernel_rfl)) ?_
        refine Wo.val ke' H7 (by kernel_rfl) (iop_appG (v := ke) (w := .sl ⟨H5.n, 0, 0⟩ 1 (.ex 1)) (by kernel_rfl) (by kernel_rfl) rfl e7) ?_
        refine Wo.pre 1 (by kernel_rfl) ?_
        refine Wo.pre 1 (by kernel_rfl) ?_
        refine Wo.val (.int .i64 (encs ks ++ t.enc).length) H7 (by kernel_rfl) ((bz7.len (by kernel_rfl))) ?_
        refine Wo.val _ H8 (by kernel_rfl) (by rw [hH8]; exact bslE H7 (by kernel_rfl)) ?_
        refine Wo.val en' H9 (by kernel_rfl) (iop_appG (v := en) (w := .sl ⟨H7.n, 0, 0⟩ 1 (.ex 1)) (by kernel_rfl) (by kernel_rfl) rfl e9) ?_
        refine Wo.pre 8 (by kernel_rfl) ?_
        refine Wo.nil ?_
        refine Wp.region ?_
        refine Wo.pre 8 (by kernel_rfl) ?_
        refine Wo.nil ?_
        exact ih (i + 1) (by omega) (by omega) H9 z ke' en' _ (ks ++ [(t, y)]) _ (fun _ => rfl) hJ9 (by rw [List.length_append]; simp; omega) ⟨(by kernel_rfl), (by kernel_rfl), (by kernel_rfl), (by kernel_rfl), (by kernel_rfl), (by kernel_rfl), (by kernel_rfl), by rw [← w1]; kernel_rfl⟩ Q hQ
      · have he0 : t.encE = 3 := t.encE_03.resolve_left he
        rw [he0] at cV
        refine Wp.cond false (by kernel_rfl) ?_
        refine Wp.draw ?_
        refine Wd.pure (by kernel_rfl) (by kernel_rfl) ?_
        refine Wd.pure (by kernel_rfl) (by kernel_rfl) ?_
        refine Wd.read (.int .u64 n) (.ld none (.c (.ptr ⟨h.n, 0, 2⟩))) (by kernel_rfl) (by kernel_rfl) (iop_ld (a := ⟨h.n, 0, 2⟩) (by kernel_rfl) (Ld H3 g3).2.1) ?_
        refine Wd.read (.agg D) (.ld (some 4) (.c (.ptr ⟨h.n, 0, 0⟩))) (by kernel_rfl) (by kernel_rfl) (iop_ld (a := ⟨h.n, 0, 0⟩) (by kernel_rfl) (Ld H3 g3).2.2.2) ?_
        refine Wd.call (by kernel_rfl) (by kernel_rfl) cS (holds_of [(.ld (some 4) (.c (.ptr ⟨h.n, 0, 0⟩)), .agg D, 3), (.ld none (.c (.ptr ⟨h.n, 0, 2⟩)), .int .u64 n, 2)] (by kernel_rfl) (holds_and (rd_ld (Ld H3 g3).2.2.2) (holds_and (rd_ld (Ld H3 g3).2.1) rfl))) ?_
        refine Wd.call (by kernel_rfl) (by kernel_rfl) cV (holds_of [(.ld none (.c (.ptr ⟨h.n, 0, 2⟩)), .int .u64 n, 2)] (by kernel_rfl) (holds_and (rd_ld (Ld H4 g4).2.1) rfl)) ?_
        refine Wd.pure (by kernel_rfl) (by kernel_rfl) ?_
        refine Wd.pure (by kernel_rfl) (by kernel_rfl) ?_
        refine Wd.pure (by kernel_rfl) (by kernel_rfl) ?_
        refine Wd.pure (by kernel_rfl) (by kernel_rfl) ?_
        refine Wd.pure (by kernel_rfl) (by kernel_rfl) ?_
        refine Wd.done (holds_of [] (by kernel_rfl) rfl) ?_
        refine Wp.seq ?_
        refine Wp.region ?_
        refine Wo.pre 8 (by kernel_rfl) ?_
        refine Wo.nil ?_
        refine Wp.cond false (by kernel_rfl) ?_
        refine Wp.seq ?_
        refine Wp.region ?_
        refine Wo.pre 8 (by kernel_rfl) ?_
        refine Wo.nil ?_
        refine Wp.cond false (by kernel_rfl) ?_
        refine Wp.skip ?_
        refine Wp.region ?_
        refine Wo.pre 8 (by kernel_rfl) ?_
        refine Wo.nil ?_
        exact ih (i + 1) (by omega) (by omega) H5 al ke en _ ks _ (fun _ => rfl) (hJ4.mono X5) (by omega) ⟨(by kernel_rfl), (by kernel_rfl), (by kernel_rfl), (by kernel_rfl), (by kernel_rfl), (by kernel_rfl), (by kernel_rfl), by rw [← w1]; kernel_rfl⟩ Q hQ
end Go.Det
