/- The law WireBack, from its head. -/
import Derived.Test.YthahfhdibhgboaaBack2
set_option linter.unusedVariables false
set_option linter.unusedSimpArgs false
set_option linter.unusedSectionVars false
namespace Go.Det
open Go.Proofs
attribute [local irreducible] Wp Wo Wd iop ev slots quiets wanted put

theorem OwC.lenS {e sz lo n : Nat} {h : H} {v : AV} {cs : List AV} (ho : OwC e sz lo h v cs n) : (v = .nils ∧ n = 0) ∨ ∃ a c, v = .sl a n c := by
  rcases ho with ⟨h1, _, h2⟩ | ⟨b, g, _, _, _, h1, _⟩
  · exact .inl ⟨h1, h2⟩
  · exact .inr ⟨_, _, h1⟩

set_option maxHeartbeats 2000000 in
theorem back_run {h : H} {xl : AV} {ths : List (Th × AV)} {ab : AA} {cc : Cp} (hEL : EL h ab ths) (hab : ths ≠ [] → ab.b < h.n) (hxl : (xl = .nils ∧ ths = []) ∨ xl = .sl ab ths.length cc) (hlen : ths.length < 2 ^ 62) (cu : Nat) (hcu : cu < 65536) :
    ∃ r h', Runs TF 5 [xl, .int .u16 cu] h r h' ∧ r = .bool true := by
  have hlenx : (xl = .nils ∧ ths.length = 0) ∨ ∃ a c, xl = .sl a ths.length c := by
    rcases hxl with ⟨e, e2⟩ | e
    · exact .inl ⟨e, by rw [e2]; rfl⟩
    · exact .inr ⟨_, _, e⟩
  have hmax : 200000000000000 = maxRow := rfl
  refine Runs.ofP f5 rfl ?_
  refine Wp.seq ?_
  refine Wp.region ?_
  refine Wo.pre 8 (by kernel_rfl) ?_
  refine Wo.nil ?_
  refine Wp.seq ?_
  refine Wp.region ?_
  refine Wo.pre 8 (by kernel_rfl) ?_
  refine Wo.nil ?_
  refine Wp.seq ?_
  refine Wp.region ?_
  refine Wo.pre 8 (by kernel_rfl) ?_
  refine Wo.nil ?_
  refine Wp.seq ?_
  refine Wp.region ?_
  refine Wo.pre 8 (by kernel_rfl) ?_
  refine Wo.nil ?_
  refine Wp.seq ?_
  refine Wp.seq ?_
  refine Wp.region ?_
  refine Wo.pre 1 (by kernel_rfl) ?_
  refine Wo.val (.int .i64 ths.length) h (by kernel_rfl) (iop_lenS (v := xl) (by kernel_rfl) hlenx) ?_
  refine Wo.pre 8 (by kernel_rfl) ?_
  refine Wo.nil ?_
  refine Wp.block ?_
  refine back_loop1 (cc := cc) (cu := cu) hEL hab ths.length 0 (by omega) (by omega) h .nils .nils .nils xl [] _ (fun hne => ?_) ⟨Ext.refl h, .inl ⟨rfl, rfl⟩, .inl ⟨rfl, rfl, rfl⟩, .inl ⟨rfl, rfl, rfl⟩, (fun p hp => by simp at hp), Nat.le_refl _⟩ (Nat.le_refl _) ⟨(by kernel_rfl), (by kernel_rfl), (by kernel_rfl), (by kernel_rfl), (by kernel_rfl), (by kernel_rfl), (by kernel_rfl), (by kernel_rfl)⟩ _ ?_
  · rcases hxl with ⟨_, e⟩ | e
    · exact absurd e hne
    · exact e
  intro ts1 K1 al ke en ks hJ hks d0 d1 d5 d6 d7
  rw [laid_eq d0 [(1, .int .u16 cu), (5, al), (6, ke), (7, en)] (by simp [d1, d5, d6, d7])]
  have hla := hJ.len
  have hal := hJ.al.bs
  obtain ⟨nn, hnn, hnv⟩ : ∃ nn, nn ≤ (encs ks).length ∧ (if (encs ks).length = 0 then nn = 0 else AV.int .i64 (((IntKind.i64.wrap (cu : Int))).tmod (IntKind.i64.wrap (((encs ks).length : Int) + 1))) = .int .i64 nn) := by
    by_cases h0 : (encs ks).length = 0
    · exact ⟨0, by omega, by rw [if_pos h0]⟩
    · refine ⟨cu % ((encs ks).length + 1), by have := Nat.mod_lt cu (show 0 < (encs ks).length + 1 by omega); omega, ?_⟩
      rw [if_neg h0, i64_fit (cu : Int) (by omega), i64_fit _ (by omega)]
      congr 1
  obtain ⟨p, H1, c1, rb, u, rfl, hrb, R1, X1, _, hu⟩ := new_run hal (by omega)
  obtain ⟨q, s1, s2, s3⟩ := (hal.ext (Ext.refl K1)).take hJ.al.cok hnn
  obtain ⟨q', s1', s2', _⟩ := (hal.ext X1).take hJ.al.cok hnn
  obtain ⟨p2, H2, c2, sb, w, rfl, hsb, R2, X2, _, hw⟩ := new_run (h := H1) (v := q) (l := (encs ks).take nn) (s2.ext X1) (by rw [List.length_take]; omega)
  have n1 := X1.1
  have n2 := X2.1
  have hrb1 := R1.1
  have hh0 := hJ.ext.1
  have enter : ∀ (Z : AV), True → True := fun _ _ => trivial
  refine Wp.seq ?_
  refine Wp.region ?_
  refine Wo.pre 1 (by kernel_rfl) ?_
  refine Wo.val (.int .i64 (encs ks).length) K1 (by kernel_rfl) ((hal.len (by kernel_rfl))) ?_
  refine Wo.pre 8 (by kernel_rfl) ?_
  refine Wo.nil ?_
  refine Wp.seq ?_
  refine Wp.seq ?_
  refine Wp.region ?_
  refine Wo.pre 8 (by kernel_rfl) ?_
  refine Wo.nil ?_
  refine Wp.mono (Q := fun e s => e = .normal ∧ s.2 = K1 ∧ s.1.length = 208 ∧ getL s.1 5 = some al ∧ getL s.1 6 = some ke ∧ getL s.1 7 = some en ∧ getL s.1 12 = some (.int .i64 nn)) ?_ ?_
  · refine Wp.cond (decide (((encs ks).length : Int) > 0)) (by kernel_rfl) ?_
    by_cases h0 : (encs ks).length = 0
    · rw [if_neg (by rw [decide_eq_true_eq]; omega)]
      rw [if_pos h0] at hnv
      exact Wp.skip ⟨rfl, rfl, (by kernel_rfl), (by kernel_rfl), (by kernel_rfl), (by kernel_rfl), by rw [show nn = (encs ks).length by omega]; kernel_rfl⟩
    · rw [if_pos (by rw [decide_eq_true_eq]; omega)]
      rw [if_neg h0] at hnv
      have hb0 : (IntKind.i64.wrap (((encs ks).length : Int) + 1) == 0) = false := by rw [i64_fit _ (by omega)]; simp; omega
      have erem : ∀ {x y : IX} {ρ : IX → AV}, ρ x = .int .i64 (IntKind.i64.wrap (cu : Int)) → ρ y = .int .i64 (IntKind.i64.wrap (((encs ks).length : Int) + 1)) → iop (.bin .rem x y) ρ K1 = some (.val (.int .i64 nn) K1) := by
        intro x y ρ hx hy
        unfold iop
        simp only [binop, binInt, hx, hy, hb0, Bool.false_eq_true, if_false, Option.map_some]
        rw [hnv]
        simp
      refine Wp.region ?_
      refine Wo.pre 1 (by kernel_rfl) ?_
      refine Wo.pre 1 (by kernel_rfl) ?_
      refine Wo.pre 1 (by kernel_rfl) ?_
      refine Wo.pre 1 (by kernel_rfl) ?_
      refine Wo.val (.int .i64 nn) K1 (by kernel_rfl) (erem (by kernel_rfl) (by kernel_rfl)) ?_
      refine Wo.pre 1 (by kernel_rfl) ?_
      refine Wo.nil ?_
      exact ⟨rfl, rfl, (by kernel_rfl), (by kernel_rfl), (by kernel_rfl), (by kernel_rfl), (by kernel_rfl)⟩
  rintro e ⟨ts2, k2⟩ ⟨rfl, hk2, b0, b5, b6, b7, b12⟩
  have hk2 : K1 = k2 := hk2.symm
  subst hk2
  have b0 : ts2.length = 208 := b0
  have b5 : getL ts2 5 = some al := b5
  have b6 : getL ts2 6 = some ke := b6
  have b7 : getL ts2 7 = some en := b7
  have b12 : getL ts2 12 = some (.int .i64 nn) := b12
  rw [laid_eq b0 [(5, al), (6, ke), (7, en), (12, .int .i64 nn)] (by simp [b5, b6, b7, b12])]
  have hlk := hJ.ke.lenS
  refine Wp.seq ?_
  refine Wp.draw ?_
  refine Wd.pure (by kernel_rfl) (by kernel_rfl) ?_
  refine Wd.pure (by kernel_rfl) (by kernel_rfl) ?_
  refine Wd.pure (by kernel_rfl) (by kernel_rfl) ?_
  refine Wd.make q K1 (by kernel_rfl) (by kernel_rfl) (s1 _ _ _ (by kernel_rfl) (by kernel_rfl)) ?_
  refine Wd.call (by kernel_rfl) (by kernel_rfl) c1 (holds_of [] (by kernel_rfl) rfl) ?_
  refine Wd.call (by kernel_rfl) (by kernel_rfl) c2 (holds_of [] (by kernel_rfl) rfl) ?_
  refine Wd.pure (by kernel_rfl) (by kernel_rfl) ?_
  refine Wd.pure (by kernel_rfl) (by kernel_rfl) ?_
  refine Wd.done (holds_of [] (by kernel_rfl) rfl) ?_
  refine Wp.seq ?_
  refine Wp.region ?_
  refine Wo.pre 8 (by kernel_rfl) ?_
  refine Wo.nil ?_
  refine Wp.seq ?_
  refine Wp.seq ?_
  refine Wp.region ?_
  refine Wo.pre 1 (by kernel_rfl) ?_
  refine Wo.val (.int .i64 ks.length) H2 (by kernel_rfl) (iop_lenS (v := ke) (by kernel_rfl) hlk) ?_
  refine Wo.pre 8 (by kernel_rfl) ?_
  refine Wo.nil ?_
  refine Wp.block ?_
  refine Wp.mono (Q := fun e s => e = .exit 2 ∧ s.1.length = 208 ∧ getL s.1 13 = some (.ptr ⟨rb, 0, 0⟩) ∧ ∃ v, Rd s.2 rb v []) ?_ ?_
  · have R1' := R1.ext X2
    by_cases hk : ks = []
    · subst hk
      refine Wp.loop ?_
      unfold l5_1
      refine Wp.seq ?_
      refine Wp.region ?_
      refine Wo.pre 8 (by kernel_rfl) ?_
      refine Wo.nil ?_
      refine Wp.seq ?_
      refine Wp.cond false (by kernel_rfl) ?_
      exact Wp.exit ⟨rfl, (by kernel_rfl), (by kernel_rfl), u, R1'⟩
    · rcases hJ.ke with ⟨_, e, e2⟩ | ⟨kb, kg, k1, k2, k3, rfl, k5⟩
      · exact absurd (List.length_eq_zero_iff.1 e2) hk
      rcases hJ.en with ⟨_, e, e2⟩ | ⟨eb, eg, f1, f2, f3, rfl, f5⟩
      · exact absurd (List.length_eq_zero_iff.1 e2) hk
      have hke : H2.ldn ⟨kb, kg, 0⟩ (ks.length * 4) = some (kcells ks) := by
        have ek : H2.get (AA.b ⟨kb, kg, 0⟩) = K1.get (AA.b ⟨kb, kg, 0⟩) := by
          show H2.get kb = K1.get kb
          rw [X2.2 _ (by omega), X1.2 _ k2]
        rw [ldn_same ek, ← k5]
        unfold H.ldn H.row
        simp only [k3, BEq.rfl, Bool.not_false, Bool.true_or, Bool.and_self, if_true]
        exact cut_all _
      have hee : H2.ldn ⟨eb, eg, 0⟩ (ks.length * 1) = some (ecells ks) := by
        have ek : H2.get (AA.b ⟨eb, eg, 0⟩) = K1.get (AA.b ⟨eb, eg, 0⟩) := by
          show H2.get eb = K1.get eb
          rw [X2.2 _ (by omega), X1.2 _ f2]
        rw [ldn_same ek, ← f5]
        unfold H.ldn H.row
        simp only [f3, BEq.rfl, Bool.not_false, Bool.true_or, Bool.and_self, if_true]
        exact cut_all _
      have e0 : off ks 0 = 0 := by unfold off encs; simp
      refine back_loop2 (hb := H2) (ks := ks) (nn := nn) (rb := rb) hks hnn hla (by omega) (by omega) (by omega) hke hee (fun p hp => ?_) ks.length 0 (by omega) H2 sb false _ _ _ (fun _ => ⟨rfl, rfl⟩) ⟨⟨u, w, ?_, ?_, fun a n c e => (hu a n c e).2, fun a n c e => ?_⟩, ?_, fun _ _ => rfl, Nat.le_refl _⟩ (by rw [e0]; simp) ⟨(by kernel_rfl), (by kernel_rfl), (by kernel_rfl), (by kernel_rfl), (by kernel_rfl), (by kernel_rfl), (by kernel_rfl), (by kernel_rfl), (by kernel_rfl)⟩ _ ?_
      · obtain ⟨o1, o2, o3, o4⟩ := hJ.ok p hp
        have hB := ((o1.ext hJ.ext).ext X1).ext X2
        exact ⟨hB, fun a n c e => by have := o1.lt e; omega, o2, o3, o4⟩
      · rw [e0]; exact R1'
      · unfold cutS
        rw [e0, if_neg (by omega)]
        exact R2
      · have := hw a n c e; omega
      · have := R2.1; omega
      · intro ts' h' g0 g1 g2
        exact ⟨rfl, g0, g1, g2⟩
  rintro e ⟨ts3, k3⟩ ⟨rfl, b0', b13, v', R'⟩
  have b0' : ts3.length = 208 := b0'
  have b13 : getL ts3 13 = some (.ptr ⟨rb, 0, 0⟩) := b13
  have R' : Rd k3 rb v' [] := R'
  have lf := left_run R'
  rw [laid_eq b0' [(13, .ptr ⟨rb, 0, 0⟩)] (by simp [b13])]
  refine Wp.seq ?_
  refine Wp.region ?_
  refine Wo.call (by kernel_rfl) (by kernel_rfl) (awake24_run k3) ?_
  refine Wo.pre 1 (by kernel_rfl) ?_
  refine Wo.pre 1 (by kernel_rfl) ?_
  refine Wo.call (by kernel_rfl) (by kernel_rfl) (lf) ?_
  refine Wo.pre 8 (by kernel_rfl) ?_
  refine Wo.nil ?_
  exact Wp.ret ⟨.inr rfl, .bool true, (by kernel_rfl), rfl⟩
theorem things_of {h : H} {xs : List (Bool × Int × Int × List Int)} {xl : AV} (hk : KSl (KPair KBool (KPair (KInt .i64) (KPair (KInt .u64) (KSl (KInt .u8) 1)))) 4 h xs [xl])
    (hw : ∀ x ∈ xs, (0 ≤ x.2.2.1 ∧ x.2.2.1 ≤ 18446744073709551615) ∧ x.2.2.2.length ≤ maxRow ∧ ∀ n ∈ x.2.2.2, IntKind.u8.min ≤ n ∧ n ≤ IntKind.u8.max) :
    ∃ (ths : List (Th × AV)) (ab : AA) (cc : Cp), EL h ab ths ∧ (ths ≠ [] → ab.b < h.n) ∧ ((xl = .nils ∧ ths = []) ∨ xl = .sl ab ths.length cc) ∧ ths.length = xs.length := by
  have hel := hk.elem (by
    rintro x c ⟨y0, y1, rfl, h0, y2, y3, rfl, h1, y4, y5, rfl, h2, v, rfl, h3⟩
    cases h0; cases h1; cases h2; rfl)
  rcases hel with ⟨rfl, rfl⟩ | ⟨a, c, rfl, _, h2, h3⟩
  · exact ⟨[], ⟨0, 0, 0⟩, .ex 0, fun j p hp => by simp at hp, fun hne => absurd rfl hne, .inl ⟨rfl, rfl⟩, rfl⟩
  · have key : ∀ j : Fin xs.length, ∃ p : Th × AV, h.ldn ⟨a.b, a.g, a.o + j.1 * 4⟩ 4 = some (thC p) ∧ Bs h p.2 p.1.b ∧ Cok p.2 ∧ p.1.n < 2 ^ 64 ∧ p.1.b.length ≤ maxRow := by
      intro j
      have hj : xs[j.1]? = some xs[j.1] := List.getElem?_eq_getElem j.2
      obtain ⟨cs, hc, hl⟩ := h3 j.1 _ hj
      obtain ⟨w1, w2, w3⟩ := hw _ (List.mem_of_getElem? hj)
      obtain ⟨q, hq⟩ : ∃ q, q = xs[j.1] := ⟨_, rfl⟩
      rw [← hq] at hc w1 w2 w3
      obtain ⟨v0, s0, n0, b0⟩ := q
      obtain ⟨y0, y1, rfl, k0, y2, y3, rfl, k1, y4, y5, rfl, k2, k3⟩ := hc
      obtain rfl : y0 = [.bool v0] := k0
      obtain rfl : y2 = [.int .i64 s0] := k1
      obtain rfl : y4 = [.int .u64 n0] := k2
      obtain ⟨x, b, rfl, hB, hbl, hcap⟩ := k3.bytes w3
      have w1 : 0 ≤ n0 ∧ n0 ≤ 18446744073709551615 := w1
      obtain ⟨n, rfl⟩ : ∃ n : Nat, n0 = n := ⟨n0.toNat, by omega⟩
      have hbl : b.length = b0.length := hbl
      have w2 : b0.length ≤ maxRow := w2
      exact ⟨(⟨v0, s0, n, b⟩, x), hl, hB, fun a m c e => .inl (hcap a m c e), by show n < 2 ^ 64; omega, by show b.length ≤ maxRow; omega⟩
    obtain ⟨f, hf⟩ := Classical.axiomOfChoice key
    refine ⟨List.ofFn f, a, .ex c, fun j p hp => ?_, fun _ => h2, .inr (by rw [List.length_ofFn]), List.length_ofFn⟩
    rw [List.getElem?_ofFn] at hp
    split at hp
    · rename_i hj
      simp only [Option.some.injEq] at hp
      subst hp
      exact hf ⟨j, hj⟩
    · simp at hp
end Go.Det
