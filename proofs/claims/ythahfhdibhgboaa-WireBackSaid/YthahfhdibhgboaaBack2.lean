/- The law WireBack: what is taken (the second loop). -/
import Derived.Test.YthahfhdibhgboaaBack1
set_option linter.unusedVariables false
set_option linter.unusedSimpArgs false
set_option linter.unusedSectionVars false
namespace Go.Det
open Go.Proofs
attribute [local irreducible] Wp Wo Wd iop ev slots quiets wanted put

theorem iop_gtB {x y : IX} {ρ : IX → AV} {h : H} {k : IntKind} {a b : Int} (c : Bool) (hx : ρ x = .int k a) (hy : ρ y = .int k b) (e : decide (a > b) = c) : iop (.bin .gtr x y) ρ h = some (.val (.bool c) h) := by
  simp [iop, binop, binInt, hx, hy, ← e]

/-- Where the i-th thing's bytes begin. -/
def off (ks : List (Th × AV)) (i : Nat) : Nat := (encs (ks.take i)).length

theorem encs_at {ks : List (Th × AV)} {i : Nat} {p : Th × AV} (hp : ks[i]? = some p) : off ks (i + 1) = off ks i + p.1.enc.length ∧ (encs ks).drop (off ks i) = p.1.enc ++ (encs ks).drop (off ks (i + 1)) ∧ off ks (i + 1) ≤ (encs ks).length := by
  have hlt : i < ks.length := (List.getElem?_eq_some_iff.1 hp).1
  have h1 : ks.take (i + 1) = ks.take i ++ [p] := by rw [List.take_add_one, hp]; rfl
  have h2 : ks = ks.take i ++ p :: ks.drop (i + 1) := by
    have e := List.getElem?_eq_some_iff.1 hp
    conv => lhs; rw [← List.take_append_drop i ks]
    rw [List.drop_eq_getElem_cons hlt, e.2]
  have e1 : off ks (i + 1) = off ks i + p.1.enc.length := by
    unfold off
    rw [h1, encs_snoc, List.length_append]
  have e2 : encs ks = encs (ks.take i) ++ (p.1.enc ++ encs (ks.drop (i + 1))) := by
    conv => lhs; rw [h2]
    simp [encs]
  have e3 : (encs ks).drop (off ks i) = p.1.enc ++ encs (ks.drop (i + 1)) := by
    rw [e2]; unfold off; rw [List.drop_left]
  have e4 : (encs ks).drop (off ks (i + 1)) = encs (ks.drop (i + 1)) := by
    rw [e1, ← List.drop_drop, e3, List.drop_left]
  refine ⟨e1, by rw [e3, e4], ?_⟩
  rw [e1, e2, List.length_append, List.length_append]
  unfold off
  omega

/-- What the second reader has left. -/
def cutS (ks : List (Th × AV)) (nn i : Nat) : List UInt8 := if off ks i > nn then [] else ((encs ks).take nn).drop (off ks i)

theorem cutS_A {ks : List (Th × AV)} {i nn : Nat} {p : Th × AV} (hp : ks[i]? = some p) (h1 : ¬ off ks (i + 1) > nn) (hn : nn ≤ (encs ks).length) : cutS ks nn i = p.1.enc ++ cutS ks nn (i + 1) := by
  obtain ⟨e1, e2, e3⟩ := encs_at hp
  unfold cutS
  rw [if_neg (by omega), if_neg h1]
  have : ((encs ks).take nn).drop (off ks i) = ((encs ks).drop (off ks i)).take (nn - off ks i) := by rw [List.drop_take]
  rw [this, e2, List.take_append, List.take_of_length_le (by omega), List.drop_take]
  congr 2
  omega
theorem cutS_B {ks : List (Th × AV)} {i nn : Nat} {p : Th × AV} (hp : ks[i]? = some p) (h1 : off ks (i + 1) > nn) (h0 : 0 < p.1.enc.length) : ∃ k, cutS ks nn i = (p.1.enc ++ (encs ks).drop (off ks (i + 1))).take k ∧ k < p.1.enc.length := by
  obtain ⟨e1, e2, e3⟩ := encs_at hp
  unfold cutS
  split
  · exact ⟨0, by simp, h0⟩
  · exact ⟨nn - off ks i, by rw [← e2, List.drop_take], by omega⟩

theorem cutS_len (ks : List (Th × AV)) (nn i : Nat) : (cutS ks nn i).length ≤ (encs ks).length := by
  unfold cutS
  split <;> simp [List.length_drop, List.length_take]
  omega

/-- What stands through the second loop. -/
structure J2 (hb h : H) (rb sb : Nat) (ks : List (Th × AV)) (nn i : Nat) : Prop where
  ex : ∃ v w, Rd h rb v ((encs ks).drop (off ks i)) ∧ Rd h sb w (cutS ks nn i) ∧ (∀ a n c, v = .sl a n c → a.b < rb) ∧ (∀ a n c, w = .sl a n c → rb < a.b)
  lt : rb < sb
  keep : ∀ b, b < rb → h.get b = hb.get b
  n : hb.n ≤ h.n

def At6 (rb sb nn : Nat) (sh : Bool) (ke en : AV) (m i : Nat) (ts : List AV) : Prop := ts.length = 208 ∧ getL ts 7 = some en ∧ getL ts 12 = some (.int .i64 nn) ∧ getL ts 13 = some (.ptr ⟨rb, 0, 0⟩) ∧ getL ts 14 = some (.ptr ⟨sb, 0, 0⟩) ∧ getL ts 15 = some (.bool sh) ∧ getL ts 93 = some ke ∧ getL ts 94 = some (.int .i64 m) ∧ getL ts 95 = some (.int .i64 i)

set_option maxHeartbeats 16000000 in
theorem back_loop2 {hb : H} {ks : List (Th × AV)} {nn rb kb kg eb eg : Nat} (hm : ks.length ≤ 40) (hnn : nn ≤ (encs ks).length) (hen : (encs ks).length ≤ 311 * ks.length) (hkb : kb < rb) (heb : eb < rb) (hrb : rb < hb.n)
    (hke : hb.ldn ⟨kb, kg, 0⟩ (ks.length * 4) = some (kcells ks)) (hee : hb.ldn ⟨eb, eg, 0⟩ (ks.length * 1) = some (ecells ks))
    (hok : ∀ p ∈ ks, Bs hb p.2 p.1.b ∧ (∀ a n c, p.2 = .sl a n c → a.b < rb) ∧ p.1.b.length ≤ 300 ∧ p.1.n < 2 ^ 64 ∧ p.1.encE = 0) :
    ∀ (k i : Nat), i + k = ks.length → ∀ (h : H) (sb : Nat) (sh : Bool) (ts : List AV) (ke en : AV), (ks ≠ [] → ke = .sl ⟨kb, kg, 0⟩ ks.length (.op 4) ∧ en = .sl ⟨eb, eg, 0⟩ ks.length (.op 1)) → J2 hb h rb sb ks nn i → sh = decide (off ks i > nn) → At6 rb sb nn sh ke en ks.length i ts →
      ∀ (Q : Ex → St → Prop), (∀ ts' h', ts'.length = 208 → getL ts' 13 = some (.ptr ⟨rb, 0, 0⟩) → (∃ v, Rd h' rb v []) → Q (.exit 2) (ts', h')) → Wp TF (.loop l5_1) (ts, h) Q := by
  have hmax : 200000000000000 = maxRow := rfl
  intro k
  induction k with
  | zero =>
    intro i hi h sb sh ts ke en hke' hJ hsh hA Q hQ
    obtain ⟨t0, t7, t12, t13, t14, t15, t93, t94, t95⟩ := hA
    obtain rfl : i = ks.length := by omega
    obtain ⟨v, w, hR, _⟩ := hJ.ex
    have e0 : (encs ks).drop (off ks ks.length) = [] := by unfold off; rw [List.take_length]; simp
    rw [e0] at hR
    refine Wp.loop ?_
    rw [laid_eq t0 [(13, .ptr ⟨rb, 0, 0⟩), (94, .int .i64 ks.length), (95, .int .i64 ks.length)] (by simp [t13, t94, t95])]
    unfold l5_1
    refine Wp.seq ?_
    refine Wp.region ?_
    refine Wo.pre 8 (by kernel_rfl) ?_
    refine Wo.nil ?_
    refine Wp.seq ?_
    refine Wp.cond (decide ((ks.length : Int) < (ks.length : Int))) (by kernel_rfl) ?_
    rw [if_neg (by simp)]
    exact Wp.exit (hQ _ _ (by kernel_rfl) (by kernel_rfl) ⟨v, hR⟩)
  | succ k ih =>
    intro i hi h sb sh ts ke en hke' hJ hsh hA Q hQ
    obtain ⟨t0, t7, t12, t13, t14, t15, t93, t94, t95⟩ := hA
    have hlt : i < ks.length := by omega
    have hne : ks ≠ [] := by intro e; rw [e] at hlt; simp at hlt
    obtain ⟨rfl, rfl⟩ := hke' hne
    obtain ⟨⟨t, y⟩, hp⟩ : ∃ p, ks[i]? = some p := ⟨ks[i], List.getElem?_eq_getElem hlt⟩
    obtain ⟨ok1, ok1b, ok2, ok3, ok4⟩ := hok _ (List.mem_of_getElem? hp)
    have ok1 : Bs hb y t.b := ok1
    have ok1b : ∀ a n c, y = .sl a n c → a.b < rb := ok1b
    have ok2 : t.b.length ≤ 300 := ok2
    have ok4 : t.encE = 0 := ok4
    obtain ⟨e1, e2, e3⟩ := encs_at hp
    have e1 : off ks (i + 1) = off ks i + t.enc.length := e1
    have e2 : (encs ks).drop (off ks i) = t.enc ++ (encs ks).drop (off ks (i + 1)) := e2
    have w1 : IntKind.i64.wrap ((i : Int) + 1) = ((i + 1 : Nat) : Int) := by rw [i64_fit _ (by omega)]; omega
    obtain ⟨v, w, hR, hS, hv, hw⟩ := hJ.ex
    have hrs := hJ.lt
    have hhn := hJ.n
    have rbn := hR.1
    have sbn := hS.1
    have h8 := (szOf_ok t.vec t.size).1
    have hpos : 0 < t.enc.length := by rw [enc_len]; split <;> (unfold Th.sz; omega)
    obtain ⟨D, hD⟩ : ∃ D : List AV, D = [.bool t.vec, .int .i64 t.size, .int .u64 t.n, y] := ⟨_, rfl⟩
    have hDt : thC (t, y) = D := by rw [hD]; rfl
    have hD4 : D.length = 4 := by rw [hD]; rfl
    have hy1 := ok1.parts
    have hLA : h.ldn ⟨kb, kg, 0 + i * 4⟩ 4 = some D := by
      have ek : h.get (AA.b ⟨kb, kg, 0 + i * 4⟩) = hb.get (AA.b ⟨kb, kg, 0 + i * 4⟩) := hJ.keep kb hkb
      rw [ldn_same ek, ← hDt]
      exact ldn_elem (a := ⟨kb, kg, 0⟩) (n := ks.length) (cc := ks.map thC) hke (by simp) (fun c hc => by obtain ⟨p, _, rfl⟩ := List.mem_map.1 hc; rfl) (by simp [hp])
    have hact2 : h.ldg ⟨kb, kg, 0 + i * 4⟩ (some 4) = some (.agg D) := by simp only [H.ldg, hLA, Option.map_some]
    have hLE : hb.ldg ⟨eb, eg, 0 + i⟩ none = some (.int .i64 (off ks (i + 1) : Nat)) := by
      rw [Nat.mul_one] at hee
      refine ldn_at (a := ⟨eb, eg, 0⟩) hee ?_
      unfold ecells off
      rw [List.getElem?_map, List.getElem?_range hlt]
      rfl
    obtain ⟨H1, hH1⟩ : ∃ H1, H1 = h.new (.cells 0 57 [.bool false, .int .i64 0, .int .u64 0, .nils] 0 false) := ⟨_, rfl⟩
    obtain ⟨H2, hH2⟩ : ∃ H2, H2 = H1.set h.n (.cells 0 57 D 0 false) := ⟨_, rfl⟩
    have g1 : H1.get h.n = some (.cells 0 57 [.bool false, .int .i64 0, .int .u64 0, .nils] 0 false) := by rw [hH1]; exact h.get_new _
    have g2 : H2.get h.n = some (.cells 0 57 D 0 false) := by rw [hH2, H1.get_set]
    have n2 : H2.n = h.n + 1 := by rw [hH2, hH1]; rfl
    have X2 : Ext h H2 := ⟨by omega, fun b hb => by rw [hH2, H1.get_set_ne _ b _ (by omega), hH1]; exact h.get_new_ne b _ (by omega)⟩
    have st2 : H1.st ⟨h.n, 0, 0⟩ D = some H2 := by
      have hD1 : D.all AV.one = true := by
        have o3 : ∀ k i, (AV.int k i).one = true := fun _ _ => rfl
        have o4 : ∀ b, (AV.bool b).one = true := fun _ => rfl
        rw [hD]
        simp [hy1.2.1, o3, o4]
      unfold H.st
      simp only [g1]
      rw [if_pos (by rw [hD4]; simp [-List.all_eq_true, hD1]), hH2]
      rw [hD]
      rfl
    have enew : ∀ ts, iop (.new 57 (.c (.agg [.bool false, .int .i64 0, .int .u64 0, .nils]))) (ev ts) h = some (.val (.ptr ⟨h.n, 0, 0⟩) H1) := fun ts => by rw [hH1]; exact iop_new (by kernel_rfl) rfl
    have Ld : ∀ (q : H), q.get h.n = some (.cells 0 57 D 0 false) → q.ldg ⟨h.n, 0, 0⟩ none = some (.bool t.vec) ∧ q.ldg ⟨h.n, 0, 2⟩ none = some (.int .u64 t.n) ∧ q.ldg ⟨h.n, 0, 3⟩ none = some y ∧ q.ldg ⟨h.n, 0, 0⟩ (some 4) = some (.agg D) := fun q hq => by
      rw [hD] at hq ⊢
      simp [H.ldg, H.ld, H.ldn, H.row, hq, getL, cut]
    have LE2 : H2.ldg ⟨eb, eg, 0 + i * 1⟩ none = some (.int .i64 (off ks (i + 1) : Nat)) := by
      have ek : H2.get eb = hb.get eb := by rw [X2.2 _ (by omega)]; exact hJ.keep eb heb
      have e5 : H2.row ⟨eb, eg, 0 + i⟩ = hb.row ⟨eb, eg, 0 + i⟩ := row_same ek
      rw [Nat.mul_one]
      rw [← hLE]
      simp only [H.ldg, H.ld, e5]
    have hR2 := hR.ext X2
    have hS2 := hS.ext X2
    rw [e2] at hR2
    have hlr : (t.enc ++ (encs ks).drop (off ks (i + 1))).length ≤ maxRow := by
      rw [← e2, List.length_drop]; omega
    have hls : (cutS ks nn i).length ≤ maxRow := by have := cutS_len ks nn i; omega
    obtain ⟨H3, cS, X3⟩ := size_run (h := H2) hy1.2.1 t.vec t.size t.n
    rw [← hD] at cS
    have cS : Runs TF 34 [.agg D] H2 (.int .i64 t.sz) H3 := cS
    have g3 : H3.get h.n = some (.cells 0 57 D 0 false) := by rw [X3.2 _ (by omega)]; exact g2
    have n3 := X3.1
    have hR3 := hR2.ext X3
    have hS3 := hS2.ext X3
    refine Wp.loop ?_
    rw [laid_eq t0 [(7, .sl ⟨eb, eg, 0⟩ ks.length (.op 1)), (12, .int .i64 nn), (13, .ptr ⟨rb, 0, 0⟩), (14, .ptr ⟨sb, 0, 0⟩), (15, .bool sh), (93, .sl ⟨kb, kg, 0⟩ ks.length (.op 4)), (94, .int .i64 ks.length), (95, .int .i64 i)] (by simp [t7, t12, t13, t14, t15, t93, t94, t95])]
    unfold l5_1
    refine Wp.seq ?_
    refine Wp.region ?_
    refine Wo.pre 8 (by kernel_rfl) ?_
    refine Wo.nil ?_
    refine Wp.seq ?_
    refine Wp.cond (decide ((i : Int) < (ks.length : Int))) (by kernel_rfl) ?_
    rw [if_pos (by simp; omega)]
    by_cases hvec : t.vec = true
    · have hvec' : t.vec = true := hvec
      obtain ⟨d1, d2, d3⟩ := dec_vec hvec ok4 ((encs ks).drop (off ks (i + 1)))
      obtain ⟨H4, x, v4, cR, R4, ox, x4, sb4⟩ := vec_any hR3 (t.sz : Int) hlr
      rw [d1] at cR
      rw [d2] at ox
      rw [d3] at R4
      have n4 := x4.1
      have g4 : H4.get h.n = some (.cells 0 57 D 0 false) := by rw [x4.2 _ (by omega) (by omega)]; exact g3
      have hv4 : ∀ a n c, v4 = .sl a n c → a.b < rb := fun a n c e => by
        obtain ⟨a0, n0, c0, e0, q⟩ := sb4 a n c e
        rw [← q]; exact hv _ _ _ e0
      have S4 : Rd H4 sb w (cutS ks nn i) := hS3.keep x4.1 (x4.2 _ (by omega) (by omega)) (fun a n c e => x4.2 _ (by have := hS.2.2.1.lt e; omega) (by have := hw a n c e; omega))
      obtain ⟨H5, cS5, X5⟩ := size_run (h := H4) hy1.2.1 t.vec t.size t.n
      rw [← hD] at cS5
      have cS5 : Runs TF 34 [.agg D] H4 (.int .i64 t.sz) H5 := cS5
      have n5 := X5.1
      have g5 : H5.get h.n = some (.cells 0 57 D 0 false) := by rw [X5.2 _ (by omega)]; exact g4
      have S5 := S4.ext X5
      have R5 := R4.ext X5
      by_cases hA : ¬ off ks (i + 1) > nn
      · obtain rfl : sh = false := by rw [hsh]; simp; omega
        have eS := cutS_A hp hA hnn
        have eS : cutS ks nn i = t.enc ++ cutS ks nn (i + 1) := eS
        rw [eS] at S5 hls
        obtain ⟨f1, f2, f3⟩ := dec_vec hvec ok4 (cutS ks nn (i + 1))
        obtain ⟨H6, x6, w6, cT, S6, ox6, x7, sb6⟩ := vec_any S5 (t.sz : Int) hls
        rw [f1] at cT
        rw [f2] at ox6
        rw [f3] at S6
        have n6 := x7.1
        have g6 : H6.get h.n = some (.cells 0 57 D 0 false) := by rw [x7.2 _ (by omega) (by omega)]; exact g5
        have R6 : Rd H6 rb v4 ((encs ks).drop (off ks (i + 1))) := R5.keep x7.1 (x7.2 _ (by omega) (by omega)) (fun a n c e => x7.2 _ (by have := hv4 a n c e; omega) (by have := hv4 a n c e; omega))
        have kp : ∀ b, b < rb → H6.get b = hb.get b := fun b hb' => by rw [x7.2 b (by omega) (by omega), X5.2 b (by omega), x4.2 b (by omega) (by omega), X3.2 b (by omega), X2.2 b (by omega)]; exact hJ.keep b hb'
        have hy6 : Bs H6 y t.b := by
          rcases ok1 with h0 | ⟨a, c, q1, q2, q3⟩
          · exact .inl h0
          · exact .inr ⟨a, c, q1, by omega, by rw [ldn_same (kp _ (ok1b _ _ _ q1))]; exact q3⟩
        have ox' : Ow H3.n H6 x t.b := by
          rcases ox with h0 | ⟨b, g, q1, q2, q3, q4⟩
          · exact .inl h0
          · exact .inr ⟨b, g, q1, by omega, by rw [x7.2 _ (by omega) (by omega), X5.2 _ (by omega)]; exact q3, q4⟩
        have q1 := equal_run ox'.bs hy6
        rw [show (t.b == t.b) = true by simp] at q1
        have q2 := equal_run ox6.bs hy6
        rw [show (t.b == t.b) = true by simp] at q2
        refine Wp.skip ?_
        refine Wp.seq ?_
        refine Wp.block ?_
        refine Wp.seq ?_
        refine Wp.region ?_
        refine Wo.pre 1 (by kernel_rfl) ?_
        refine Wo.val _ h (by kernel_rfl) (iop_ia (a := ⟨kb, kg, 0⟩) (n := ks.length) (c := .op 4) (i := i) (by kernel_rfl) (by kernel_rfl) hlt) ?_
        refine Wo.val (.agg D) h (by kernel_rfl) (iop_ld (a := ⟨kb, kg, 0 + i * 4⟩) (by kernel_rfl) hact2) ?_
        refine Wo.val _ _ (by kernel_rfl) (enew _) ?_
        refine Wo.pre 1 (by kernel_rfl) ?_
        refine Wo.val .undef H2 (by kernel_rfl) (iop_stA (a := ⟨h.n, 0, 0⟩) (by kernel_rfl) (by kernel_rfl) hD4 st2) ?_
        refine Wo.nil ?_
        refine Wp.seq ?_
        refine Wp.region ?_
        refine Wo.pre 1 (by kernel_rfl) ?_
        refine Wo.pre 1 (by kernel_rfl) ?_
        refine Wo.pre 1 (by kernel_rfl) ?_
        refine Wo.pre 1 (by kernel_rfl) ?_
        refine Wo.val _ H2 (by kernel_rfl) (iop_ia (a := ⟨eb, eg, 0⟩) (n := ks.length) (c := .op 1) (i := i) (by kernel_rfl) (by kernel_rfl) hlt) ?_
        refine Wo.val (.int .i64 (off ks (i + 1) : Nat)) H2 (by kernel_rfl) (iop_ld (a := ⟨eb, eg, 0 + i * 1⟩) (by kernel_rfl) LE2) ?_
        refine Wo.pre 1 (by kernel_rfl) ?_
        refine Wo.val (.bool false) H2 (by kernel_rfl) (iop_gtB (k := .i64) (a := (off ks (i + 1) : Nat)) (b := nn) false (by kernel_rfl) (by kernel_rfl) (by simp; omega)) ?_
        refine Wo.pre 1 (by kernel_rfl) ?_
        refine Wo.pre 1 (by kernel_rfl) ?_
        refine Wo.nil ?_
        refine Wp.seq ?_
        refine Wp.seq ?_
        refine Wp.region ?_
        refine Wo.pre 1 (by kernel_rfl) ?_
        refine Wo.val (.bool true) H2 (by kernel_rfl) (iop_ld (a := ⟨h.n, 0, 0⟩) (by kernel_rfl) (by rw [← hvec']; exact (Ld H2 g2).1)) ?_
        refine Wo.nil ?_
        refine Wp.cond true (by kernel_rfl) ?_
        refine Wp.seq ?_
        refine Wp.region ?_
        refine Wo.pre 1 (by kernel_rfl) ?_
        refine Wo.val (.agg D) H2 (by kernel_rfl) (iop_ld (a := ⟨h.n, 0, 0⟩) (by kernel_rfl) (Ld H2 g2).2.2.2) ?_
        refine Wo.call (by kernel_rfl) (by kernel_rfl) (cS) ?_
        refine Wo.call (by kernel_rfl) (by kernel_rfl) (cR) ?_
        refine Wo.pre 1 (by kernel_rfl) ?_
        refine Wo.pre 1 (by kernel_rfl) ?_
        refine Wo.pre 1 (by kernel_rfl) ?_
        refine Wo.pre 1 (by kernel_rfl) ?_
        refine Wo.pre 1 (by kernel_rfl) ?_
        refine Wo.nil ?_
        refine Wp.seq ?_
        refine Wp.region ?_
        refine Wo.pre 1 (by kernel_rfl) ?_
        refine Wo.val (.agg D) H4 (by kernel_rfl) (iop_ld (a := ⟨h.n, 0, 0⟩) (by kernel_rfl) (Ld H4 g4).2.2.2) ?_
        refine Wo.call (by kernel_rfl) (by kernel_rfl) (cS5) ?_
        refine Wo.call (by kernel_rfl) (by kernel_rfl) (cT) ?_
        refine Wo.pre 1 (by kernel_rfl) ?_
        refine Wo.pre 1 (by kernel_rfl) ?_
        refine Wo.pre 1 (by kernel_rfl) ?_
        refine Wo.pre 1 (by kernel_rfl) ?_
        refine Wo.pre 1 (by kernel_rfl) ?_
        refine Wo.nil ?_
        refine Wp.seq ?_
        refine Wp.region ?_
        refine Wo.pre 1 (by kernel_rfl) ?_
        refine Wo.pre 1 (by kernel_rfl) ?_
        refine Wo.pre 1 (by kernel_rfl) ?_
        refine Wo.pre 1 (by kernel_rfl) ?_
        refine Wo.pre 1 (by kernel_rfl) ?_
        refine Wo.val y H6 (by kernel_rfl) (iop_ld (a := ⟨h.n, 0, 3⟩) (by kernel_rfl) (Ld H6 g6).2.2.1) ?_
        refine Wo.call (by kernel_rfl) (by kernel_rfl) (q1) ?_
        refine Wo.pre 1 (by kernel_rfl) ?_
        refine Wo.pre 1 (by kernel_rfl) ?_
        refine Wo.pre 1 (by kernel_rfl) ?_
        refine Wo.pre 1 (by kernel_rfl) ?_
        refine Wo.pre 1 (by kernel_rfl) ?_
        refine Wo.pre 1 (by kernel_rfl) ?_
        refine Wo.pre 1 (by kernel_rfl) ?_
        refine Wo.pre 1 (by kernel_rfl) ?_
        refine Wo.pre 1 (by kernel_rfl) ?_
        refine Wo.pre 1 (by kernel_rfl) ?_
        refine Wo.pre 1 (by kernel_rfl) ?_
        refine Wo.val y H6 (by kernel_rfl) (iop_ld (a := ⟨h.n, 0, 3⟩) (by kernel_rfl) (Ld H6 g6).2.2.1) ?_
        refine Wo.call (by kernel_rfl) (by kernel_rfl) (q2) ?_
        refine Wo.pre 1 (by kernel_rfl) ?_
        refine Wo.pre 1 (by kernel_rfl) ?_
        refine Wo.pre 1 (by kernel_rfl) ?_
        refine Wo.pre 1 (by kernel_rfl) ?_
        refine Wo.pre 1 (by kernel_rfl) ?_
        refine Wo.pre 1 (by kernel_rfl) ?_
        refine Wo.pre 1 (by kernel_rfl) ?_
        refine Wo.pre 1 (by kernel_rfl) ?_
        refine Wo.pre 1 (by kernel_rfl) ?_
        refine Wo.pre 1 (by kernel_rfl) ?_
        refine Wo.pre 1 (by kernel_rfl) ?_
        refine Wo.nil ?_
        refine Wp.cond false (by kernel_rfl) ?_
        refine Wp.skip ?_
        refine Wp.seq ?_
        refine Wp.region ?_
        refine Wo.pre 1 (by kernel_rfl) ?_
        refine Wo.nil ?_
        refine Wp.cond false (by kernel_rfl) ?_
        refine Wp.skip ?_
        refine Wp.region ?_
        refine Wo.pre 1 (by kernel_rfl) ?_
        refine Wo.pre 1 (by kernel_rfl) ?_
        refine Wo.nil ?_
        have hw6 : ∀ a n c, w6 = .sl a n c → rb < a.b := fun a n c e => by
          obtain ⟨a0, n0, c0, e0, q⟩ := sb6 a n c e
          rw [← q]; exact hw _ _ _ e0
        exact ih (i + 1) (by omega) H6 sb false _ _ _ (fun _ => ⟨rfl, rfl⟩) ⟨⟨v4, w6, R6, S6, hv4, hw6⟩, hrs, kp, by omega⟩ (by simp; omega) ⟨(by kernel_rfl), (by kernel_rfl), (by kernel_rfl), (by kernel_rfl), (by kernel_rfl), (by kernel_rfl), (by kernel_rfl), (by kernel_rfl), by rw [← w1]; kernel_rfl⟩ Q hQ
      · have hB : off ks (i + 1) > nn := Classical.not_not.1 hA
        by_cases hC : off ks i > nn
        · obtain rfl : sh = true := by rw [hsh]; simp; omega
          obtain ⟨kk, eS, hkk⟩ := cutS_B hp hB hpos
          have eS : cutS ks nn i = (t.enc ++ (encs ks).drop (off ks (i + 1))).take kk := eS
          have hkk : kk < t.enc.length := hkk
          have f1 := short_vec hvec ok4 eS hkk
          obtain ⟨H6, x6, w6, cT, S6, ox6, x7, sb6⟩ := vec_any S5 (t.sz : Int) hls
          rw [f1] at cT
          have n6 := x7.1
          have g6 : H6.get h.n = some (.cells 0 57 D 0 false) := by rw [x7.2 _ (by omega) (by omega)]; exact g5
          have R6 : Rd H6 rb v4 ((encs ks).drop (off ks (i + 1))) := R5.keep x7.1 (x7.2 _ (by omega) (by omega)) (fun a n c e => x7.2 _ (by have := hv4 a n c e; omega) (by have := hv4 a n c e; omega))
          have kp : ∀ b, b < rb → H6.get b = hb.get b := fun b hb' => by rw [x7.2 b (by omega) (by omega), X5.2 b (by omega), x4.2 b (by omega) (by omega), X3.2 b (by omega), X2.2 b (by omega)]; exact hJ.keep b hb'
          have hy6 : Bs H6 y t.b := by
            rcases ok1 with h0 | ⟨a, c, q1, q2, q3⟩
            · exact .inl h0
            · exact .inr ⟨a, c, q1, by omega, by rw [ldn_same (kp _ (ok1b _ _ _ q1))]; exact q3⟩
          have ox' : Ow H3.n H6 x t.b := by
            rcases ox with h0 | ⟨b, g, q1, q2, q3, q4⟩
            · exact .inl h0
            · exact .inr ⟨b, g, q1, by omega, by rw [x7.2 _ (by omega) (by omega), X5.2 _ (by omega)]; exact q3, q4⟩
          have q1 := equal_run ox'.bs hy6
          rw [show (t.b == t.b) = true by simp] at q1
          obtain ⟨p7, H7, cN, sb', w7, rfl, hsb', S7, X7, _, hw7⟩ := new_run (h := H6) (v := .nils) (l := []) (.inl ⟨rfl, rfl⟩) (by simp)
          refine Wp.skip ?_
          refine Wp.seq ?_
          refine Wp.block ?_
          refine Wp.seq ?_
          refine Wp.region ?_
          refine Wo.pre 1 (by kernel_rfl) ?_
          refine Wo.val _ h (by kernel_rfl) (iop_ia (a := ⟨kb, kg, 0⟩) (n := ks.length) (c := .op 4) (i := i) (by kernel_rfl) (by kernel_rfl) hlt) ?_
          refine Wo.val (.agg D) h (by kernel_rfl) (iop_ld (a := ⟨kb, kg, 0 + i * 4⟩) (by kernel_rfl) hact2) ?_
          refine Wo.val _ _ (by kernel_rfl) (enew _) ?_
          refine Wo.pre 1 (by kernel_rfl) ?_
          refine Wo.val .undef H2 (by kernel_rfl) (iop_stA (a := ⟨h.n, 0, 0⟩) (by kernel_rfl) (by kernel_rfl) hD4 st2) ?_
          refine Wo.nil ?_
          refine Wp.seq ?_
          refine Wp.region ?_
          refine Wo.pre 8 (by kernel_rfl) ?_
          refine Wo.pre 8 (by kernel_rfl) ?_
          refine Wo.nil ?_
          refine Wp.seq ?_
          refine Wp.seq ?_
          refine Wp.region ?_
          refine Wo.pre 1 (by kernel_rfl) ?_
          refine Wo.val (.bool true) H2 (by kernel_rfl) (iop_ld (a := ⟨h.n, 0, 0⟩) (by kernel_rfl) (by rw [← hvec']; exact (Ld H2 g2).1)) ?_
          refine Wo.nil ?_
          refine Wp.cond true (by kernel_rfl) ?_
          refine Wp.seq ?_
          refine Wp.region ?_
          refine Wo.pre 1 (by kernel_rfl) ?_
          refine Wo.val (.agg D) H2 (by kernel_rfl) (iop_ld (a := ⟨h.n, 0, 0⟩) (by kernel_rfl) (Ld H2 g2).2.2.2) ?_
          refine Wo.call (by kernel_rfl) (by kernel_rfl) (cS) ?_
          refine Wo.call (by kernel_rfl) (by kernel_rfl) (cR) ?_
          refine Wo.pre 8 (by kernel_rfl) ?_
          refine Wo.nil ?_
          refine Wp.seq ?_
          refine Wp.region ?_
          refine Wo.pre 1 (by kernel_rfl) ?_
          refine Wo.val (.agg D) H4 (by kernel_rfl) (iop_ld (a := ⟨h.n, 0, 0⟩) (by kernel_rfl) (Ld H4 g4).2.2.2) ?_
          refine Wo.call (by kernel_rfl) (by kernel_rfl) (cS5) ?_
          refine Wo.call (by kernel_rfl) (by kernel_rfl) (cT) ?_
          refine Wo.pre 8 (by kernel_rfl) ?_
          refine Wo.nil ?_
          refine Wp.seq ?_
          refine Wp.region ?_
          refine Wo.pre 3 (by kernel_rfl) ?_
          refine Wo.pre 1 (by kernel_rfl) ?_
          refine Wo.pre 1 (by kernel_rfl) ?_
          refine Wo.val y H6 (by kernel_rfl) (iop_ld (a := ⟨h.n, 0, 3⟩) (by kernel_rfl) (Ld H6 g6).2.2.1) ?_
          refine Wo.call (by kernel_rfl) (by kernel_rfl) (q1) ?_
          refine Wo.pre 8 (by kernel_rfl) ?_
          refine Wo.pre 8 (by kernel_rfl) ?_
          refine Wo.pre 8 (by kernel_rfl) ?_
          refine Wo.nil ?_
          refine Wp.cond false (by kernel_rfl) ?_
          refine Wp.skip ?_
          refine Wp.seq ?_
          refine Wp.region ?_
          refine Wo.pre 8 (by kernel_rfl) ?_
          refine Wo.nil ?_
          refine Wp.cond true (by kernel_rfl) ?_
          refine Wp.region ?_
          refine Wo.call (by kernel_rfl) (by kernel_rfl) (cN) ?_
          refine Wo.pre 8 (by kernel_rfl) ?_
          refine Wo.nil ?_
          refine Wp.region ?_
          refine Wo.pre 8 (by kernel_rfl) ?_
          refine Wo.nil ?_
          exact ih (i + 1) (by omega) H7 sb' true _ _ _ (fun _ => ⟨rfl, rfl⟩) ⟨⟨v4, w7, R6.ext X7, by rw [cutS, if_pos hB]; exact S7, hv4, fun a n c e => by have := hw7 a n c e; omega⟩, by omega, fun b hb' => by rw [X7.2 b (by omega)]; exact kp b hb', by have := X7.1; omega⟩ (by simp; omega) ⟨(by kernel_rfl), (by kernel_rfl), (by kernel_rfl), (by kernel_rfl), (by kernel_rfl), (by kernel_rfl), (by kernel_rfl), (by kernel_rfl), by rw [← w1]; kernel_rfl⟩ Q hQ
        · obtain rfl : sh = false := by rw [hsh]; simp; omega
          obtain ⟨kk, eS, hkk⟩ := cutS_B hp hB hpos
          have eS : cutS ks nn i = (t.enc ++ (encs ks).drop (off ks (i + 1))).take kk := eS
          have hkk : kk < t.enc.length := hkk
          have f1 := short_vec hvec ok4 eS hkk
          obtain ⟨H6, x6, w6, cT, S6, ox6, x7, sb6⟩ := vec_any S5 (t.sz : Int) hls
          rw [f1] at cT
          have n6 := x7.1
          have g6 : H6.get h.n = some (.cells 0 57 D 0 false) := by rw [x7.2 _ (by omega) (by omega)]; exact g5
          have R6 : Rd H6 rb v4 ((encs ks).drop (off ks (i + 1))) := R5.keep x7.1 (x7.2 _ (by omega) (by omega)) (fun a n c e => x7.2 _ (by have := hv4 a n c e; omega) (by have := hv4 a n c e; omega))
          have kp : ∀ b, b < rb → H6.get b = hb.get b := fun b hb' => by rw [x7.2 b (by omega) (by omega), X5.2 b (by omega), x4.2 b (by omega) (by omega), X3.2 b (by omega), X2.2 b (by omega)]; exact hJ.keep b hb'
          have hy6 : Bs H6 y t.b := by
            rcases ok1 with h0 | ⟨a, c, q1, q2, q3⟩
            · exact .inl h0
            · exact .inr ⟨a, c, q1, by omega, by rw [ldn_same (kp _ (ok1b _ _ _ q1))]; exact q3⟩
          have ox' : Ow H3.n H6 x t.b := by
            rcases ox with h0 | ⟨b, g, q1, q2, q3, q4⟩
            · exact .inl h0
            · exact .inr ⟨b, g, q1, by omega, by rw [x7.2 _ (by omega) (by omega), X5.2 _ (by omega)]; exact q3, q4⟩
          have q1 := equal_run ox'.bs hy6
          rw [show (t.b == t.b) = true by simp] at q1
          obtain ⟨p7, H7, cN, sb', w7, rfl, hsb', S7, X7, _, hw7⟩ := new_run (h := H6) (v := .nils) (l := []) (.inl ⟨rfl, rfl⟩) (by simp)
          refine Wp.skip ?_
          refine Wp.seq ?_
          refine Wp.block ?_
          refine Wp.seq ?_
          refine Wp.region ?_
          refine Wo.pre 1 (by kernel_rfl) ?_
          refine Wo.val _ h (by kernel_rfl) (iop_ia (a := ⟨kb, kg, 0⟩) (n := ks.length) (c := .op 4) (i := i) (by kernel_rfl) (by kernel_rfl) hlt) ?_
          refine Wo.val (.agg D) h (by kernel_rfl) (iop_ld (a := ⟨kb, kg, 0 + i * 4⟩) (by kernel_rfl) hact2) ?_
          refine Wo.val _ _ (by kernel_rfl) (enew _) ?_
          refine Wo.pre 1 (by kernel_rfl) ?_
          refine Wo.val .undef H2 (by kernel_rfl) (iop_stA (a := ⟨h.n, 0, 0⟩) (by kernel_rfl) (by kernel_rfl) hD4 st2) ?_
          refine Wo.nil ?_
          refine Wp.seq ?_
          refine Wp.region ?_
          refine Wo.pre 1 (by kernel_rfl) ?_
          refine Wo.pre 1 (by kernel_rfl) ?_
          refine Wo.pre 1 (by kernel_rfl) ?_
          refine Wo.pre 1 (by kernel_rfl) ?_
          refine Wo.val _ H2 (by kernel_rfl) (iop_ia (a := ⟨eb, eg, 0⟩) (n := ks.length) (c := .op 1) (i := i) (by kernel_rfl) (by kernel_rfl) hlt) ?_
          refine Wo.val (.int .i64 (off ks (i + 1) : Nat)) H2 (by kernel_rfl) (iop_ld (a := ⟨eb, eg, 0 + i * 1⟩) (by kernel_rfl) LE2) ?_
          refine Wo.pre 1 (by kernel_rfl) ?_
          refine Wo.val (.bool true) H2 (by kernel_rfl) (iop_gtB (k := .i64) (a := (off ks (i + 1) : Nat)) (b := nn) true (by kernel_rfl) (by kernel_rfl) (by simp; omega)) ?_
          refine Wo.pre 1 (by kernel_rfl) ?_
          refine Wo.pre 1 (by kernel_rfl) ?_
          refine Wo.nil ?_
          refine Wp.seq ?_
          refine Wp.seq ?_
          refine Wp.region ?_
          refine Wo.pre 1 (by kernel_rfl) ?_
          refine Wo.val (.bool true) H2 (by kernel_rfl) (iop_ld (a := ⟨h.n, 0, 0⟩) (by kernel_rfl) (by rw [← hvec']; exact (Ld H2 g2).1)) ?_
          refine Wo.nil ?_
          refine Wp.cond true (by kernel_rfl) ?_
          refine Wp.seq ?_
          refine Wp.region ?_
          refine Wo.pre 1 (by kernel_rfl) ?_
          refine Wo.val (.agg D) H2 (by kernel_rfl) (iop_ld (a := ⟨h.n, 0, 0⟩) (by kernel_rfl) (Ld H2 g2).2.2.2) ?_
          refine Wo.call (by kernel_rfl) (by kernel_rfl) (cS) ?_
          refine Wo.call (by kernel_rfl) (by kernel_rfl) (cR) ?_
          refine Wo.pre 1 (by kernel_rfl) ?_
          refine Wo.pre 1 (by kernel_rfl) ?_
          refine Wo.pre 1 (by kernel_rfl) ?_
          refine Wo.pre 1 (by kernel_rfl) ?_
          refine Wo.pre 1 (by kernel_rfl) ?_
          refine Wo.nil ?_
          refine Wp.seq ?_
          refine Wp.region ?_
          refine Wo.pre 1 (by kernel_rfl) ?_
          refine Wo.val (.agg D) H4 (by kernel_rfl) (iop_ld (a := ⟨h.n, 0, 0⟩) (by kernel_rfl) (Ld H4 g4).2.2.2) ?_
          refine Wo.call (by kernel_rfl) (by kernel_rfl) (cS5) ?_
          refine Wo.call (by kernel_rfl) (by kernel_rfl) (cT) ?_
          refine Wo.pre 1 (by kernel_rfl) ?_
          refine Wo.pre 1 (by kernel_rfl) ?_
          refine Wo.pre 1 (by kernel_rfl) ?_
          refine Wo.pre 1 (by kernel_rfl) ?_
          refine Wo.pre 1 (by kernel_rfl) ?_
          refine Wo.nil ?_
          refine Wp.seq ?_
          refine Wp.region ?_
          refine Wo.pre 1 (by kernel_rfl) ?_
          refine Wo.pre 1 (by kernel_rfl) ?_
          refine Wo.pre 1 (by kernel_rfl) ?_
          refine Wo.pre 1 (by kernel_rfl) ?_
          refine Wo.pre 1 (by kernel_rfl) ?_
          refine Wo.val y H6 (by kernel_rfl) (iop_ld (a := ⟨h.n, 0, 3⟩) (by kernel_rfl) (Ld H6 g6).2.2.1) ?_
          refine Wo.call (by kernel_rfl) (by kernel_rfl) (q1) ?_
          refine Wo.pre 1 (by kernel_rfl) ?_
          refine Wo.pre 1 (by kernel_rfl) ?_
          refine Wo.pre 1 (by kernel_rfl) ?_
          refine Wo.pre 1 (by kernel_rfl) ?_
          refine Wo.pre 1 (by kernel_rfl) ?_
          refine Wo.pre 1 (by kernel_rfl) ?_
          refine Wo.pre 1 (by kernel_rfl) ?_
          refine Wo.pre 1 (by kernel_rfl) ?_
          refine Wo.pre 1 (by kernel_rfl) ?_
          refine Wo.pre 1 (by kernel_rfl) ?_
          refine Wo.pre 1 (by kernel_rfl) ?_
          refine Wo.pre 1 (by kernel_rfl) ?_
          refine Wo.pre 1 (by kernel_rfl) ?_
          refine Wo.pre 1 (by kernel_rfl) ?_
          refine Wo.pre 1 (by kernel_rfl) ?_
          refine Wo.pre 1 (by kernel_rfl) ?_
          refine Wo.pre 1 (by kernel_rfl) ?_
          refine Wo.pre 1 (by kernel_rfl) ?_
          refine Wo.pre 1 (by kernel_rfl) ?_
          refine Wo.pre 1 (by kernel_rfl) ?_
          refine Wo.pre 1 (by kernel_rfl) ?_
          refine Wo.pre 1 (by kernel_rfl) ?_
          refine Wo.pre 1 (by kernel_rfl) ?_
          refine Wo.pre 1 (by kernel_rfl) ?_
          refine Wo.nil ?_
          refine Wp.cond false (by kernel_rfl) ?_
          refine Wp.skip ?_
          refine Wp.seq ?_
          refine Wp.region ?_
          refine Wo.pre 1 (by kernel_rfl) ?_
          refine Wo.nil ?_
          refine Wp.cond true (by kernel_rfl) ?_
          refine Wp.region ?_
          refine Wo.call (by kernel_rfl) (by kernel_rfl) (cN) ?_
          refine Wo.pre 1 (by kernel_rfl) ?_
          refine Wo.nil ?_
          refine Wp.region ?_
          refine Wo.pre 1 (by kernel_rfl) ?_
          refine Wo.pre 1 (by kernel_rfl) ?_
          refine Wo.nil ?_
          exact ih (i + 1) (by omega) H7 sb' true _ _ _ (fun _ => ⟨rfl, rfl⟩) ⟨⟨v4, w7, R6.ext X7, by rw [cutS, if_pos hB]; exact S7, hv4, fun a n c e => by have := hw7 a n c e; omega⟩, by omega, fun b hb' => by rw [X7.2 b (by omega)]; exact kp b hb', by have := X7.1; omega⟩ (by simp; omega) ⟨(by kernel_rfl), (by kernel_rfl), (by kernel_rfl), (by kernel_rfl), (by kernel_rfl), (by kernel_rfl), (by kernel_rfl), (by kernel_rfl), by rw [← w1]; kernel_rfl⟩ Q hQ
    · have hvec' : t.vec = false := by simpa using hvec
      obtain ⟨d1, d2, d3⟩ := dec_num hvec ok4 ((encs ks).drop (off ks (i + 1)))
      obtain ⟨H4, v4, cR, R4, x4, sb4⟩ := rdnum_any hR3 (t.sz : Int) hlr
      rw [d1, d2] at cR
      rw [d3] at R4
      have n4 := x4.1
      have g4 : H4.get h.n = some (.cells 0 57 D 0 false) := by rw [x4.2 _ (by omega) (by omega)]; exact g3
      have hv4 : ∀ a n c, v4 = .sl a n c → a.b < rb := fun a n c e => by
        obtain ⟨a0, n0, c0, e0, q⟩ := sb4 a n c e
        rw [← q]; exact hv _ _ _ e0
      have S4 : Rd H4 sb w (cutS ks nn i) := hS3.keep x4.1 (x4.2 _ (by omega) (by omega)) (fun a n c e => x4.2 _ (by have := hS.2.2.1.lt e; omega) (by have := hw a n c e; omega))
      obtain ⟨H5, cS5, X5⟩ := size_run (h := H4) hy1.2.1 t.vec t.size t.n
      rw [← hD] at cS5
      have cS5 : Runs TF 34 [.agg D] H4 (.int .i64 t.sz) H5 := cS5
      have n5 := X5.1
      have g5 : H5.get h.n = some (.cells 0 57 D 0 false) := by rw [X5.2 _ (by omega)]; exact g4
      have S5 := S4.ext X5
      have R5 := R4.ext X5
      by_cases hA : ¬ off ks (i + 1) > nn
      · obtain rfl : sh = false := by rw [hsh]; simp; omega
        have eS := cutS_A hp hA hnn
        have eS : cutS ks nn i = t.enc ++ cutS ks nn (i + 1) := eS
        rw [eS] at S5 hls
        obtain ⟨f1, f2, f3⟩ := dec_num hvec ok4 (cutS ks nn (i + 1))
        obtain ⟨H6, w6, cT, S6, x7, sb6⟩ := rdnum_any S5 (t.sz : Int) hls
        rw [f1, f2] at cT
        rw [f3] at S6
        have n6 := x7.1
        have g6 : H6.get h.n = some (.cells 0 57 D 0 false) := by rw [x7.2 _ (by omega) (by omega)]; exact g5
        have R6 : Rd H6 rb v4 ((encs ks).drop (off ks (i + 1))) := R5.keep x7.1 (x7.2 _ (by omega) (by omega)) (fun a n c e => x7.2 _ (by have := hv4 a n c e; omega) (by have := hv4 a n c e; omega))
        have kp : ∀ b, b < rb → H6.get b = hb.get b := fun b hb' => by rw [x7.2 b (by omega) (by omega), X5.2 b (by omega), x4.2 b (by omega) (by omega), X3.2 b (by omega), X2.2 b (by omega)]; exact hJ.keep b hb'
        refine Wp.skip ?_
        refine Wp.seq ?_
        refine Wp.block ?_
        refine Wp.seq ?_
        refine Wp.region ?_
        refine Wo.pre 1 (by kernel_rfl) ?_
        refine Wo.val _ h (by kernel_rfl) (iop_ia (a := ⟨kb, kg, 0⟩) (n := ks.length) (c := .op 4) (i := i) (by kernel_rfl) (by kernel_rfl) hlt) ?_
        refine Wo.val (.agg D) h (by kernel_rfl) (iop_ld (a := ⟨kb, kg, 0 + i * 4⟩) (by kernel_rfl) hact2) ?_
        refine Wo.val _ _ (by kernel_rfl) (enew _) ?_
        refine Wo.pre 1 (by kernel_rfl) ?_
        refine Wo.val .undef H2 (by kernel_rfl) (iop_stA (a := ⟨h.n, 0, 0⟩) (by kernel_rfl) (by kernel_rfl) hD4 st2) ?_
        refine Wo.nil ?_
        refine Wp.seq ?_
        refine Wp.region ?_
        refine Wo.pre 1 (by kernel_rfl) ?_
        refine Wo.pre 1 (by kernel_rfl) ?_
        refine Wo.pre 1 (by kernel_rfl) ?_
        refine Wo.pre 1 (by kernel_rfl) ?_
        refine Wo.val _ H2 (by kernel_rfl) (iop_ia (a := ⟨eb, eg, 0⟩) (n := ks.length) (c := .op 1) (i := i) (by kernel_rfl) (by kernel_rfl) hlt) ?_
        refine Wo.val (.int .i64 (off ks (i + 1) : Nat)) H2 (by kernel_rfl) (iop_ld (a := ⟨eb, eg, 0 + i * 1⟩) (by kernel_rfl) LE2) ?_
        refine Wo.pre 1 (by kernel_rfl) ?_
        refine Wo.val (.bool false) H2 (by kernel_rfl) (iop_gtB (k := .i64) (a := (off ks (i + 1) : Nat)) (b := nn) false (by kernel_rfl) (by kernel_rfl) (by simp; omega)) ?_
        refine Wo.pre 1 (by kernel_rfl) ?_
        refine Wo.pre 1 (by kernel_rfl) ?_
        refine Wo.nil ?_
        refine Wp.seq ?_
        refine Wp.seq ?_
        refine Wp.region ?_
        refine Wo.pre 1 (by kernel_rfl) ?_
        refine Wo.val (.bool false) H2 (by kernel_rfl) (iop_ld (a := ⟨h.n, 0, 0⟩) (by kernel_rfl) (by rw [← hvec']; exact (Ld H2 g2).1)) ?_
        refine Wo.nil ?_
        refine Wp.cond false (by kernel_rfl) ?_
        refine Wp.seq ?_
        refine Wp.region ?_
        refine Wo.pre 1 (by kernel_rfl) ?_
        refine Wo.val (.agg D) H2 (by kernel_rfl) (iop_ld (a := ⟨h.n, 0, 0⟩) (by kernel_rfl) (Ld H2 g2).2.2.2) ?_
        refine Wo.call (by kernel_rfl) (by kernel_rfl) (cS) ?_
        refine Wo.call (by kernel_rfl) (by kernel_rfl) (cR) ?_
        refine Wo.pre 1 (by kernel_rfl) ?_
        refine Wo.pre 1 (by kernel_rfl) ?_
        refine Wo.pre 1 (by kernel_rfl) ?_
        refine Wo.pre 1 (by kernel_rfl) ?_
        refine Wo.pre 1 (by kernel_rfl) ?_
        refine Wo.nil ?_
        refine Wp.seq ?_
        refine Wp.region ?_
        refine Wo.pre 1 (by kernel_rfl) ?_
        refine Wo.val (.agg D) H4 (by kernel_rfl) (iop_ld (a := ⟨h.n, 0, 0⟩) (by kernel_rfl) (Ld H4 g4).2.2.2) ?_
        refine Wo.call (by kernel_rfl) (by kernel_rfl) (cS5) ?_
        refine Wo.call (by kernel_rfl) (by kernel_rfl) (cT) ?_
        refine Wo.pre 1 (by kernel_rfl) ?_
        refine Wo.pre 1 (by kernel_rfl) ?_
        refine Wo.pre 1 (by kernel_rfl) ?_
        refine Wo.pre 1 (by kernel_rfl) ?_
        refine Wo.pre 1 (by kernel_rfl) ?_
        refine Wo.nil ?_
        refine Wp.seq ?_
        refine Wp.region ?_
        refine Wo.pre 1 (by kernel_rfl) ?_
        refine Wo.pre 1 (by kernel_rfl) ?_
        refine Wo.pre 1 (by kernel_rfl) ?_
        refine Wo.pre 1 (by kernel_rfl) ?_
        refine Wo.pre 1 (by kernel_rfl) ?_
        refine Wo.val (.int .u64 t.n) H6 (by kernel_rfl) (iop_ld (a := ⟨h.n, 0, 2⟩) (by kernel_rfl) (Ld H6 g6).2.1) ?_
        refine Wo.val (.bool false) H6 (by kernel_rfl) (iop_neB (k := .u64) (a := t.n) (b := t.n) false (by kernel_rfl) (by kernel_rfl) (by simp)) ?_
        refine Wo.pre 1 (by kernel_rfl) ?_
        refine Wo.pre 1 (by kernel_rfl) ?_
        refine Wo.pre 1 (by kernel_rfl) ?_
        refine Wo.pre 1 (by kernel_rfl) ?_
        refine Wo.pre 1 (by kernel_rfl) ?_
        refine Wo.pre 1 (by kernel_rfl) ?_
        refine Wo.pre 1 (by kernel_rfl) ?_
        refine Wo.pre 1 (by kernel_rfl) ?_
        refine Wo.pre 1 (by kernel_rfl) ?_
        refine Wo.pre 1 (by kernel_rfl) ?_
        refine Wo.val (.int .u64 t.n) H6 (by kernel_rfl) (iop_ld (a := ⟨h.n, 0, 2⟩) (by kernel_rfl) (Ld H6 g6).2.1) ?_
        refine Wo.val (.bool false) H6 (by kernel_rfl) (iop_neB (k := .u64) (a := t.n) (b := t.n) false (by kernel_rfl) (by kernel_rfl) (by simp)) ?_
        refine Wo.pre 1 (by kernel_rfl) ?_
        refine Wo.pre 1 (by kernel_rfl) ?_
        refine Wo.pre 1 (by kernel_rfl) ?_
        refine Wo.pre 1 (by kernel_rfl) ?_
        refine Wo.pre 1 (by kernel_rfl) ?_
        refine Wo.pre 1 (by kernel_rfl) ?_
        refine Wo.pre 1 (by kernel_rfl) ?_
        refine Wo.pre 1 (by kernel_rfl) ?_
        refine Wo.pre 1 (by kernel_rfl) ?_
        refine Wo.pre 1 (by kernel_rfl) ?_
        refine Wo.nil ?_
        refine Wp.cond false (by kernel_rfl) ?_
        refine Wp.skip ?_
        refine Wp.seq ?_
        refine Wp.region ?_
        refine Wo.pre 1 (by kernel_rfl) ?_
        refine Wo.nil ?_
        refine Wp.cond false (by kernel_rfl) ?_
        refine Wp.skip ?_
        refine Wp.region ?_
        refine Wo.pre 1 (by kernel_rfl) ?_
        refine Wo.pre 1 (by kernel_rfl) ?_
        refine Wo.nil ?_
        have hw6 : ∀ a n c, w6 = .sl a n c → rb < a.b := fun a n c e => by
          obtain ⟨a0, n0, c0, e0, q⟩ := sb6 a n c e
          rw [← q]; exact hw _ _ _ e0
        exact ih (i + 1) (by omega) H6 sb false _ _ _ (fun _ => ⟨rfl, rfl⟩) ⟨⟨v4, w6, R6, S6, hv4, hw6⟩, hrs, kp, by omega⟩ (by simp; omega) ⟨(by kernel_rfl), (by kernel_rfl), (by kernel_rfl), (by kernel_rfl), (by kernel_rfl), (by kernel_rfl), (by kernel_rfl), (by kernel_rfl), by rw [← w1]; kernel_rfl⟩ Q hQ
      · have hB : off ks (i + 1) > nn := Classical.not_not.1 hA
        by_cases hC : off ks i > nn
        · obtain rfl : sh = true := by rw [hsh]; simp; omega
          obtain ⟨kk, eS, hkk⟩ := cutS_B hp hB hpos
          have eS : cutS ks nn i = (t.enc ++ (encs ks).drop (off ks (i + 1))).take kk := eS
          have hkk : kk < t.enc.length := hkk
          have hcl : (cutS ks nn i).length < t.enc.length := by rw [eS, List.length_take]; omega
          have f1 := short_num hvec hcl
          obtain ⟨H6, w6, cT, S6, x7, sb6⟩ := rdnum_any S5 (t.sz : Int) hls
          rw [f1] at cT
          have n6 := x7.1
          have g6 : H6.get h.n = some (.cells 0 57 D 0 false) := by rw [x7.2 _ (by omega) (by omega)]; exact g5
          have R6 : Rd H6 rb v4 ((encs ks).drop (off ks (i + 1))) := R5.keep x7.1 (x7.2 _ (by omega) (by omega)) (fun a n c e => x7.2 _ (by have := hv4 a n c e; omega) (by have := hv4 a n c e; omega))
          have kp : ∀ b, b < rb → H6.get b = hb.get b := fun b hb' => by rw [x7.2 b (by omega) (by omega), X5.2 b (by omega), x4.2 b (by omega) (by omega), X3.2 b (by omega), X2.2 b (by omega)]; exact hJ.keep b hb'
          obtain ⟨p7, H7, cN, sb', w7, rfl, hsb', S7, X7, _, hw7⟩ := new_run (h := H6) (v := .nils) (l := []) (.inl ⟨rfl, rfl⟩) (by simp)
          refine Wp.skip ?_
          refine Wp.seq ?_
          refine Wp.block ?_
          refine Wp.seq ?_
          refine Wp.region ?_
          refine Wo.pre 1 (by kernel_rfl) ?_
          refine Wo.val _ h (by kernel_rfl) (iop_ia (a := ⟨kb, kg, 0⟩) (n := ks.length) (c := .op 4) (i := i) (by kernel_rfl) (by kernel_rfl) hlt) ?_
          refine Wo.val (.agg D) h (by kernel_rfl) (iop_ld (a := ⟨kb, kg, 0 + i * 4⟩) (by kernel_rfl) hact2) ?_
          refine Wo.val _ _ (by kernel_rfl) (enew _) ?_
          refine Wo.pre 1 (by kernel_rfl) ?_
          refine Wo.val .undef H2 (by kernel_rfl) (iop_stA (a := ⟨h.n, 0, 0⟩) (by kernel_rfl) (by kernel_rfl) hD4 st2) ?_
          refine Wo.nil ?_
          refine Wp.seq ?_
          refine Wp.region ?_
          refine Wo.pre 1 (by kernel_rfl) ?_
          refine Wo.pre 1 (by kernel_rfl) ?_
          refine Wo.pre 1 (by kernel_rfl) ?_
          refine Wo.pre 1 (by kernel_rfl) ?_
          refine Wo.pre 1 (by kernel_rfl) ?_
          refine Wo.pre 1 (by kernel_rfl) ?_
          refine Wo.pre 1 (by kernel_rfl) ?_
          refine Wo.pre 1 (by kernel_rfl) ?_
          refine Wo.pre 1 (by kernel_rfl) ?_
          refine Wo.pre 1 (by kernel_rfl) ?_
          refine Wo.nil ?_
          refine Wp.seq ?_
          refine Wp.seq ?_
          refine Wp.region ?_
          refine Wo.pre 1 (by kernel_rfl) ?_
          refine Wo.val (.bool false) H2 (by kernel_rfl) (iop_ld (a := ⟨h.n, 0, 0⟩) (by kernel_rfl) (by rw [← hvec']; exact (Ld H2 g2).1)) ?_
          refine Wo.nil ?_
          refine Wp.cond false (by kernel_rfl) ?_
          refine Wp.seq ?_
          refine Wp.region ?_
          refine Wo.pre 1 (by kernel_rfl) ?_
          refine Wo.val (.agg D) H2 (by kernel_rfl) (iop_ld (a := ⟨h.n, 0, 0⟩) (by kernel_rfl) (Ld H2 g2).2.2.2) ?_
          refine Wo.call (by kernel_rfl) (by kernel_rfl) (cS) ?_
          refine Wo.call (by kernel_rfl) (by kernel_rfl) (cR) ?_
          refine Wo.pre 1 (by kernel_rfl) ?_
          refine Wo.pre 1 (by kernel_rfl) ?_
          refine Wo.pre 1 (by kernel_rfl) ?_
          refine Wo.pre 1 (by kernel_rfl) ?_
          refine Wo.pre 1 (by kernel_rfl) ?_
          refine Wo.nil ?_
          refine Wp.seq ?_
          refine Wp.region ?_
          refine Wo.pre 1 (by kernel_rfl) ?_
          refine Wo.val (.agg D) H4 (by kernel_rfl) (iop_ld (a := ⟨h.n, 0, 0⟩) (by kernel_rfl) (Ld H4 g4).2.2.2) ?_
          refine Wo.call (by kernel_rfl) (by kernel_rfl) (cS5) ?_
          refine Wo.call (by kernel_rfl) (by kernel_rfl) (cT) ?_
          refine Wo.pre 1 (by kernel_rfl) ?_
          refine Wo.pre 1 (by kernel_rfl) ?_
          refine Wo.pre 1 (by kernel_rfl) ?_
          refine Wo.pre 1 (by kernel_rfl) ?_
          refine Wo.pre 1 (by kernel_rfl) ?_
          refine Wo.nil ?_
          refine Wp.seq ?_
          refine Wp.region ?_
          refine Wo.pre 1 (by kernel_rfl) ?_
          refine Wo.pre 1 (by kernel_rfl) ?_
          refine Wo.pre 1 (by kernel_rfl) ?_
          refine Wo.pre 1 (by kernel_rfl) ?_
          refine Wo.pre 1 (by kernel_rfl) ?_
          refine Wo.val (.int .u64 t.n) H6 (by kernel_rfl) (iop_ld (a := ⟨h.n, 0, 2⟩) (by kernel_rfl) (Ld H6 g6).2.1) ?_
          refine Wo.val (.bool false) H6 (by kernel_rfl) (iop_neB (k := .u64) (a := t.n) (b := t.n) false (by kernel_rfl) (by kernel_rfl) (by simp)) ?_
          refine Wo.pre 1 (by kernel_rfl) ?_
          refine Wo.pre 1 (by kernel_rfl) ?_
          refine Wo.pre 1 (by kernel_rfl) ?_
          refine Wo.pre 1 (by kernel_rfl) ?_
          refine Wo.pre 1 (by kernel_rfl) ?_
          refine Wo.pre 1 (by kernel_rfl) ?_
          refine Wo.pre 1 (by kernel_rfl) ?_
          refine Wo.pre 1 (by kernel_rfl) ?_
          refine Wo.pre 1 (by kernel_rfl) ?_
          refine Wo.pre 1 (by kernel_rfl) ?_
          refine Wo.pre 1 (by kernel_rfl) ?_
          refine Wo.pre 1 (by kernel_rfl) ?_
          refine Wo.pre 1 (by kernel_rfl) ?_
          refine Wo.pre 1 (by kernel_rfl) ?_
          refine Wo.pre 1 (by kernel_rfl) ?_
          refine Wo.pre 1 (by kernel_rfl) ?_
          refine Wo.pre 1 (by kernel_rfl) ?_
          refine Wo.pre 1 (by kernel_rfl) ?_
          refine Wo.pre 1 (by kernel_rfl) ?_
          refine Wo.pre 1 (by kernel_rfl) ?_
          refine Wo.pre 1 (by kernel_rfl) ?_
          refine Wo.pre 1 (by kernel_rfl) ?_
          refine Wo.nil ?_
          refine Wp.cond false (by kernel_rfl) ?_
          refine Wp.skip ?_
          refine Wp.seq ?_
          refine Wp.region ?_
          refine Wo.pre 1 (by kernel_rfl) ?_
          refine Wo.nil ?_
          refine Wp.cond true (by kernel_rfl) ?_
          refine Wp.region ?_
          refine Wo.call (by kernel_rfl) (by kernel_rfl) (cN) ?_
          refine Wo.pre 1 (by kernel_rfl) ?_
          refine Wo.nil ?_
          refine Wp.region ?_
          refine Wo.pre 1 (by kernel_rfl) ?_
          refine Wo.pre 1 (by kernel_rfl) ?_
          refine Wo.nil ?_
          exact ih (i + 1) (by omega) H7 sb' true _ _ _ (fun _ => ⟨rfl, rfl⟩) ⟨⟨v4, w7, R6.ext X7, by rw [cutS, if_pos hB]; exact S7, hv4, fun a n c e => by have := hw7 a n c e; omega⟩, by omega, fun b hb' => by rw [X7.2 b (by omega)]; exact kp b hb', by have := X7.1; omega⟩ (by simp; omega) ⟨(by kernel_rfl), (by kernel_rfl), (by kernel_rfl), (by kernel_rfl), (by kernel_rfl), (by kernel_rfl), (by kernel_rfl), (by kernel_rfl), by rw [← w1]; kernel_rfl⟩ Q hQ
        · obtain rfl : sh = false := by rw [hsh]; simp; omega
          obtain ⟨kk, eS, hkk⟩ := cutS_B hp hB hpos
          have eS : cutS ks nn i = (t.enc ++ (encs ks).drop (off ks (i + 1))).take kk := eS
          have hkk : kk < t.enc.length := hkk
          have hcl : (cutS ks nn i).length < t.enc.length := by rw [eS, List.length_take]; omega
          have f1 := short_num hvec hcl
          obtain ⟨H6, w6, cT, S6, x7, sb6⟩ := rdnum_any S5 (t.sz : Int) hls
          rw [f1] at cT
          have n6 := x7.1
          have g6 : H6.get h.n = some (.cells 0 57 D 0 false) := by rw [x7.2 _ (by omega) (by omega)]; exact g5
          have R6 : Rd H6 rb v4 ((encs ks).drop (off ks (i + 1))) := R5.keep x7.1 (x7.2 _ (by omega) (by omega)) (fun a n c e => x7.2 _ (by have := hv4 a n c e; omega) (by have := hv4 a n c e; omega))
          have kp : ∀ b, b < rb → H6.get b = hb.get b := fun b hb' => by rw [x7.2 b (by omega) (by omega), X5.2 b (by omega), x4.2 b (by omega) (by omega), X3.2 b (by omega), X2.2 b (by omega)]; exact hJ.keep b hb'
          obtain ⟨p7, H7, cN, sb', w7, rfl, hsb', S7, X7, _, hw7⟩ := new_run (h := H6) (v := .nils) (l := []) (.inl ⟨rfl, rfl⟩) (by simp)
          refine Wp.skip ?_
          refine Wp.seq ?_
          refine Wp.block ?_
          refine Wp.seq ?_
          refine Wp.region ?_
          refine Wo.pre 1 (by kernel_rfl) ?_
          refine Wo.val _ h (by kernel_rfl) (iop_ia (a := ⟨kb, kg, 0⟩) (n := ks.length) (c := .op 4) (i := i) (by kernel_rfl) (by kernel_rfl) hlt) ?_
          refine Wo.val (.agg D) h (by kernel_rfl) (iop_ld (a := ⟨kb, kg, 0 + i * 4⟩) (by kernel_rfl) hact2) ?_
          refine Wo.val _ _ (by kernel_rfl) (enew _) ?_
          refine Wo.pre 1 (by kernel_rfl) ?_
          refine Wo.val .undef H2 (by kernel_rfl) (iop_stA (a := ⟨h.n, 0, 0⟩) (by kernel_rfl) (by kernel_rfl) hD4 st2) ?_
          refine Wo.nil ?_
          refine Wp.seq ?_
          refine Wp.region ?_
          refine Wo.pre 1 (by kernel_rfl) ?_
          refine Wo.pre 1 (by kernel_rfl) ?_
          refine Wo.pre 1 (by kernel_rfl) ?_
          refine Wo.pre 1 (by kernel_rfl) ?_
          refine Wo.val _ H2 (by kernel_rfl) (iop_ia (a := ⟨eb, eg, 0⟩) (n := ks.length) (c := .op 1) (i := i) (by kernel_rfl) (by kernel_rfl) hlt) ?_
          refine Wo.val (.int .i64 (off ks (i + 1) : Nat)) H2 (by kernel_rfl) (iop_ld (a := ⟨eb, eg, 0 + i * 1⟩) (by kernel_rfl) LE2) ?_
          refine Wo.pre 1 (by kernel_rfl) ?_
          refine Wo.val (.bool true) H2 (by kernel_rfl) (iop_gtB (k := .i64) (a := (off ks (i + 1) : Nat)) (b := nn) true (by kernel_rfl) (by kernel_rfl) (by simp; omega)) ?_
          refine Wo.pre 1 (by kernel_rfl) ?_
          refine Wo.pre 1 (by kernel_rfl) ?_
          refine Wo.nil ?_
          refine Wp.seq ?_
          refine Wp.seq ?_
          refine Wp.region ?_
          refine Wo.pre 1 (by kernel_rfl) ?_
          refine Wo.val (.bool false) H2 (by kernel_rfl) (iop_ld (a := ⟨h.n, 0, 0⟩) (by kernel_rfl) (by rw [← hvec']; exact (Ld H2 g2).1)) ?_
          refine Wo.nil ?_
          refine Wp.cond false (by kernel_rfl) ?_
          refine Wp.seq ?_
          refine Wp.region ?_
          refine Wo.pre 1 (by kernel_rfl) ?_
          refine Wo.val (.agg D) H2 (by kernel_rfl) (iop_ld (a := ⟨h.n, 0, 0⟩) (by kernel_rfl) (Ld H2 g2).2.2.2) ?_
          refine Wo.call (by kernel_rfl) (by kernel_rfl) (cS) ?_
          refine Wo.call (by kernel_rfl) (by kernel_rfl) (cR) ?_
          refine Wo.pre 1 (by kernel_rfl) ?_
          refine Wo.pre 1 (by kernel_rfl) ?_
          refine Wo.pre 1 (by kernel_rfl) ?_
          refine Wo.pre 1 (by kernel_rfl) ?_
          refine Wo.pre 1 (by kernel_rfl) ?_
          refine Wo.nil ?_
          refine Wp.seq ?_
          refine Wp.region ?_
          refine Wo.pre 1 (by kernel_rfl) ?_
          refine Wo.val (.agg D) H4 (by kernel_rfl) (iop_ld (a := ⟨h.n, 0, 0⟩) (by kernel_rfl) (Ld H4 g4).2.2.2) ?_
          refine Wo.call (by kernel_rfl) (by kernel_rfl) (cS5) ?_
          refine Wo.call (by kernel_rfl) (by kernel_rfl) (cT) ?_
          refine Wo.pre 1 (by kernel_rfl) ?_
          refine Wo.pre 1 (by kernel_rfl) ?_
          refine Wo.pre 1 (by kernel_rfl) ?_
          refine Wo.pre 1 (by kernel_rfl) ?_
          refine Wo.pre 1 (by kernel_rfl) ?_
          refine Wo.nil ?_
          refine Wp.seq ?_
          refine Wp.region ?_
          refine Wo.pre 1 (by kernel_rfl) ?_
          refine Wo.pre 1 (by kernel_rfl) ?_
          refine Wo.pre 1 (by kernel_rfl) ?_
          refine Wo.pre 1 (by kernel_rfl) ?_
          refine Wo.pre 1 (by kernel_rfl) ?_
          refine Wo.val (.int .u64 t.n) H6 (by kernel_rfl) (iop_ld (a := ⟨h.n, 0, 2⟩) (by kernel_rfl) (Ld H6 g6).2.1) ?_
          refine Wo.val (.bool false) H6 (by kernel_rfl) (iop_neB (k := .u64) (a := t.n) (b := t.n) false (by kernel_rfl) (by kernel_rfl) (by simp)) ?_
          refine Wo.pre 1 (by kernel_rfl) ?_
          refine Wo.pre 1 (by kernel_rfl) ?_
          refine Wo.pre 1 (by kernel_rfl) ?_
          refine Wo.pre 1 (by kernel_rfl) ?_
          refine Wo.pre 1 (by kernel_rfl) ?_
          refine Wo.pre 1 (by kernel_rfl) ?_
          refine Wo.pre 1 (by kernel_rfl) ?_
          refine Wo.pre 1 (by kernel_rfl) ?_
          refine Wo.pre 1 (by kernel_rfl) ?_
          refine Wo.pre 1 (by kernel_rfl) ?_
          refine Wo.pre 1 (by kernel_rfl) ?_
          refine Wo.pre 1 (by kernel_rfl) ?_
          refine Wo.pre 1 (by kernel_rfl) ?_
          refine Wo.pre 1 (by kernel_rfl) ?_
          refine Wo.pre 1 (by kernel_rfl) ?_
          refine Wo.pre 1 (by kernel_rfl) ?_
          refine Wo.pre 1 (by kernel_rfl) ?_
          refine Wo.pre 1 (by kernel_rfl) ?_
          refine Wo.pre 1 (by kernel_rfl) ?_
          refine Wo.pre 1 (by kernel_rfl) ?_
          refine Wo.pre 1 (by kernel_rfl) ?_
          refine Wo.pre 1 (by kernel_rfl) ?_
          refine Wo.nil ?_
          refine Wp.cond false (by kernel_rfl) ?_
          refine Wp.skip ?_
          refine Wp.seq ?_
          refine Wp.region ?_
          refine Wo.pre 1 (by kernel_rfl) ?_
          refine Wo.nil ?_
          refine Wp.cond true (by kernel_rfl) ?_
          refine Wp.region ?_
          refine Wo.call (by kernel_rfl) (by kernel_rfl) (cN) ?_
          refine Wo.pre 1 (by kernel_rfl) ?_
          refine Wo.nil ?_
          refine Wp.region ?_
          refine Wo.pre 1 (by kernel_rfl) ?_
          refine Wo.pre 1 (by kernel_rfl) ?_
          refine Wo.nil ?_
          exact ih (i + 1) (by omega) H7 sb' true _ _ _ (fun _ => ⟨rfl, rfl⟩) ⟨⟨v4, w7, R6.ext X7, by rw [cutS, if_pos hB]; exact S7, hv4, fun a n c e => by have := hw7 a n c e; omega⟩, by omega, fun b hb' => by rw [X7.2 b (by omega)]; exact kp b hb', by have := X7.1; omega⟩ (by simp; omega) ⟨(by kernel_rfl), (by kernel_rfl), (by kernel_rfl), (by kernel_rfl), (by kernel_rfl), (by kernel_rfl), (by kernel_rfl), (by kernel_rfl), by rw [← w1]; kernel_rfl⟩ Q hQ
end Go.Det
